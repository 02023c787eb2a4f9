/-
Stand-in: the walks of the program's Waiting and New.
Conditions: none.
-/
import Derived.Test.YtmjkjpjjckcihaaStD
import Derived.Test.YtmjkjpjjckcihaaNam
namespace Go.Proofs.Ytmjkjpjjckcihaa
open Go.Vm
set_option linter.unusedSimpArgs false
set_option linter.unusedVariables false
set_option maxHeartbeats 4000000
set_option maxRecDepth 20000
theorem waitL_step {L : List Dec} {iss : List UInt8} {e : Nat} {d : Dec} (hx : L[e]? = some d) : waitL iss (L.take (e + 1)) = waitL iss (L.take e) ++ (if d.iss = iss ∧ d.wai = true then [d] else []) := by
  unfold waitL
  rw [List.take_add_one, hx, List.filter_append]
  congr 1
  by_cases h1 : d.iss = iss <;> by_cases h2 : d.wai = true <;> simp [h1, h2]
theorem waitL_len (L : List Dec) (iss : List UInt8) : (waitL iss L).length ≤ L.length := by
  unfold waitL; exact List.length_filter_le _ _
theorem adv_app {v' : Value} {B' : AH} {T : List Dec} {t : Dec} (ho' : OwnZ 64 5 v' B' (T.length + 1) (T.flatMap advC ++ advC t)) : OwnL advC 5 64 v' B' (T ++ [t]) := by
  unfold OwnL
  rw [List.length_append, List.flatMap_append]
  simpa using ho'
theorem sc_adv (a b c : ByteArray) (d e : Int) : sliceCells Try.prog 45 1 [(0, .agg #[.string a, .string b, .string c, .int .i64 d, .int .i64 e])] = some (64, #[.string a, .string b, .string c, .int .i64 d, .int .i64 e]) := by kernel_rfl
theorem waiting_h (E : AH) (sb : Nat) (lm : List Lim) (D : List (Nat × Dec)) (hE : StP E sb lm D) (iss : List UInt8) : CallA Try.prog 23 #[.pointer (some ⟨sb, 0, none⟩), .string (bs iss)] E (fun u_ A_ => ∃ v B, u_ = v ∧ OwnL advC 5 64 v B (waitL iss (D.map Prod.snd)) ∧ Dis B E ∧ SubA (B ++ E) A_) := by
  refine callA_of_denA ⟨Try.prog, 23, Try.f23, 47, [0, 1, 4, 5, 7, 13, 14, 15], [], [(7, .q false)], _⟩ (args := [_, _]) Try.func23 rfl (by kernel_rfl) Try.ntmps23 (by simp) (by kernel_rfl) ?_
  intro ν fr; have nuE := fr.nu
  obtain ⟨lr, kr, wr, cap, q, es1, cl1, es2, cl2, es3, cl3, W, lsb, h1, h2, ⟨h3, hm3⟩, hw, hs, hb, hu, hamt, hlen, _⟩ := hE.out
  rw [List.length_map] at hlen
  simp (maxDischargeDepth := 16) only [argE_nil, argE_cons, ↓vmD, vmV, vmStd, Nat.reduceMul, ↓reduceIte, Nat.reduceAdd, Nat.reduceSub, Nat.reduceEqDiff, Nat.reduceLT, Nat.reduceLeDiff, reduceCtorEq, Int.reduceToNat, Int.reduceLT, Int.reduceLE, Int.reduceEq, Int.reduceNeg, Int.reduceBEq, Int.reduceBNe, String.reduceEq, forall_const, ↓vmDA, vmVA, ↓vmQA, vmR, vmRA, ↓vmSA, vmSV, tyS, nuE, SubA.skip, SubA.refl, fr.2, areDigits_v, panSum_v, rdigits_v, rsum_v, panLuhn_v, rLuhn_v, panCheck_v, rCheck_v, calIsDate_v, calDay_v, stLim_v, slIndexByte_v, indexByte_v, indexRune_v, containsRune_v, classOf_v, isWordByte_v, letter_v, digit_v, wordAt_v, rword_v, isName_v, risName_v, lsb]
  obtain ⟨e, l, v, B, he, hv, hB, hd, hle, ho, d⟩ : ∃ (e : Nat) (l : List (Nat × Dec)) (v : Value) (B : AH), e = 0 ∧ v = .slice none 0 0 ∧ B = [] ∧ l = D.drop e ∧ e ≤ D.length ∧ OwnL advC 5 64 v B (waitL iss ((D.map Prod.snd).take e)) ∧ Dis B E :=
    ⟨0, D, _, [], rfl, rfl, rfl, rfl, by simp, OwnL.nil _ _ _, Dis.nil _⟩
  rw [show (15, some (Value.int .i64 0)) = (15, some (Value.int .i64 (e : Int))) by rw [he]; rfl]
  rw [show (5, some (Value.slice none 0 0)) = (5, some v) by rw [hv]]
  refine LoopA.at (A := B ++ E) (by subst hB; exact SubA.refl _) ?_
  clear he hv hB nuE fr
  induction l generalizing e v B with
  | nil =>
    obtain ⟨hn1, hn2⟩ := drop_nil hd hle
    have lt : ((e : Int) < (D.length : Int)) = False := eq_false (by omega)
    rw [List.take_of_length_le (by rw [List.length_map]; omega)] at ho
    refine LoopA.intro (by kernel_rfl) ?_
    intro ν fr; have nuE := fr.nu
    simp (maxDischargeDepth := 16) only [argE_nil, argE_cons, ↓vmD, vmV, vmStd, Nat.reduceMul, ↓reduceIte, Nat.reduceAdd, Nat.reduceSub, Nat.reduceEqDiff, Nat.reduceLT, Nat.reduceLeDiff, reduceCtorEq, Int.reduceToNat, Int.reduceLT, Int.reduceLE, Int.reduceEq, Int.reduceNeg, Int.reduceBEq, Int.reduceBNe, String.reduceEq, forall_const, ↓vmDA, vmVA, ↓vmQA, vmR, vmRA, ↓vmSA, vmSV, tyS, nuE, SubA.skip, SubA.refl, fr.2, areDigits_v, panSum_v, rdigits_v, rsum_v, panLuhn_v, rLuhn_v, panCheck_v, rCheck_v, calIsDate_v, calDay_v, stLim_v, slIndexByte_v, indexByte_v, indexRune_v, containsRune_v, classOf_v, isWordByte_v, letter_v, digit_v, wordAt_v, rword_v, isName_v, risName_v, lt]
    exact ⟨_, B, rfl, ho, d, SubA.refl _⟩
  | cons x l ih =>
    obtain ⟨b, x⟩ := x
    obtain ⟨ha, hlt, hd', htk⟩ := drop_some hd
    have lt : ((e : Int) < (D.length : Int)) = True := eq_true (by omega)
    have we : IntKind.i64.wrap ((e : Int) + 1) = ((e + 1 : Nat) : Int) := by rw [w_i64 (by omega) (by omega)]; omega
    have ha1 : (D.map Prod.fst)[e]? = some b := by rw [List.getElem?_map, ha]; rfl
    have ha2 : (D.map Prod.snd)[e]? = some x := by rw [List.getElem?_map, ha]; rfl
    obtain ⟨bk, off, cs, ty, fr0, hp0, hbk, hcr, hcc⟩ := hs.at ha1
    subst hp0
    have lbk := d.right _ _ hbk
    have hc0 : cs[off + e * 1]? = some (.pointer (some ⟨b, 0, none⟩)) := hcc 0 _ rfl
    have lb := d.right _ _ (hb e b x ha)
    simp only [decO, decC] at lb
    have lsb2 := d.right _ _ lsb
    have lk := rdA_lookup (s := bs x.key) (A := B ++ E) (ok := false) (es := es3) (cl := cl3) (r := wr) und_w und_s zro4 (d.right _ _ h3) hm3
    rw [hw.2 x.key, waitD_at hu ha2] at lk
    have t1 : ((bs x.iss).toList = (bs iss).toList) = (x.iss = iss) := by rw [bs_list, bs_list]
    have hst := waitL_step (iss := iss) ha2
    refine LoopA.intro (by kernel_rfl) ?_
    intro ν fr; have nuE := fr.nu
    by_cases a1 : x.iss = iss
    · have a1t := eq_true a1
      cases a2 : x.wai with
      | false =>
        simp only [a2, Bool.false_eq_true, if_false, Option.getD_none] at lk
        rw [if_neg (fun h => by rw [a2] at h; cases h.2), List.append_nil] at hst
        simp (maxDischargeDepth := 16) only [argE_nil, argE_cons, ↓vmD, vmV, vmStd, Nat.reduceMul, ↓reduceIte, Nat.reduceAdd, Nat.reduceSub, Nat.reduceEqDiff, Nat.reduceLT, Nat.reduceLeDiff, reduceCtorEq, Int.reduceToNat, Int.reduceLT, Int.reduceLE, Int.reduceEq, Int.reduceNeg, Int.reduceBEq, Int.reduceBNe, String.reduceEq, forall_const, ↓vmDA, vmVA, ↓vmQA, vmR, vmRA, ↓vmSA, vmSV, tyS, nuE, SubA.skip, SubA.refl, fr.2, areDigits_v, panSum_v, rdigits_v, rsum_v, panLuhn_v, rLuhn_v, panCheck_v, rCheck_v, calIsDate_v, calDay_v, stLim_v, slIndexByte_v, indexByte_v, indexRune_v, containsRune_v, classOf_v, isWordByte_v, letter_v, digit_v, wordAt_v, rword_v, isName_v, risName_v, lt, lbk, hc0, lb, lsb2, t1, a1t, lk, we]
        exact LoopA.weak (ih (e + 1) v B hd' (by omega) (by rw [hst]; exact ho) d) (by simp only [subE, get_cons, Nat.reduceEqDiff, ↓reduceIte, reduceCtorEq, Nat.reduceAdd, and_self, and_true]) (SubA.refl _)
      | true =>
        simp only [a2, Bool.false_eq_true, if_false, if_true, Option.getD_some] at lk
        rw [if_pos ⟨a1, a2⟩] at hst
        have b1 := waitL_len ((D.map Prod.snd).take e) iss
        rw [List.length_take, List.length_map] at b1
        obtain ⟨q2, vcap, rfl, hvc, hvs⟩ := ho.read advC_len
        simp (maxDischargeDepth := 16) only [argE_nil, argE_cons, ↓vmD, vmV, vmStd, Nat.reduceMul, ↓reduceIte, Nat.reduceAdd, Nat.reduceSub, Nat.reduceEqDiff, Nat.reduceLT, Nat.reduceLeDiff, reduceCtorEq, Int.reduceToNat, Int.reduceLT, Int.reduceLE, Int.reduceEq, Int.reduceNeg, Int.reduceBEq, Int.reduceBNe, String.reduceEq, forall_const, ↓vmDA, vmVA, ↓vmQA, vmR, vmRA, ↓vmSA, vmSV, tyS, nuE, SubA.skip, SubA.refl, fr.2, areDigits_v, panSum_v, rdigits_v, rsum_v, panLuhn_v, rLuhn_v, panCheck_v, rCheck_v, calIsDate_v, calDay_v, stLim_v, slIndexByte_v, indexByte_v, indexRune_v, containsRune_v, classOf_v, isWordByte_v, letter_v, digit_v, wordAt_v, rword_v, isName_v, risName_v, lt, lbk, hc0, lb, lsb2, t1, a1t, lk, we, sc_adv]
        have n0' := fr.2 0
        have hE1 : SubA E ((ν 0, Obj.cells (advC x).toArray 64) :: (B ++ E)) := SubA.fresh n0' d.right
        have hB1 : SubA B ((ν 0, Obj.cells (advC x).toArray 64) :: (B ++ E)) := SubA.fresh n0' (SubA.left B E)
        refine RunA.use ?_
        refine append_src (m := 1) (news := advC x) (B := B) slc45 zro64 rfl (by decide) ho hB1 (.inr ⟨ν 0, 0, rfl, by simp (maxDischargeDepth := 16) only [argE_nil, argE_cons, ↓vmD, vmV, vmStd, Nat.reduceMul, ↓reduceIte, Nat.reduceAdd, Nat.reduceSub, Nat.reduceEqDiff, Nat.reduceLT, Nat.reduceLeDiff, reduceCtorEq, Int.reduceToNat, Int.reduceLT, Int.reduceLE, Int.reduceEq, Int.reduceNeg, Int.reduceBEq, Int.reduceBNe, String.reduceEq, forall_const, ↓vmDA, vmVA, ↓vmQA, vmR, vmRA, ↓vmSA, vmSV, tyS, nuE, SubA.skip, SubA.refl, fr.2, areDigits_v, panSum_v, rdigits_v, rsum_v, panLuhn_v, rLuhn_v, panCheck_v, rCheck_v, calIsDate_v, calDay_v, stLim_v, slIndexByte_v, indexByte_v, indexRune_v, containsRune_v, classOf_v, isWordByte_v, letter_v, digit_v, wordAt_v, rword_v, isName_v, risName_v, advC]⟩) (by simp [advC, Value.oneCell']) (by simp only [maxLen]; omega) (by omega) ?_
        intro v' B' ho' hb'
        have dB' : Dis B' E := ap_dis hb' d hE1
        refine ⟨B' ++ E, SubA.app hE1, ?_⟩
        intro ν3 fr3
        have fr := fr3
        have nuE := fr.nu
        simp (maxDischargeDepth := 16) only [argE_nil, argE_cons, ↓vmD, vmV, vmStd, Nat.reduceMul, ↓reduceIte, Nat.reduceAdd, Nat.reduceSub, Nat.reduceEqDiff, Nat.reduceLT, Nat.reduceLeDiff, reduceCtorEq, Int.reduceToNat, Int.reduceLT, Int.reduceLE, Int.reduceEq, Int.reduceNeg, Int.reduceBEq, Int.reduceBNe, String.reduceEq, forall_const, ↓vmDA, vmVA, ↓vmQA, vmR, vmRA, ↓vmSA, vmSV, tyS, nuE, SubA.skip, SubA.refl, fr.2, areDigits_v, panSum_v, rdigits_v, rsum_v, panLuhn_v, rLuhn_v, panCheck_v, rCheck_v, calIsDate_v, calDay_v, stLim_v, slIndexByte_v, indexByte_v, indexRune_v, containsRune_v, classOf_v, isWordByte_v, letter_v, digit_v, wordAt_v, rword_v, isName_v, risName_v, we]
        exact LoopA.weak (ih (e + 1) v' B' hd' (by omega) (by rw [hst]; exact adv_app ho') dB') (by simp only [subE, get_cons, Nat.reduceEqDiff, ↓reduceIte, reduceCtorEq, Nat.reduceAdd, and_self, and_true]) (SubA.refl _)
    · rw [if_neg (fun h => a1 h.1), List.append_nil] at hst
      simp (maxDischargeDepth := 16) only [argE_nil, argE_cons, ↓vmD, vmV, vmStd, Nat.reduceMul, ↓reduceIte, Nat.reduceAdd, Nat.reduceSub, Nat.reduceEqDiff, Nat.reduceLT, Nat.reduceLeDiff, reduceCtorEq, Int.reduceToNat, Int.reduceLT, Int.reduceLE, Int.reduceEq, Int.reduceNeg, Int.reduceBEq, Int.reduceBNe, String.reduceEq, forall_const, ↓vmDA, vmVA, ↓vmQA, vmR, vmRA, ↓vmSA, vmSV, tyS, nuE, SubA.skip, SubA.refl, fr.2, areDigits_v, panSum_v, rdigits_v, rsum_v, panLuhn_v, rLuhn_v, panCheck_v, rCheck_v, calIsDate_v, calDay_v, stLim_v, slIndexByte_v, indexByte_v, indexRune_v, containsRune_v, classOf_v, isWordByte_v, letter_v, digit_v, wordAt_v, rword_v, isName_v, risName_v, lt, lbk, hc0, lb, lsb2, t1, a1, we]
      exact LoopA.weak (ih (e + 1) v B hd' (by omega) (by rw [hst]; exact ho) d) (by simp only [subE, get_cons, Nat.reduceEqDiff, ↓reduceIte, reduceCtorEq, Nat.reduceAdd, and_self, and_true]) (SubA.refl _)

def limOk (l : Lim) : Bool := (decide (0 ≤ l.each) && decide (l.each ≤ 999999999999)) && ((decide (0 ≤ l.day) && decide (l.day ≤ 999999999999)) && (decide (0 ≤ l.cnt) && decide (l.cnt ≤ 1000)))
def newE (dn : List Lim) : List Lim → Int
  | [] => 0
  | l :: r => if nameF (bs l.iss) = false then 5 else if (limF l.iss dn).isSome = true then 7 else if limOk l = false then 4 else newE (dn ++ [l]) r
theorem newS_h (A : AH) (L : List Lim) (p : Option Addr) (pcap : Nat) (hL : StR limC 4 A p L) (hz : ∀ l ∈ L, l.iss.length ≤ 100000) (hl : L.length ≤ 9223372036854775806) : CallA Try.prog 9 #[.slice p L.length pcap] A (fun u_ A_ => (newE [] L ≠ 0 ∧ u_ = .tuple #[.pointer none, .int .i64 (newE [] L)] ∧ SubA A A_) ∨ (newE [] L = 0 ∧ ∃ sb E, u_ = .tuple #[.pointer (some ⟨sb, 0, none⟩), .int .i64 0] ∧ StP E sb L [] ∧ Dis E A ∧ SubA (E ++ A) A_)) := by
  refine callA_of_denA ⟨Try.prog, 9, Try.f9, 64, [0, 2, 3, 4, 6, 8, 14, 15, 16], [], [(7, .p [(0, 0), (1, 0), (2, 0), (3, 0), (4, 0), (5, 0), (6, 0), (7, 0), (8, 0), (9, 0), (10, 1), (11, 2), (12, 0)]), (12, .p [(0, 0), (1, 0), (2, 0), (3, 0), (4, 0), (5, 0), (6, 0), (7, 2)])], _⟩ (args := [_]) Try.func9 rfl (by kernel_rfl) Try.ntmps9 (by simp) (by kernel_rfl) ?_
  intro ν fr; have nuE := fr.nu
  simp (maxDischargeDepth := 16) only [argE_nil, argE_cons, ↓vmD, vmV, vmStd, Nat.reduceMul, ↓reduceIte, Nat.reduceAdd, Nat.reduceSub, Nat.reduceEqDiff, Nat.reduceLT, Nat.reduceLeDiff, reduceCtorEq, Int.reduceToNat, Int.reduceLT, Int.reduceLE, Int.reduceEq, Int.reduceNeg, Int.reduceBEq, Int.reduceBNe, String.reduceEq, forall_const, ↓vmDA, vmVA, ↓vmQA, vmR, vmRA, ↓vmSA, vmSV, tyS, nuE, SubA.skip, SubA.refl, fr.2, areDigits_v, panSum_v, rdigits_v, rsum_v, panLuhn_v, rLuhn_v, panCheck_v, rCheck_v, calIsDate_v, calDay_v, stLim_v, slIndexByte_v, indexByte_v, indexRune_v, containsRune_v, classOf_v, isWordByte_v, letter_v, digit_v, wordAt_v, rword_v, isName_v, risName_v]
  have f0 := fr.2 0
  have f1 := fr.2 1
  have f2 := fr.2 2
  have f3 := fr.2 3
  obtain ⟨sb, lr, kr, wr, hsb, hlr, hkr, hwr⟩ : ∃ sb lr kr wr, sb = ν 3 ∧ lr = ν 0 ∧ kr = ν 1 ∧ wr = ν 2 := ⟨_, _, _, _, rfl, rfl, rfl, rfl⟩
  rw [← hlr] at f0
  rw [← hkr] at f1
  rw [← hwr] at f2
  rw [← hsb] at f3
  have m1 : ((sb = lr) = False) ∧ ((lr = sb) = False) := by rw [hsb, hlr]; simp [nuE]
  have m2 : ((sb = kr) = False) ∧ ((kr = sb) = False) := by rw [hsb, hkr]; simp [nuE]
  have m3 : ((sb = wr) = False) ∧ ((wr = sb) = False) := by rw [hsb, hwr]; simp [nuE]
  have m4 : ((lr = kr) = False) ∧ ((kr = lr) = False) := by rw [hlr, hkr]; simp [nuE]
  have m5 : ((lr = wr) = False) ∧ ((wr = lr) = False) := by rw [hlr, hwr]; simp [nuE]
  have m6 : ((kr = wr) = False) ∧ ((wr = kr) = False) := by rw [hkr, hwr]; simp [nuE]
  rw [← hsb, ← hlr, ← hkr, ← hwr]
  clear hsb hlr hkr hwr nuE fr
  obtain ⟨e, l, es, cl, he, hes, hcl, hd, hle, hm, hne⟩ : ∃ (e : Nat) (l : List Lim) (es : Array MapEntry) (cl : Nat), e = 0 ∧ es = #[] ∧ cl = 0 ∧ l = L.drop e ∧ e ≤ L.length ∧ MapIs es (mapLm (L.take e)) ∧ newE [] L = newE (L.take e) l :=
    ⟨0, L, #[], 0, rfl, rfl, rfl, rfl, by simp, MapIs.nil, rfl⟩
  rw [show (16, some (Value.int .i64 0)) = (16, some (Value.int .i64 (e : Int))) by rw [he]; rfl]
  refine LoopA.at (A := (sb, (Obj.cells #[.map (some lr), .slice none 0 0, .map (some kr), .map (some wr)] 72)) :: (lr, .map es cl) :: (kr, .map #[] 0) :: (wr, .map #[] 0) :: A) (fun x o hx => by
    rw [hes, hcl] at hx
    simp only [Vm.look] at hx ⊢
    by_cases h1 : sb = x
    · rwa [if_pos h1] at hx ⊢
    rw [if_neg h1] at hx ⊢
    by_cases h2 : lr = x
    · subst h2; simpa [m4, m5] using hx
    rw [if_neg h2] at hx ⊢
    by_cases h3 : kr = x
    · subst h3; simpa [m6] using hx
    rw [if_neg h3] at hx ⊢
    exact hx) ?_
  clear he hes hcl
  have sA : ∀ es cl, SubA A ((sb, (Obj.cells #[.map (some lr), .slice none 0 0, .map (some kr), .map (some wr)] 72)) :: (lr, .map es cl) :: (kr, .map #[] 0) :: (wr, .map #[] 0) :: A) := fun es cl => SubA.fresh (by simp [Vm.look, m1, m2, m3, f3]) (SubA.fresh (by simp [Vm.look, m4, m5, f0]) (SubA.fresh (by simp [Vm.look, m6, f1]) (SubA.fresh f2 (SubA.refl _))))
  induction l generalizing e es cl with
  | nil =>
    obtain ⟨hn1, hn2⟩ := drop_nil hd hle
    have lt : ((e : Int) < (L.length : Int)) = False := eq_false (by omega)
    rw [hn2] at hm
    refine LoopA.intro (by kernel_rfl) ?_
    intro ν fr; have nuE := fr.nu
    simp (maxDischargeDepth := 16) only [argE_nil, argE_cons, ↓vmD, vmV, vmStd, Nat.reduceMul, ↓reduceIte, Nat.reduceAdd, Nat.reduceSub, Nat.reduceEqDiff, Nat.reduceLT, Nat.reduceLeDiff, reduceCtorEq, Int.reduceToNat, Int.reduceLT, Int.reduceLE, Int.reduceEq, Int.reduceNeg, Int.reduceBEq, Int.reduceBNe, String.reduceEq, forall_const, ↓vmDA, vmVA, ↓vmQA, vmR, vmRA, ↓vmSA, vmSV, tyS, nuE, SubA.skip, SubA.refl, fr.2, areDigits_v, panSum_v, rdigits_v, rsum_v, panLuhn_v, rLuhn_v, panCheck_v, rCheck_v, calIsDate_v, calDay_v, stLim_v, slIndexByte_v, indexByte_v, indexRune_v, containsRune_v, classOf_v, isWordByte_v, letter_v, digit_v, wordAt_v, rword_v, isName_v, risName_v, lt]
    refine .inr ⟨hne, sb, cat [[(sb, (Obj.cells #[.map (some lr), .slice none 0 0, .map (some kr), .map (some wr)] 72))], [(lr, .map es cl)], [(kr, .map #[] 0)], [(wr, .map #[] 0)], [], decB []], rfl, ?_, ?_, ?_⟩
    · refine ⟨lr, kr, wr, _, es, cl, #[], 0, #[], 0, [], [], rfl, ?_, hm, MapIs.nil, MapIs.nil, WaitOk.nil, OwnL.nil _ _ _, by simp, ?_⟩
      · exact Sep.fresh (by simp [cat, Vm.look, m1, m2, m3, decB]) _ (Sep.fresh (by simp [cat, Vm.look, m4, m5, decB]) _ (Sep.fresh (by simp [cat, Vm.look, m6, decB]) _ (Sep.fresh (by simp [cat, Vm.look, decB]) _ (Sep.cons (Dis.nil _) (Sep.one _)))))
      · exact ⟨List.nodup_nil, fun d hd => (by simp at hd), by simp, fun d hd => (by simp at hd)⟩
    · exact (Dis.one f3).app ((Dis.one f0).app ((Dis.one f1).app ((Dis.one f2).app (Dis.nil _))))
    · exact SubA.refl _
  | cons x l ih =>
    obtain ⟨ha, hlt, hd', htk⟩ := drop_some hd
    have lt : ((e : Int) < (L.length : Int)) = True := eq_true (by omega)
    have we : IntKind.i64.wrap ((e : Int) + 1) = ((e + 1 : Nat) : Int) := by rw [w_i64 (by omega) (by omega)]; omega
    obtain ⟨bk, off, cs, ty, fr0, hp0, hbk, hcr, hcc⟩ := hL.at ha
    subst hp0
    have lbk := sA es cl _ _ hbk
    have zz : (bs x.iss).size ≤ 100000 := by rw [bs_size]; exact hz x (List.mem_of_getElem? ha)
    refine LoopA.intro (by kernel_rfl) ?_
    intro ν fr; have nuE := fr.nu
    have nbk := fr.ne (b := bk) (by rw [lbk]; simp)
    have nlr := fr.ne (b := lr) (by simp (maxDischargeDepth := 16) only [argE_nil, argE_cons, ↓vmD, vmV, vmStd, Nat.reduceMul, ↓reduceIte, Nat.reduceAdd, Nat.reduceSub, Nat.reduceEqDiff, Nat.reduceLT, Nat.reduceLeDiff, reduceCtorEq, Int.reduceToNat, Int.reduceLT, Int.reduceLE, Int.reduceEq, Int.reduceNeg, Int.reduceBEq, Int.reduceBNe, String.reduceEq, forall_const, ↓vmDA, vmVA, ↓vmQA, vmR, vmRA, ↓vmSA, vmSV, tyS, nuE, SubA.skip, SubA.refl, fr.2, areDigits_v, panSum_v, rdigits_v, rsum_v, panLuhn_v, rLuhn_v, panCheck_v, rCheck_v, calIsDate_v, calDay_v, stLim_v, slIndexByte_v, indexByte_v, indexRune_v, containsRune_v, classOf_v, isWordByte_v, letter_v, digit_v, wordAt_v, rword_v, isName_v, risName_v, m1])
    have nsb := fr.ne (b := sb) (by simp (maxDischargeDepth := 16) only [argE_nil, argE_cons, ↓vmD, vmV, vmStd, Nat.reduceMul, ↓reduceIte, Nat.reduceAdd, Nat.reduceSub, Nat.reduceEqDiff, Nat.reduceLT, Nat.reduceLeDiff, reduceCtorEq, Int.reduceToNat, Int.reduceLT, Int.reduceLE, Int.reduceEq, Int.reduceNeg, Int.reduceBEq, Int.reduceBNe, String.reduceEq, forall_const, ↓vmDA, vmVA, ↓vmQA, vmR, vmRA, ↓vmSA, vmSV, tyS, nuE, SubA.skip, SubA.refl, fr.2, areDigits_v, panSum_v, rdigits_v, rsum_v, panLuhn_v, rLuhn_v, panCheck_v, rCheck_v, calIsDate_v, calDay_v, stLim_v, slIndexByte_v, indexByte_v, indexRune_v, containsRune_v, classOf_v, isWordByte_v, letter_v, digit_v, wordAt_v, rword_v, isName_v, risName_v])
    have hf0 := fr.2 0
    have nkr := fr.ne (b := kr) (by simp (maxDischargeDepth := 16) only [argE_nil, argE_cons, ↓vmD, vmV, vmStd, Nat.reduceMul, ↓reduceIte, Nat.reduceAdd, Nat.reduceSub, Nat.reduceEqDiff, Nat.reduceLT, Nat.reduceLeDiff, reduceCtorEq, Int.reduceToNat, Int.reduceLT, Int.reduceLE, Int.reduceEq, Int.reduceNeg, Int.reduceBEq, Int.reduceBNe, String.reduceEq, forall_const, ↓vmDA, vmVA, ↓vmQA, vmR, vmRA, ↓vmSA, vmSV, tyS, nuE, SubA.skip, SubA.refl, fr.2, areDigits_v, panSum_v, rdigits_v, rsum_v, panLuhn_v, rLuhn_v, panCheck_v, rCheck_v, calIsDate_v, calDay_v, stLim_v, slIndexByte_v, indexByte_v, indexRune_v, containsRune_v, classOf_v, isWordByte_v, letter_v, digit_v, wordAt_v, rword_v, isName_v, risName_v, m2, m4])
    have nwr := fr.ne (b := wr) (by simp (maxDischargeDepth := 16) only [argE_nil, argE_cons, ↓vmD, vmV, vmStd, Nat.reduceMul, ↓reduceIte, Nat.reduceAdd, Nat.reduceSub, Nat.reduceEqDiff, Nat.reduceLT, Nat.reduceLeDiff, reduceCtorEq, Int.reduceToNat, Int.reduceLT, Int.reduceLE, Int.reduceEq, Int.reduceNeg, Int.reduceBEq, Int.reduceBNe, String.reduceEq, forall_const, ↓vmDA, vmVA, ↓vmQA, vmR, vmRA, ↓vmSA, vmSV, tyS, nuE, SubA.skip, SubA.refl, fr.2, areDigits_v, panSum_v, rdigits_v, rsum_v, panLuhn_v, rLuhn_v, panCheck_v, rCheck_v, calIsDate_v, calDay_v, stLim_v, slIndexByte_v, indexByte_v, indexRune_v, containsRune_v, classOf_v, isWordByte_v, letter_v, digit_v, wordAt_v, rword_v, isName_v, risName_v, m3, m5, m6])
    have hA0 : ∀ i, Vm.look A (ν i) = none := fun i => (sA es cl).none (fr.2 i)
    have nuO := fr.nu
    have gN : ∀ i es' cl', Vm.look ((sb, (Obj.cells #[.map (some lr), .slice none 0 0, .map (some kr), .map (some wr)] 72)) :: (lr, .map es' cl') :: (kr, .map #[] 0) :: (wr, .map #[] 0) :: A) (ν i) = none := fun i es' cl' => by simp (maxDischargeDepth := 16) only [argE_nil, argE_cons, ↓vmD, vmV, vmStd, Nat.reduceMul, ↓reduceIte, Nat.reduceAdd, Nat.reduceSub, Nat.reduceEqDiff, Nat.reduceLT, Nat.reduceLeDiff, reduceCtorEq, Int.reduceToNat, Int.reduceLT, Int.reduceLE, Int.reduceEq, Int.reduceNeg, Int.reduceBEq, Int.reduceBNe, String.reduceEq, forall_const, ↓vmDA, vmVA, ↓vmQA, vmR, vmRA, ↓vmSA, vmSV, tyS, nuE, SubA.skip, SubA.refl, fr.2, areDigits_v, panSum_v, rdigits_v, rsum_v, panLuhn_v, rLuhn_v, panCheck_v, rCheck_v, calIsDate_v, calDay_v, stLim_v, slIndexByte_v, indexByte_v, indexRune_v, containsRune_v, classOf_v, isWordByte_v, letter_v, digit_v, wordAt_v, rword_v, isName_v, risName_v, nsb, nlr, nkr, nwr, hA0]
    have fin : ∀ k : Int, k ≠ 0 → newE (L.take e) (x :: l) = k → ∀ D, SubA A D → (newE [] L ≠ 0 ∧ Value.tuple #[.pointer none, .int .i64 k] = .tuple #[.pointer none, .int .i64 (newE [] L)] ∧ SubA A D) ∨ (newE [] L = 0 ∧ ∃ sb E, Value.tuple #[.pointer none, .int .i64 k] = .tuple #[.pointer (some ⟨sb, 0, none⟩), .int .i64 0] ∧ StP E sb L [] ∧ Dis E A ∧ SubA (E ++ A) D) := fun k hk h D hD => .inl ⟨by rw [hne, h]; exact hk, by rw [hne, h], hD⟩
    have s1 : SubA A ((ν 0, (Obj.cells #[.string (bs x.iss), .int .i64 x.each, .int .i64 x.day, .int .i64 x.cnt] 52)) :: (sb, (Obj.cells #[.map (some lr), .slice none 0 0, .map (some kr), .map (some wr)] 72)) :: (lr, .map es cl) :: (kr, .map #[] 0) :: (wr, .map #[] 0) :: A) := SubA.fresh hf0 (sA es cl)
    cases hn : nameF (bs x.iss) with
    | false =>
      have hE : newE (L.take e) (x :: l) = 5 := by unfold newE; rw [if_pos hn]
      simp (maxDischargeDepth := 16) only [argE_nil, argE_cons, ↓vmD, vmV, vmStd, Nat.reduceMul, ↓reduceIte, Nat.reduceAdd, Nat.reduceSub, Nat.reduceEqDiff, Nat.reduceLT, Nat.reduceLeDiff, reduceCtorEq, Int.reduceToNat, Int.reduceLT, Int.reduceLE, Int.reduceEq, Int.reduceNeg, Int.reduceBEq, Int.reduceBNe, String.reduceEq, forall_const, ↓vmDA, vmVA, ↓vmQA, vmR, vmRA, ↓vmSA, vmSV, tyS, nuE, SubA.skip, SubA.refl, fr.2, areDigits_v, panSum_v, rdigits_v, rsum_v, panLuhn_v, rLuhn_v, panCheck_v, rCheck_v, calIsDate_v, calDay_v, stLim_v, slIndexByte_v, indexByte_v, indexRune_v, containsRune_v, classOf_v, isWordByte_v, letter_v, digit_v, wordAt_v, rword_v, isName_v, risName_v, lt, lbk, hcr, limC, nbk, zz, hn]
      exact fin 5 (by decide) hE _ s1
    | true =>
    have lk := rdA_lookup (s := bs x.iss) (A := (ν 0, (Obj.cells #[.string (bs x.iss), .int .i64 x.each, .int .i64 x.day, .int .i64 x.cnt] 52)) :: (sb, (Obj.cells #[.map (some lr), .slice none 0 0, .map (some kr), .map (some wr)] 72)) :: (lr, .map es cl) :: (kr, .map #[] 0) :: (wr, .map #[] 0) :: A) (ok := true) (es := es) (cl := cl) (r := lr) und_l und_s zro52 (by simp (maxDischargeDepth := 16) only [argE_nil, argE_cons, ↓vmD, vmV, vmStd, Nat.reduceMul, ↓reduceIte, Nat.reduceAdd, Nat.reduceSub, Nat.reduceEqDiff, Nat.reduceLT, Nat.reduceLeDiff, reduceCtorEq, Int.reduceToNat, Int.reduceLT, Int.reduceLE, Int.reduceEq, Int.reduceNeg, Int.reduceBEq, Int.reduceBNe, String.reduceEq, forall_const, ↓vmDA, vmVA, ↓vmQA, vmR, vmRA, ↓vmSA, vmSV, tyS, nuE, SubA.skip, SubA.refl, fr.2, areDigits_v, panSum_v, rdigits_v, rsum_v, panLuhn_v, rLuhn_v, panCheck_v, rCheck_v, calIsDate_v, calDay_v, stLim_v, slIndexByte_v, indexByte_v, indexRune_v, containsRune_v, classOf_v, isWordByte_v, letter_v, digit_v, wordAt_v, rword_v, isName_v, risName_v, nlr, m1]) hm
    rw [look_mapLm] at lk
    cases hl : limF x.iss (L.take e) with
    | some y =>
      simp only [hl, Option.map_some, Option.getD_some, Option.isSome_some, if_true, limC] at lk
      have hE : newE (L.take e) (x :: l) = 7 := by unfold newE; rw [if_neg (by rw [hn]; simp), if_pos (by rw [hl]; rfl)]
      simp (maxDischargeDepth := 16) only [argE_nil, argE_cons, ↓vmD, vmV, vmStd, Nat.reduceMul, ↓reduceIte, Nat.reduceAdd, Nat.reduceSub, Nat.reduceEqDiff, Nat.reduceLT, Nat.reduceLeDiff, reduceCtorEq, Int.reduceToNat, Int.reduceLT, Int.reduceLE, Int.reduceEq, Int.reduceNeg, Int.reduceBEq, Int.reduceBNe, String.reduceEq, forall_const, ↓vmDA, vmVA, ↓vmQA, vmR, vmRA, ↓vmSA, vmSV, tyS, nuE, SubA.skip, SubA.refl, fr.2, areDigits_v, panSum_v, rdigits_v, rsum_v, panLuhn_v, rLuhn_v, panCheck_v, rCheck_v, calIsDate_v, calDay_v, stLim_v, slIndexByte_v, indexByte_v, indexRune_v, containsRune_v, classOf_v, isWordByte_v, letter_v, digit_v, wordAt_v, rword_v, isName_v, risName_v, lt, lbk, hcr, limC, nbk, zz, hn, nsb, nlr, m1, lk]
      exact fin 7 (by decide) hE _ (SubA.fresh (by simp (maxDischargeDepth := 16) only [argE_nil, argE_cons, ↓vmD, vmV, vmStd, Nat.reduceMul, ↓reduceIte, Nat.reduceAdd, Nat.reduceSub, Nat.reduceEqDiff, Nat.reduceLT, Nat.reduceLeDiff, reduceCtorEq, Int.reduceToNat, Int.reduceLT, Int.reduceLE, Int.reduceEq, Int.reduceNeg, Int.reduceBEq, Int.reduceBNe, String.reduceEq, forall_const, ↓vmDA, vmVA, ↓vmQA, vmR, vmRA, ↓vmSA, vmSV, tyS, nuE, SubA.skip, SubA.refl, fr.2, areDigits_v, panSum_v, rdigits_v, rsum_v, panLuhn_v, rLuhn_v, panCheck_v, rCheck_v, calIsDate_v, calDay_v, stLim_v, slIndexByte_v, indexByte_v, indexRune_v, containsRune_v, classOf_v, isWordByte_v, letter_v, digit_v, wordAt_v, rword_v, isName_v, risName_v, fr.2]) s1)
    | none =>
    simp only [hl, Option.map_none, Option.getD_none, Option.isSome_none, if_true] at lk
    have hE : newE (L.take e) (x :: l) = if limOk x = false then 4 else newE (L.take (e + 1)) l := by
      rw [htk]; conv => lhs; unfold newE
      rw [if_neg (by rw [hn]; simp), if_neg (by rw [hl]; simp)]
    have hmu : ∀ es', MapIs es' (updM (mapLm (L.take e)) (bs x.iss) (.agg #[.string (bs x.iss), .int .i64 x.each, .int .i64 x.day, .int .i64 x.cnt])) → MapIs es' (mapLm (L.take (e + 1))) := fun es' h => by
      rw [htk]; rwa [show Value.agg #[.string (bs x.iss), .int .i64 x.each, .int .i64 x.day, .int .i64 x.cnt] = .agg (limC x).toArray from rfl, upd_mapLm hl] at h
    have v1 := fun A => stLim_v x.each A
    have v2 := fun A => stLim_v x.day A
    cases h1 : (decide (0 ≤ x.each) && decide (x.each ≤ 999999999999)) with
    | false =>
      rw [if_pos (by unfold limOk; rw [h1]; rfl)] at hE
      simp only [h1] at v1
      simp (maxDischargeDepth := 16) only [argE_nil, argE_cons, ↓vmD, vmV, vmStd, Nat.reduceMul, ↓reduceIte, Nat.reduceAdd, Nat.reduceSub, Nat.reduceEqDiff, Nat.reduceLT, Nat.reduceLeDiff, reduceCtorEq, Int.reduceToNat, Int.reduceLT, Int.reduceLE, Int.reduceEq, Int.reduceNeg, Int.reduceBEq, Int.reduceBNe, String.reduceEq, forall_const, ↓vmDA, vmVA, ↓vmQA, vmR, vmRA, ↓vmSA, vmSV, tyS, nuE, SubA.skip, SubA.refl, fr.2, areDigits_v, panSum_v, rdigits_v, rsum_v, panLuhn_v, rLuhn_v, panCheck_v, rCheck_v, calIsDate_v, calDay_v, stLim_v, slIndexByte_v, indexByte_v, indexRune_v, containsRune_v, classOf_v, isWordByte_v, letter_v, digit_v, wordAt_v, rword_v, isName_v, risName_v, lt, lbk, hcr, limC, nbk, zz, hn, nsb, nlr, m1, lk, v1]
      exact fin 4 (by decide) hE _ (SubA.fresh (by simp (maxDischargeDepth := 16) only [argE_nil, argE_cons, ↓vmD, vmV, vmStd, Nat.reduceMul, ↓reduceIte, Nat.reduceAdd, Nat.reduceSub, Nat.reduceEqDiff, Nat.reduceLT, Nat.reduceLeDiff, reduceCtorEq, Int.reduceToNat, Int.reduceLT, Int.reduceLE, Int.reduceEq, Int.reduceNeg, Int.reduceBEq, Int.reduceBNe, String.reduceEq, forall_const, ↓vmDA, vmVA, ↓vmQA, vmR, vmRA, ↓vmSA, vmSV, tyS, nuE, SubA.skip, SubA.refl, fr.2, areDigits_v, panSum_v, rdigits_v, rsum_v, panLuhn_v, rLuhn_v, panCheck_v, rCheck_v, calIsDate_v, calDay_v, stLim_v, slIndexByte_v, indexByte_v, indexRune_v, containsRune_v, classOf_v, isWordByte_v, letter_v, digit_v, wordAt_v, rword_v, isName_v, risName_v, fr.2]) s1)
    | true =>
    simp only [h1] at v1
    cases h2 : (decide (0 ≤ x.day) && decide (x.day ≤ 999999999999)) with
    | false =>
      rw [if_pos (by unfold limOk; rw [h1, h2]; rfl)] at hE
      simp only [h2] at v2
      simp (maxDischargeDepth := 16) only [argE_nil, argE_cons, ↓vmD, vmV, vmStd, Nat.reduceMul, ↓reduceIte, Nat.reduceAdd, Nat.reduceSub, Nat.reduceEqDiff, Nat.reduceLT, Nat.reduceLeDiff, reduceCtorEq, Int.reduceToNat, Int.reduceLT, Int.reduceLE, Int.reduceEq, Int.reduceNeg, Int.reduceBEq, Int.reduceBNe, String.reduceEq, forall_const, ↓vmDA, vmVA, ↓vmQA, vmR, vmRA, ↓vmSA, vmSV, tyS, nuE, SubA.skip, SubA.refl, fr.2, areDigits_v, panSum_v, rdigits_v, rsum_v, panLuhn_v, rLuhn_v, panCheck_v, rCheck_v, calIsDate_v, calDay_v, stLim_v, slIndexByte_v, indexByte_v, indexRune_v, containsRune_v, classOf_v, isWordByte_v, letter_v, digit_v, wordAt_v, rword_v, isName_v, risName_v, lt, lbk, hcr, limC, nbk, zz, hn, nsb, nlr, m1, lk, v1, v2]
      exact fin 4 (by decide) hE _ (SubA.fresh (by simp (maxDischargeDepth := 16) only [argE_nil, argE_cons, ↓vmD, vmV, vmStd, Nat.reduceMul, ↓reduceIte, Nat.reduceAdd, Nat.reduceSub, Nat.reduceEqDiff, Nat.reduceLT, Nat.reduceLeDiff, reduceCtorEq, Int.reduceToNat, Int.reduceLT, Int.reduceLE, Int.reduceEq, Int.reduceNeg, Int.reduceBEq, Int.reduceBNe, String.reduceEq, forall_const, ↓vmDA, vmVA, ↓vmQA, vmR, vmRA, ↓vmSA, vmSV, tyS, nuE, SubA.skip, SubA.refl, fr.2, areDigits_v, panSum_v, rdigits_v, rsum_v, panLuhn_v, rLuhn_v, panCheck_v, rCheck_v, calIsDate_v, calDay_v, stLim_v, slIndexByte_v, indexByte_v, indexRune_v, containsRune_v, classOf_v, isWordByte_v, letter_v, digit_v, wordAt_v, rword_v, isName_v, risName_v, fr.2]) s1)
    | true =>
    simp only [h2] at v2
    by_cases h3 : x.cnt < 0
    · rw [if_pos (by unfold limOk; rw [h1, h2]; simp; omega)] at hE
      simp (maxDischargeDepth := 16) only [argE_nil, argE_cons, ↓vmD, vmV, vmStd, Nat.reduceMul, ↓reduceIte, Nat.reduceAdd, Nat.reduceSub, Nat.reduceEqDiff, Nat.reduceLT, Nat.reduceLeDiff, reduceCtorEq, Int.reduceToNat, Int.reduceLT, Int.reduceLE, Int.reduceEq, Int.reduceNeg, Int.reduceBEq, Int.reduceBNe, String.reduceEq, forall_const, ↓vmDA, vmVA, ↓vmQA, vmR, vmRA, ↓vmSA, vmSV, tyS, nuE, SubA.skip, SubA.refl, fr.2, areDigits_v, panSum_v, rdigits_v, rsum_v, panLuhn_v, rLuhn_v, panCheck_v, rCheck_v, calIsDate_v, calDay_v, stLim_v, slIndexByte_v, indexByte_v, indexRune_v, containsRune_v, classOf_v, isWordByte_v, letter_v, digit_v, wordAt_v, rword_v, isName_v, risName_v, lt, lbk, hcr, limC, nbk, zz, hn, nsb, nlr, m1, lk, v1, v2, h3]
      exact fin 4 (by decide) hE _ (SubA.fresh (by simp (maxDischargeDepth := 16) only [argE_nil, argE_cons, ↓vmD, vmV, vmStd, Nat.reduceMul, ↓reduceIte, Nat.reduceAdd, Nat.reduceSub, Nat.reduceEqDiff, Nat.reduceLT, Nat.reduceLeDiff, reduceCtorEq, Int.reduceToNat, Int.reduceLT, Int.reduceLE, Int.reduceEq, Int.reduceNeg, Int.reduceBEq, Int.reduceBNe, String.reduceEq, forall_const, ↓vmDA, vmVA, ↓vmQA, vmR, vmRA, ↓vmSA, vmSV, tyS, nuE, SubA.skip, SubA.refl, fr.2, areDigits_v, panSum_v, rdigits_v, rsum_v, panLuhn_v, rLuhn_v, panCheck_v, rCheck_v, calIsDate_v, calDay_v, stLim_v, slIndexByte_v, indexByte_v, indexRune_v, containsRune_v, classOf_v, isWordByte_v, letter_v, digit_v, wordAt_v, rword_v, isName_v, risName_v, fr.2]) s1)
    by_cases h4 : 1000 < x.cnt
    · rw [if_pos (by unfold limOk; rw [h1, h2]; simp; omega)] at hE
      simp (maxDischargeDepth := 16) only [argE_nil, argE_cons, ↓vmD, vmV, vmStd, Nat.reduceMul, ↓reduceIte, Nat.reduceAdd, Nat.reduceSub, Nat.reduceEqDiff, Nat.reduceLT, Nat.reduceLeDiff, reduceCtorEq, Int.reduceToNat, Int.reduceLT, Int.reduceLE, Int.reduceEq, Int.reduceNeg, Int.reduceBEq, Int.reduceBNe, String.reduceEq, forall_const, ↓vmDA, vmVA, ↓vmQA, vmR, vmRA, ↓vmSA, vmSV, tyS, nuE, SubA.skip, SubA.refl, fr.2, areDigits_v, panSum_v, rdigits_v, rsum_v, panLuhn_v, rLuhn_v, panCheck_v, rCheck_v, calIsDate_v, calDay_v, stLim_v, slIndexByte_v, indexByte_v, indexRune_v, containsRune_v, classOf_v, isWordByte_v, letter_v, digit_v, wordAt_v, rword_v, isName_v, risName_v, lt, lbk, hcr, limC, nbk, zz, hn, nsb, nlr, m1, lk, v1, v2, h3, h4]
      exact fin 4 (by decide) hE _ (SubA.fresh (by simp (maxDischargeDepth := 16) only [argE_nil, argE_cons, ↓vmD, vmV, vmStd, Nat.reduceMul, ↓reduceIte, Nat.reduceAdd, Nat.reduceSub, Nat.reduceEqDiff, Nat.reduceLT, Nat.reduceLeDiff, reduceCtorEq, Int.reduceToNat, Int.reduceLT, Int.reduceLE, Int.reduceEq, Int.reduceNeg, Int.reduceBEq, Int.reduceBNe, String.reduceEq, forall_const, ↓vmDA, vmVA, ↓vmQA, vmR, vmRA, ↓vmSA, vmSV, tyS, nuE, SubA.skip, SubA.refl, fr.2, areDigits_v, panSum_v, rdigits_v, rsum_v, panLuhn_v, rLuhn_v, panCheck_v, rCheck_v, calIsDate_v, calDay_v, stLim_v, slIndexByte_v, indexByte_v, indexRune_v, containsRune_v, classOf_v, isWordByte_v, letter_v, digit_v, wordAt_v, rword_v, isName_v, risName_v, fr.2]) s1)
    rw [if_neg (by unfold limOk; rw [h1, h2]; simp; omega)] at hE
    simp (maxDischargeDepth := 16) only [argE_nil, argE_cons, ↓vmD, vmV, vmStd, Nat.reduceMul, ↓reduceIte, Nat.reduceAdd, Nat.reduceSub, Nat.reduceEqDiff, Nat.reduceLT, Nat.reduceLeDiff, reduceCtorEq, Int.reduceToNat, Int.reduceLT, Int.reduceLE, Int.reduceEq, Int.reduceNeg, Int.reduceBEq, Int.reduceBNe, String.reduceEq, forall_const, ↓vmDA, vmVA, ↓vmQA, vmR, vmRA, ↓vmSA, vmSV, tyS, nuE, SubA.skip, SubA.refl, fr.2, areDigits_v, panSum_v, rdigits_v, rsum_v, panLuhn_v, rLuhn_v, panCheck_v, rCheck_v, calIsDate_v, calDay_v, stLim_v, slIndexByte_v, indexByte_v, indexRune_v, containsRune_v, classOf_v, isWordByte_v, letter_v, digit_v, wordAt_v, rword_v, isName_v, risName_v, lt, lbk, hcr, limC, nbk, zz, hn, nsb, nlr, m1, lk, v1, v2, h3, h4]
    refine rA_update und_l und_s (by simp (maxDischargeDepth := 16) only [argE_nil, argE_cons, ↓vmD, vmV, vmStd, Nat.reduceMul, ↓reduceIte, Nat.reduceAdd, Nat.reduceSub, Nat.reduceEqDiff, Nat.reduceLT, Nat.reduceLeDiff, reduceCtorEq, Int.reduceToNat, Int.reduceLT, Int.reduceLE, Int.reduceEq, Int.reduceNeg, Int.reduceBEq, Int.reduceBNe, String.reduceEq, forall_const, ↓vmDA, vmVA, ↓vmQA, vmR, vmRA, ↓vmSA, vmSV, tyS, nuE, SubA.skip, SubA.refl, fr.2, areDigits_v, panSum_v, rdigits_v, rsum_v, panLuhn_v, rLuhn_v, panCheck_v, rCheck_v, calIsDate_v, calDay_v, stLim_v, slIndexByte_v, indexByte_v, indexRune_v, containsRune_v, classOf_v, isWordByte_v, letter_v, digit_v, wordAt_v, rword_v, isName_v, risName_v, nsb, nlr, m1]; rfl) hm ?_
    intro es' cl' hm'
    intro ν3 fr3
    simp only [putB, nsb, nlr, m1, if_false, if_true] at fr3
    have fr' := fr3
    have nuE := fr3.nu
    simp (maxDischargeDepth := 16) only [argE_nil, argE_cons, ↓vmD, vmV, vmStd, Nat.reduceMul, ↓reduceIte, Nat.reduceAdd, Nat.reduceSub, Nat.reduceEqDiff, Nat.reduceLT, Nat.reduceLeDiff, reduceCtorEq, Int.reduceToNat, Int.reduceLT, Int.reduceLE, Int.reduceEq, Int.reduceNeg, Int.reduceBEq, Int.reduceBNe, String.reduceEq, forall_const, ↓vmDA, vmVA, ↓vmQA, vmR, vmRA, ↓vmSA, vmSV, tyS, nuE, SubA.skip, SubA.refl, fr.2, areDigits_v, panSum_v, rdigits_v, rsum_v, panLuhn_v, rLuhn_v, panCheck_v, rCheck_v, calIsDate_v, calDay_v, stLim_v, slIndexByte_v, indexByte_v, indexRune_v, containsRune_v, classOf_v, isWordByte_v, letter_v, digit_v, wordAt_v, rword_v, isName_v, risName_v, we, nsb, nlr, m1]
    refine LoopA.weak (ih (e + 1) es' cl' hd' (by omega) (hmu es' hm') (hne.trans hE)) (by simp only [subE, get_cons, Nat.reduceEqDiff, ↓reduceIte, reduceCtorEq, Nat.reduceAdd, and_self, and_true]) ?_
    exact SubA.fresh (by simp (maxDischargeDepth := 16) only [argE_nil, argE_cons, ↓vmD, vmV, vmStd, Nat.reduceMul, ↓reduceIte, Nat.reduceAdd, Nat.reduceSub, Nat.reduceEqDiff, Nat.reduceLT, Nat.reduceLeDiff, reduceCtorEq, Int.reduceToNat, Int.reduceLT, Int.reduceLE, Int.reduceEq, Int.reduceNeg, Int.reduceBEq, Int.reduceBNe, String.reduceEq, forall_const, ↓vmDA, vmVA, ↓vmQA, vmR, vmRA, ↓vmSA, vmSV, tyS, nuE, SubA.skip, SubA.refl, fr.2, areDigits_v, panSum_v, rdigits_v, rsum_v, panLuhn_v, rLuhn_v, panCheck_v, rCheck_v, calIsDate_v, calDay_v, stLim_v, slIndexByte_v, indexByte_v, indexRune_v, containsRune_v, classOf_v, isWordByte_v, letter_v, digit_v, wordAt_v, rword_v, isName_v, risName_v, gN, nuO]) (SubA.fresh (gN 0 es' cl') (SubA.refl _))

end Go.Proofs.Ytmjkjpjjckcihaa
