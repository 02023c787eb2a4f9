/-
Stand-in: the walks of the program's stand-in that write: reversing, acknowledging, remembering.
Conditions: none.
-/
import Derived.Test.YtmjkjpjjckcihaaStA
namespace Go.Proofs.Ytmjkjpjjckcihaa
open Go.Vm
set_option linter.unusedSimpArgs false
set_option linter.unusedVariables false
set_option maxHeartbeats 4000000
set_option maxRecDepth 20000
theorem putB_app_r {x y : AH} {b : Nat} {u : Obj} (h : Vm.look x b = none) : putB (x ++ y) b u = x ++ putB y b u := by
  induction x with
  | nil => rfl
  | cons p x ih =>
    obtain ⟨c, o⟩ := p
    simp only [Vm.look] at h
    simp only [List.cons_append, putB]
    split at h
    · cases h
    · rename_i hne
      rw [if_neg hne, ih h]
theorem putB_one (b : Nat) (o u : Obj) (y : AH) : putB ([(b, o)] ++ y) b u = [(b, u)] ++ y := by simp [putB]
theorem Sep.set : ∀ {l : List AH} (i : Nat) (y : AH), Sep l → (∀ b, Vm.look (at_ l i) b = none → Vm.look y b = none) → Sep (l.set i y)
  | [], _, _, h, _ => h
  | x :: l, 0, y, h, hy => Sep.cons ((Sep.dis h).less hy) h.2
  | x :: l, i + 1, y, h, hy => by
    refine ⟨SepT.of fun z hz => ?_, Sep.set i y h.2 hy⟩
    by_cases hi : i < l.length
    · rcases List.mem_or_eq_of_mem_set hz with e | e
      · exact h.1.all z e
      · subst e
        exact ((h.1.all _ (at_mem hi)).symm.less hy).symm
    · rw [List.set_eq_of_length_le (by omega)] at hz
      exact h.1.all z hz
theorem one_less {b : Nat} {o u : Obj} : ∀ x, Vm.look [(b, o)] x = none → Vm.look [(b, u)] x = none := fun x h => by
  simp only [Vm.look] at h ⊢
  split at h
  · cases h
  · rename_i hne; rw [if_neg hne]
theorem putB_less {y : AH} {b : Nat} {u : Obj} : ∀ x, Vm.look y x = none → Vm.look (putB y b u) x = none := fun x h => put_none h
theorem ne_dis {x y : Nat} {o p : Obj} (d : Dis [(x, o)] [(y, p)]) : ((x = y) = False) ∧ ((y = x) = False) := by
  have : x ≠ y := fun e => by
    subst e
    have := d x (by simp [Vm.look])
    simp [Vm.look] at this
  exact ⟨eq_false this, eq_false fun e => this e.symm⟩
/-- A stand-in whose decision was changed, and the map of what waits with it. -/
theorem StP.rev {E : AH} {sb : Nat} {lm : List Lim} {D : List (Nat × Dec)} (hE : StP E sb lm D) {i b : Nat} {x x' : Dec} (hx : D[i]? = some (b, x)) (hk : x'.key = x.key) (ha : x'.amt = x.amt) (hw : x'.wai = false) :
    ∃ (lr kr wr cap : Nat) (q : Option Addr) (es1 : Array MapEntry) (cl1 : Nat) (es2 : Array MapEntry) (cl2 : Nat) (es3 : Array MapEntry) (cl3 : Nat) (W : SMap),
      Vm.look E sb = some (Obj.cells #[.map (some lr), .slice q D.length cap, .map (some kr), .map (some wr)] 72) ∧ (Vm.look E kr = some (.map es2 cl2) ∧ MapIs es2 (mapK D)) ∧ (Vm.look E wr = some (.map es3 cl3) ∧ MapIs es3 W) ∧ (∀ k, lookM W (bs k) = if waitD k (D.map Prod.snd) = true then some (.bool true) else none) ∧ Vm.look E b = some (decO x) ∧
      ((b = sb) = False ∧ (sb = b) = False) ∧ ((b = wr) = False ∧ (wr = b) = False) ∧ ((sb = wr) = False ∧ (wr = sb) = False) ∧
      ∀ es' cl', MapIs es' (delM W (bs x.key)) → StP (putB (putB E b (decO x')) wr (.map es' cl')) sb lm (D.set i (b, x')) := by
  obtain ⟨lr, kr, wr, v, es1, cl1, es2, cl2, es3, cl3, W, Bk, rfl, sp, hm1, hm2, hm3, hW, ho, hn, hok⟩ := hE
  obtain ⟨q, cap, rfl, hcap, hs⟩ := ho.read ptrC_len
  have lb := look_decB hn hx
  have lb' := sp.subs [5] rfl _ _ (show Vm.look (cat [decB D]) b = _ from lb)
  have n0 : Vm.look [(sb, _)] b = none := (sp.dis2 (i := 0) (j := 5) (by decide) (by simp) (by simp)) b (by rw [show at_ _ 5 = decB D from rfl, lb]; simp)
  have n1 : Vm.look [(lr, _)] b = none := (sp.dis2 (i := 1) (j := 5) (by decide) (by simp) (by simp)) b (by rw [show at_ _ 5 = decB D from rfl, lb]; simp)
  have n2 : Vm.look [(kr, _)] b = none := (sp.dis2 (i := 2) (j := 5) (by decide) (by simp) (by simp)) b (by rw [show at_ _ 5 = decB D from rfl, lb]; simp)
  have n3 : Vm.look [(wr, _)] b = none := (sp.dis2 (i := 3) (j := 5) (by decide) (by simp) (by simp)) b (by rw [show at_ _ 5 = decB D from rfl, lb]; simp)
  have n4 : Vm.look Bk b = none := (sp.dis2 (i := 4) (j := 5) (by decide) (by simp) (by simp)) b (by rw [show at_ _ 5 = decB D from rfl, lb]; simp)
  have m0 := ne_dis (show Dis [(sb, _)] [(wr, _)] from sp.dis2 (i := 0) (j := 3) (by decide) (by simp) (by simp))
  have m1 := ne_dis (show Dis [(lr, _)] [(wr, _)] from sp.dis2 (i := 1) (j := 3) (by decide) (by simp) (by simp))
  have m2 := ne_dis (show Dis [(kr, _)] [(wr, _)] from sp.dis2 (i := 2) (j := 3) (by decide) (by simp) (by simp))
  have hxs : (D.map Prod.snd)[i]? = some x := by rw [List.getElem?_map, hx]; rfl
  refine ⟨lr, kr, wr, cap, q, es1, cl1, es2, cl2, es3, cl3, W, ?_, ⟨sp.subs [2] rfl _ _ (by simp [pick, at_, cat, Vm.look]), hm2⟩, ⟨sp.subs [3] rfl _ _ (by simp [pick, at_, cat, Vm.look]), hm3⟩, hW.2, lb', look_ne n0 (if_pos rfl), ?_, m0, ?_⟩
  · rw [show D.length = (D.map Prod.fst).length by simp]
    exact sp.subs [0] rfl _ _ (by simp [pick, at_, cat, Vm.look])
  · exact look_ne n3 (if_pos rfl)
  · intro es' cl' hm'
    have e1 : putB (putB (cat [[(sb, Obj.cells #[.map (some lr), .slice q (D.map Prod.fst).length cap, .map (some kr), .map (some wr)] 72)], [(lr, .map es1 cl1)], [(kr, .map es2 cl2)], [(wr, .map es3 cl3)], Bk, decB D]) b (decO x')) wr (.map es' cl') = cat [[(sb, Obj.cells #[.map (some lr), .slice q (D.map Prod.fst).length cap, .map (some kr), .map (some wr)] 72)], [(lr, .map es1 cl1)], [(kr, .map es2 cl2)], [(wr, .map es' cl')], Bk, decB (D.set i (b, x'))] := by
      simp only [cat]
      rw [putB_app_r n0, putB_app_r n1, putB_app_r n2, putB_app_r n3, putB_app_r n4, ← decB_set (d := x') hn hx]
      rw [putB_app_r (by simp [Vm.look, m0]), putB_app_r (by simp [Vm.look, m1]), putB_app_r (by simp [Vm.look, m2]), putB_one]
    rw [e1]
    have s1 := Sep.set 3 [(wr, Obj.map es' cl')] sp (fun z hz => by simp only [at_, Vm.look] at hz ⊢; split at hz <;> simp_all)
    have s2 := Sep.set 5 (decB (D.set i (b, x'))) s1 (fun z hz => by
      rw [decB_set hn hx]
      exact put_none hz)
    obtain ⟨hu, hamt, hlen, hwa⟩ := hok
    refine ⟨lr, kr, wr, _, es1, cl1, es2, cl2, es', cl', delM W (bs x.key), Bk, rfl, s2, hm1, by rw [mapK_set hx hk]; exact hm2, hm', ?_, ?_, ?_, ?_⟩
    · rw [snd_set]
      exact hW.set_no hu hxs hk hw
    · rw [fst_set hx]; exact ho
    · rw [fst_set hx]; exact hn
    · rw [snd_set]
      refine ⟨keyU_set hu hxs hk, fun d hd => ?_, by rw [List.length_set]; exact hlen, fun d hd hdw => ?_⟩
      · rcases List.mem_or_eq_of_mem_set hd with e | e
        · exact hamt d e
        · rw [e, ha]; exact hamt x (List.mem_of_getElem? hxs)
      · rcases List.mem_or_eq_of_mem_set hd with e | e
        · exact hwa d e hdw
        · rw [e, hw] at hdw; cases hdw
theorem putB_self {A : AH} {b : Nat} {o : Obj} (h : Vm.look A b = some o) : putB A b o = A := by
  induction A with
  | nil => rfl
  | cons p A ih =>
    obtain ⟨c, u⟩ := p
    simp only [Vm.look] at h
    simp only [putB]
    split at h
    · rename_i e; cases h; rw [if_pos e]
    · rename_i e; rw [if_neg e, ih h]
theorem put_dom {A : AH} {b x : Nat} {o : Obj} (h : Vm.look A x ≠ none) : Vm.look (putB A b o) x ≠ none := by
  rw [look_putB]
  split
  · rename_i e; subst e
    cases hx : Vm.look A x with
    | none => exact absurd hx h
    | some o => simp
  · exact h
def revX (k : List UInt8) (L : List Dec) : Int × List Dec := match posD k L with
  | none => (6, L)
  | some i => match L[i]? with
    | none => (6, L)
    | some d => if d.app = false ∨ d.rev = true then (8, L) else (0, L.set i { d with rev := true, wai := false })
def ackX (k : List UInt8) (L : List Dec) : Int × List Dec := match posD k L with
  | none => (6, L)
  | some i => match L[i]? with
    | none => (6, L)
    | some d => if d.wai = true then (0, L.set i { d with wai := false }) else (6, L)
/-- A decision of a key, in both lists. -/
theorem key_at {D : List (Nat × Dec)} {k : List UInt8} {i : Nat} (h : posD k (D.map Prod.snd) = some i) : ∃ b d, D[i]? = some (b, d) ∧ d.key = k ∧ (D.map Prod.snd)[i]? = some d := by
  obtain ⟨d, hd, hk⟩ := posD_some h
  have hd2 := hd
  rw [List.getElem?_map] at hd
  cases hx : D[i]? with
  | none => rw [hx] at hd; cases hd
  | some x =>
    obtain ⟨b, d'⟩ := x
    rw [hx] at hd
    simp only [Option.map_some, Option.some.injEq] at hd
    subst hd
    exact ⟨b, d', rfl, hk, hd2⟩
theorem reverse_h (E : AH) (sb : Nat) (lm : List Lim) (D : List (Nat × Dec)) (hE : StP E sb lm D) (k : List UInt8) : CallA Try.prog 14 #[.pointer (some ⟨sb, 0, none⟩), .string (bs k)] E (fun u_ A_ => u_ = .int .i64 (revX k (D.map Prod.snd)).1 ∧ ∃ E' D', StP E' sb lm D' ∧ D'.map Prod.snd = (revX k (D.map Prod.snd)).2 ∧ SubA E' A_ ∧ ∀ x, Vm.look E x ≠ none → Vm.look A_ x ≠ none) := by
  refine callA_of_denA ⟨Try.prog, 14, Try.f14, 39, [0, 1, 4, 5, 6], [], [], _⟩ (args := [_, _]) Try.func14 rfl (by kernel_rfl) Try.ntmps14 (by simp) (by kernel_rfl) ?_
  intro ν fr; have nuE := fr.nu
  cases hp : posD k (D.map Prod.snd) with
  | none =>
    obtain ⟨lr, kr, wr, cap, q, es1, cl1, es2, cl2, es3, cl3, W, lsb, h1, ⟨h2, hm2⟩, h3, hw, hs, hb, hu, hamt, hlen, _⟩ := hE.out
    have lk := rdA_lookup (s := bs k) (A := E) (ok := true) (es := es2) (cl := cl2) (r := kr) und_k und_s zro82 h2 hm2
    rw [look_mapK] at lk
    simp only [hp, Option.getD_none, Option.isSome_none, if_true] at lk
    have e : revX k (D.map Prod.snd) = (6, D.map Prod.snd) := by unfold revX; rw [hp]
    simp (maxDischargeDepth := 16) only [argE_nil, argE_cons, ↓vmD, vmV, vmStd, Nat.reduceMul, ↓reduceIte, Nat.reduceAdd, Nat.reduceSub, Nat.reduceEqDiff, Nat.reduceLT, Nat.reduceLeDiff, reduceCtorEq, Int.reduceToNat, Int.reduceLT, Int.reduceLE, Int.reduceEq, Int.reduceNeg, Int.reduceBEq, Int.reduceBNe, String.reduceEq, forall_const, ↓vmDA, vmVA, ↓vmQA, vmR, vmRA, ↓vmSA, vmSV, tyS, nuE, SubA.skip, SubA.refl, fr.2, areDigits_v, panSum_v, rdigits_v, rsum_v, panLuhn_v, rLuhn_v, panCheck_v, rCheck_v, calIsDate_v, calDay_v, stLim_v, lsb, lk, e]
    exact ⟨E, D, hE, rfl, SubA.refl _, fun x hx => hx⟩
  | some i =>
    obtain ⟨b, d, hx, hk, hxs⟩ := key_at hp
    have hR := hE.rev hx (x' := { d with rev := true, wai := false }) rfl rfl rfl
    obtain ⟨lr, kr, wr, cap, q, es1, cl1, es2, cl2, es3, cl3, W, lsb, ⟨h2, hm2⟩, ⟨h3, hm3⟩, hw, lb, n1, n2, n3, hput⟩ := hR
    have lk := rdA_lookup (s := bs k) (A := E) (ok := true) (es := es2) (cl := cl2) (r := kr) und_k und_s zro82 h2 hm2
    rw [look_mapK] at lk
    simp only [hp, hx, Option.map_some, Option.getD_some, Option.isSome_some, if_true] at lk
    have lb2 := lb
    simp only [decO, decC] at lb2
    cases a1 : d.app with
    | false =>
      have e : revX k (D.map Prod.snd) = (8, D.map Prod.snd) := by unfold revX; simp only [hp, hxs]; rw [if_pos (.inl a1)]
      simp (maxDischargeDepth := 16) only [argE_nil, argE_cons, ↓vmD, vmV, vmStd, Nat.reduceMul, ↓reduceIte, Nat.reduceAdd, Nat.reduceSub, Nat.reduceEqDiff, Nat.reduceLT, Nat.reduceLeDiff, reduceCtorEq, Int.reduceToNat, Int.reduceLT, Int.reduceLE, Int.reduceEq, Int.reduceNeg, Int.reduceBEq, Int.reduceBNe, String.reduceEq, forall_const, ↓vmDA, vmVA, ↓vmQA, vmR, vmRA, ↓vmSA, vmSV, tyS, nuE, SubA.skip, SubA.refl, fr.2, areDigits_v, panSum_v, rdigits_v, rsum_v, panLuhn_v, rLuhn_v, panCheck_v, rCheck_v, calIsDate_v, calDay_v, stLim_v, lsb, lk, lb2, a1, e]
      exact ⟨E, D, hE, rfl, SubA.refl _, fun x hx => hx⟩
    | true =>
    cases a2 : d.rev with
    | true =>
      have e : revX k (D.map Prod.snd) = (8, D.map Prod.snd) := by unfold revX; simp only [hp, hxs]; rw [if_pos (.inr a2)]
      simp (maxDischargeDepth := 16) only [argE_nil, argE_cons, ↓vmD, vmV, vmStd, Nat.reduceMul, ↓reduceIte, Nat.reduceAdd, Nat.reduceSub, Nat.reduceEqDiff, Nat.reduceLT, Nat.reduceLeDiff, reduceCtorEq, Int.reduceToNat, Int.reduceLT, Int.reduceLE, Int.reduceEq, Int.reduceNeg, Int.reduceBEq, Int.reduceBNe, String.reduceEq, forall_const, ↓vmDA, vmVA, ↓vmQA, vmR, vmRA, ↓vmSA, vmSV, tyS, nuE, SubA.skip, SubA.refl, fr.2, areDigits_v, panSum_v, rdigits_v, rsum_v, panLuhn_v, rLuhn_v, panCheck_v, rCheck_v, calIsDate_v, calDay_v, stLim_v, lsb, lk, lb2, a1, a2, e]
      exact ⟨E, D, hE, rfl, SubA.refl _, fun x hx => hx⟩
    | false =>
      have e : revX k (D.map Prod.snd) = (0, (D.map Prod.snd).set i { d with rev := true, wai := false }) := by unfold revX; simp only [hp, hxs]; rw [if_neg (by rw [a1, a2]; simp)]
      have p1 : Vm.look (putB E b (Obj.cells #[.string (bs d.key), .string (bs d.iss), .string (bs d.card), .int .i64 d.amt, .int .i64 d.at_, .int .i64 d.date, .bool true, .bool true] 85)) sb = some (Obj.cells #[.map (some lr), .slice q D.length cap, .map (some kr), .map (some wr)] 72) := (look_put_ne (of_eq_false n1.2)).trans lsb
      have p2 : Vm.look (putB E b (Obj.cells #[.string (bs d.key), .string (bs d.iss), .string (bs d.card), .int .i64 d.amt, .int .i64 d.at_, .int .i64 d.date, .bool true, .bool true] 85)) wr = some (.map es3 cl3) := (look_put_ne (of_eq_false n2.2)).trans h3
      simp (maxDischargeDepth := 16) only [argE_nil, argE_cons, ↓vmD, vmV, vmStd, Nat.reduceMul, ↓reduceIte, Nat.reduceAdd, Nat.reduceSub, Nat.reduceEqDiff, Nat.reduceLT, Nat.reduceLeDiff, reduceCtorEq, Int.reduceToNat, Int.reduceLT, Int.reduceLE, Int.reduceEq, Int.reduceNeg, Int.reduceBEq, Int.reduceBNe, String.reduceEq, forall_const, ↓vmDA, vmVA, ↓vmQA, vmR, vmRA, ↓vmSA, vmSV, tyS, nuE, SubA.skip, SubA.refl, fr.2, areDigits_v, panSum_v, rdigits_v, rsum_v, panLuhn_v, rLuhn_v, panCheck_v, rCheck_v, calIsDate_v, calDay_v, stLim_v, lsb, lk, lb2, a1, a2, e, p1]
      refine rA_delete (ts := #[69, 9]) rfl und_w und_s p2 hm3 ?_
      intro es' cl' hm'
      have hS := hput es' cl' (by rw [hk]; exact hm')
      simp only [decO, decC, a1] at hS
      intro ν1 fr1
      have fr := fr1
      have nuE := fr.nu
      simp (maxDischargeDepth := 16) only [argE_nil, argE_cons, ↓vmD, vmV, vmStd, Nat.reduceMul, ↓reduceIte, Nat.reduceAdd, Nat.reduceSub, Nat.reduceEqDiff, Nat.reduceLT, Nat.reduceLeDiff, reduceCtorEq, Int.reduceToNat, Int.reduceLT, Int.reduceLE, Int.reduceEq, Int.reduceNeg, Int.reduceBEq, Int.reduceBNe, String.reduceEq, forall_const, ↓vmDA, vmVA, ↓vmQA, vmR, vmRA, ↓vmSA, vmSV, tyS, nuE, SubA.skip, SubA.refl, fr.2, areDigits_v, panSum_v, rdigits_v, rsum_v, panLuhn_v, rLuhn_v, panCheck_v, rCheck_v, calIsDate_v, calDay_v, stLim_v, e]
      exact ⟨_, _, hS, by rw [snd_set, a1], SubA.refl _, fun y hy => put_dom (put_dom hy)⟩

theorem ackN_h (E : AH) (sb : Nat) (lm : List Lim) (D : List (Nat × Dec)) (hE : StP E sb lm D) (k : List UInt8) (hn : waitD k (D.map Prod.snd) = false) : CallA Try.prog 16 #[.pointer (some ⟨sb, 0, none⟩), .string (bs k)] E (fun u_ A_ => u_ = .int .i64 6 ∧ SubA E A_) := by
  refine callA_of_denA ⟨Try.prog, 16, Try.f16, 21, [0, 1, 4], [], [], _⟩ (args := [_, _]) Try.func16 rfl (by kernel_rfl) Try.ntmps16 (by simp) (by kernel_rfl) ?_
  intro ν fr; have nuE := fr.nu
  obtain ⟨lr, kr, wr, cap, q, es1, cl1, es2, cl2, es3, cl3, W, lsb, h1, h2, ⟨h3, hm3⟩, hw, hs, hb, hu, hamt, hlen, _⟩ := hE.out
  have lk := rdA_lookup (s := bs k) (A := E) (ok := false) (es := es3) (cl := cl3) (r := wr) und_w und_s zro4 h3 hm3
  rw [hw.2 k] at lk
  simp only [hn, Bool.false_eq_true, if_false, Option.getD_none] at lk
  simp (maxDischargeDepth := 16) only [argE_nil, argE_cons, ↓vmD, vmV, vmStd, Nat.reduceMul, ↓reduceIte, Nat.reduceAdd, Nat.reduceSub, Nat.reduceEqDiff, Nat.reduceLT, Nat.reduceLeDiff, reduceCtorEq, Int.reduceToNat, Int.reduceLT, Int.reduceLE, Int.reduceEq, Int.reduceNeg, Int.reduceBEq, Int.reduceBNe, String.reduceEq, forall_const, ↓vmDA, vmVA, ↓vmQA, vmR, vmRA, ↓vmSA, vmSV, tyS, nuE, SubA.skip, SubA.refl, fr.2, areDigits_v, panSum_v, rdigits_v, rsum_v, panLuhn_v, rLuhn_v, panCheck_v, rCheck_v, calIsDate_v, calDay_v, stLim_v, lsb, lk]
theorem ackN_w (E : AH) (sb : Nat) (lm : List Lim) (D : List (Nat × Dec)) (hE : StP E sb lm D) (k : List UInt8) (hn : waitD k (D.map Prod.snd) = false) (B_ : AH) (hB_ : SubA E B_) : valA Try.prog 16 #[.pointer (some ⟨sb, 0, none⟩), .string (bs k)] B_ = some (.int .i64 6) := valA_eq (pureA_at (by kernel_rfl) (ackN_h E sb lm D hE k hn) hB_)
theorem ackN_v (E : AH) (sb : Nat) (lm : List Lim) (D : List (Nat × Dec)) (hE : StP E sb lm D) (k : List UInt8) (hn : waitD k (D.map Prod.snd) = false) : valA Try.prog 16 #[.pointer (some ⟨sb, 0, none⟩), .string (bs k)] E = some (.int .i64 6) := valA_eq (pureA_at (by kernel_rfl) (ackN_h E sb lm D hE k hn) (SubA.refl _))
theorem ackX_no {k : List UInt8} {L : List Dec} (h : waitD k L = false) : ackX k L = (6, L) := by
  unfold waitD at h
  unfold ackX
  cases hp : posD k L with
  | none => rfl
  | some i =>
    simp only [hp] at h ⊢
    cases hx : L[i]? with
    | none => rfl
    | some d => simp only [hx] at h ⊢; rw [if_neg (by rw [h]; simp)]
theorem waitD_yes {k : List UInt8} {L : List Dec} (h : waitD k L = true) : ∃ i d, posD k L = some i ∧ L[i]? = some d ∧ d.wai = true := by
  unfold waitD at h
  cases hp : posD k L with
  | none => simp only [hp] at h; cases h
  | some i =>
    simp only [hp] at h
    cases hx : L[i]? with
    | none => simp only [hx] at h; cases h
    | some d => simp only [hx] at h; exact ⟨i, d, rfl, hx, h⟩
theorem ack_h (E : AH) (sb : Nat) (lm : List Lim) (D : List (Nat × Dec)) (hE : StP E sb lm D) (k : List UInt8) : CallA Try.prog 16 #[.pointer (some ⟨sb, 0, none⟩), .string (bs k)] E (fun u_ A_ => u_ = .int .i64 (ackX k (D.map Prod.snd)).1 ∧ ∃ E' D', StP E' sb lm D' ∧ D'.map Prod.snd = (ackX k (D.map Prod.snd)).2 ∧ SubA E' A_ ∧ ∀ x, Vm.look E x ≠ none → Vm.look A_ x ≠ none) := by
  refine callA_of_denA ⟨Try.prog, 16, Try.f16, 21, [0, 1, 4], [], [], _⟩ (args := [_, _]) Try.func16 rfl (by kernel_rfl) Try.ntmps16 (by simp) (by kernel_rfl) ?_
  intro ν fr; have nuE := fr.nu
  cases hn : waitD k (D.map Prod.snd) with
  | false =>
    obtain ⟨lr, kr, wr, cap, q, es1, cl1, es2, cl2, es3, cl3, W, lsb, h1, h2, ⟨h3, hm3⟩, hw, hs, hb, hu, hamt, hlen, _⟩ := hE.out
    have lk := rdA_lookup (s := bs k) (A := E) (ok := false) (es := es3) (cl := cl3) (r := wr) und_w und_s zro4 h3 hm3
    rw [hw.2 k] at lk
    simp only [hn, Bool.false_eq_true, if_false, Option.getD_none] at lk
    have e := ackX_no hn
    simp (maxDischargeDepth := 16) only [argE_nil, argE_cons, ↓vmD, vmV, vmStd, Nat.reduceMul, ↓reduceIte, Nat.reduceAdd, Nat.reduceSub, Nat.reduceEqDiff, Nat.reduceLT, Nat.reduceLeDiff, reduceCtorEq, Int.reduceToNat, Int.reduceLT, Int.reduceLE, Int.reduceEq, Int.reduceNeg, Int.reduceBEq, Int.reduceBNe, String.reduceEq, forall_const, ↓vmDA, vmVA, ↓vmQA, vmR, vmRA, ↓vmSA, vmSV, tyS, nuE, SubA.skip, SubA.refl, fr.2, areDigits_v, panSum_v, rdigits_v, rsum_v, panLuhn_v, rLuhn_v, panCheck_v, rCheck_v, calIsDate_v, calDay_v, stLim_v, lsb, lk, e]
    exact ⟨E, D, hE, rfl, SubA.refl _, fun x hx => hx⟩
  | true =>
    obtain ⟨i, d0, hp, hd0, hwa⟩ := waitD_yes hn
    obtain ⟨b, d, hx, hk, hxs⟩ := key_at hp
    have hwa : d.wai = true := by rw [hxs] at hd0; cases hd0; exact hwa
    have hR := hE.rev hx (x' := { d with wai := false }) rfl rfl rfl
    obtain ⟨lr, kr, wr, cap, q, es1, cl1, es2, cl2, es3, cl3, W, lsb, ⟨h2, hm2⟩, ⟨h3, hm3⟩, hw, lb, n1, n2, n3, hput⟩ := hR
    have lk := rdA_lookup (s := bs k) (A := E) (ok := false) (es := es3) (cl := cl3) (r := wr) und_w und_s zro4 h3 hm3
    rw [hw k] at lk
    simp only [hn, Bool.false_eq_true, if_false, if_true, Option.getD_some] at lk
    have e : ackX k (D.map Prod.snd) = (0, (D.map Prod.snd).set i { d with wai := false }) := by unfold ackX; simp only [hp, hxs]; rw [if_pos hwa]
    simp (maxDischargeDepth := 16) only [argE_nil, argE_cons, ↓vmD, vmV, vmStd, Nat.reduceMul, ↓reduceIte, Nat.reduceAdd, Nat.reduceSub, Nat.reduceEqDiff, Nat.reduceLT, Nat.reduceLeDiff, reduceCtorEq, Int.reduceToNat, Int.reduceLT, Int.reduceLE, Int.reduceEq, Int.reduceNeg, Int.reduceBEq, Int.reduceBNe, String.reduceEq, forall_const, ↓vmDA, vmVA, ↓vmQA, vmR, vmRA, ↓vmSA, vmSV, tyS, nuE, SubA.skip, SubA.refl, fr.2, areDigits_v, panSum_v, rdigits_v, rsum_v, panLuhn_v, rLuhn_v, panCheck_v, rCheck_v, calIsDate_v, calDay_v, stLim_v, lsb, lk, e]
    refine rA_delete (ts := #[69, 9]) rfl und_w und_s h3 hm3 ?_
    intro es' cl' hm'
    have hS := hput es' cl' (by rw [hk]; exact hm')
    rw [putB_self (o := decO { d with wai := false }) lb] at hS
    intro ν1 fr1
    have fr := fr1
    have nuE := fr.nu
    simp (maxDischargeDepth := 16) only [argE_nil, argE_cons, ↓vmD, vmV, vmStd, Nat.reduceMul, ↓reduceIte, Nat.reduceAdd, Nat.reduceSub, Nat.reduceEqDiff, Nat.reduceLT, Nat.reduceLeDiff, reduceCtorEq, Int.reduceToNat, Int.reduceLT, Int.reduceLE, Int.reduceEq, Int.reduceNeg, Int.reduceBEq, Int.reduceBNe, String.reduceEq, forall_const, ↓vmDA, vmVA, ↓vmQA, vmR, vmRA, ↓vmSA, vmSV, tyS, nuE, SubA.skip, SubA.refl, fr.2, areDigits_v, panSum_v, rdigits_v, rsum_v, panLuhn_v, rLuhn_v, panCheck_v, rCheck_v, calIsDate_v, calDay_v, stLim_v, e]
    exact ⟨_, _, hS, snd_set _ _ _ _, SubA.refl _, fun y hy => put_dom hy⟩

end Go.Proofs.Ytmjkjpjjckcihaa
