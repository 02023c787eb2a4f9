/-
Stand-in: the walks of the program's stand-in that only read: dates, what is used, what was decided.
Conditions: none.
-/
import Derived.Test.YtmjkjpjjckcihaaStN
import Derived.Test.YtmjkjpjjckcihaaPnW
namespace Go.Proofs.Ytmjkjpjjckcihaa
open Go.Vm
set_option linter.unusedSimpArgs false
set_option linter.unusedVariables false
set_option maxHeartbeats 2000000
set_option maxRecDepth 20000
/-- What a stand-in in memory gives to read. -/
theorem StP.out {E : AH} {sb : Nat} {lm : List Lim} {D : List (Nat × Dec)} (hE : StP E sb lm D) : ∃ (lr kr wr cap : Nat) (q : Option Addr) (es1 : Array MapEntry) (cl1 : Nat) (es2 : Array MapEntry) (cl2 : Nat) (es3 : Array MapEntry) (cl3 : Nat) (W : SMap),
    Vm.look E sb = some (Obj.cells #[.map (some lr), .slice q D.length cap, .map (some kr), .map (some wr)] 72) ∧ (Vm.look E lr = some (.map es1 cl1) ∧ MapIs es1 (mapLm lm)) ∧ (Vm.look E kr = some (.map es2 cl2) ∧ MapIs es2 (mapK D)) ∧ (Vm.look E wr = some (.map es3 cl3) ∧ MapIs es3 W) ∧
    WaitOk W (D.map Prod.snd) ∧ StR ptrC 1 E q (D.map Prod.fst) ∧ (∀ (i b : Nat) (d : Dec), D[i]? = some (b, d) → Vm.look E b = some (decO d)) ∧ DecOk (D.map Prod.snd) := by
  obtain ⟨lr, kr, wr, v, es1, cl1, es2, cl2, es3, cl3, W, Bk, rfl, sp, hm1, hm2, hm3, hw, ho, hn, hok⟩ := hE
  obtain ⟨q, cap, rfl, hcap, hs⟩ := ho.read ptrC_len
  rw [List.length_map] at *
  refine ⟨lr, kr, wr, cap, q, es1, cl1, es2, cl2, es3, cl3, W, sp.subs [0] rfl _ _ (by simp [pick, at_, cat, Vm.look]), ⟨sp.subs [1] rfl _ _ (by simp [pick, at_, cat, Vm.look]), hm1⟩, ⟨sp.subs [2] rfl _ _ (by simp [pick, at_, cat, Vm.look]), hm2⟩, ⟨sp.subs [3] rfl _ _ (by simp [pick, at_, cat, Vm.look]), hm3⟩, hw, hs.mono (sp.subs [4] rfl), fun i b d h => sp.subs [5] rfl _ _ (look_decB hn h), hok⟩
def dayV (n : Int) : Value := .tuple #[.int .i64 (dayD n), .int .i64 (if dayD n < 0 then -1 else n.tmod 86400)]
theorem day_ok {n : Int} (h0 : 0 ≤ n) (h1 : n ≤ 8639999999) : dayD n = n.tdiv 86400 ∧ 0 ≤ n.tdiv 86400 ∧ n.tdiv 86400 ≤ 99999 := by
  unfold dayD
  rw [if_pos ⟨h0, by omega⟩, Int.tdiv_eq_ediv_of_nonneg h0]
  omega
theorem day_no {n : Int} (h : n < 0 ∨ 8639999999 < n) : dayD n = -1 := by
  unfold dayD
  rw [if_neg (by omega)]
theorem div_big {n : Int} (h : 8639999999 < n) : 99999 < n.tdiv 86400 := by
  rw [Int.tdiv_eq_ediv_of_nonneg (by omega)]
  omega
theorem calIsDate_h (n : Int) : CallA Try.prog 42 #[.int .i64 n] [] (fun u_ _ => u_ = .bool (decide (0 ≤ n) && decide (n ≤ 99999))) := by
  refine callA_of_denA ⟨Try.prog, 42, Try.f42, 9, [0, 2], [], [], _⟩ (args := [_]) Try.func42 rfl (by kernel_rfl) Try.ntmps42 (by simp) (by kernel_rfl) ?_
  intro ν fr; have nuE := fr.nu
  simp (maxDischargeDepth := 16) only [argE_nil, argE_cons, ↓vmD, vmV, vmStd, Nat.reduceMul, ↓reduceIte, Nat.reduceAdd, Nat.reduceSub, Nat.reduceEqDiff, Nat.reduceLT, Nat.reduceLeDiff, reduceCtorEq, Int.reduceToNat, Int.reduceLT, Int.reduceLE, Int.reduceEq, Int.reduceNeg, Int.reduceBEq, Int.reduceBNe, String.reduceEq, forall_const, ↓vmDA, vmVA, ↓vmQA, vmR, vmRA, ↓vmSA, vmSV, tyS, nuE, areDigits_v, panSum_v, rdigits_v, rsum_v, panLuhn_v, rLuhn_v, panCheck_v, rCheck_v]
  all_goals ((repeat' split) <;> (try simp_all) <;> (try omega))
theorem calIsDate_v (n : Int) (A_ : AH) : valA Try.prog 42 #[.int .i64 n] A_ = some (.bool (decide (0 ≤ n) && decide (n ≤ 99999))) := valA_eq (pureA_of (by kernel_rfl) (calIsDate_h n))
theorem calDay_h (n : Int) : CallA Try.prog 30 #[.int .i64 n] [] (fun u_ _ => u_ = dayV n) := by
  refine callA_of_denA ⟨Try.prog, 30, Try.f30, 20, [0, 2, 3], [], [], _⟩ (args := [_]) Try.func30 rfl (by kernel_rfl) Try.ntmps30 (by simp) (by kernel_rfl) ?_
  intro ν fr; have nuE := fr.nu
  by_cases a1 : n < 0
  · have e : dayV n = .tuple #[.int .i64 (-1), .int .i64 (-1)] := by unfold dayV; rw [day_no (.inl a1)]; rfl
    simp (maxDischargeDepth := 16) only [argE_nil, argE_cons, ↓vmD, vmV, vmStd, Nat.reduceMul, ↓reduceIte, Nat.reduceAdd, Nat.reduceSub, Nat.reduceEqDiff, Nat.reduceLT, Nat.reduceLeDiff, reduceCtorEq, Int.reduceToNat, Int.reduceLT, Int.reduceLE, Int.reduceEq, Int.reduceNeg, Int.reduceBEq, Int.reduceBNe, String.reduceEq, forall_const, ↓vmDA, vmVA, ↓vmQA, vmR, vmRA, ↓vmSA, vmSV, tyS, nuE, areDigits_v, panSum_v, rdigits_v, rsum_v, panLuhn_v, rLuhn_v, panCheck_v, rCheck_v, calIsDate_v, a1, e]
  by_cases a2 : 1099511627776 < n
  · have e : dayV n = .tuple #[.int .i64 (-1), .int .i64 (-1)] := by unfold dayV; rw [day_no (.inr (by omega))]; rfl
    simp (maxDischargeDepth := 16) only [argE_nil, argE_cons, ↓vmD, vmV, vmStd, Nat.reduceMul, ↓reduceIte, Nat.reduceAdd, Nat.reduceSub, Nat.reduceEqDiff, Nat.reduceLT, Nat.reduceLeDiff, reduceCtorEq, Int.reduceToNat, Int.reduceLT, Int.reduceLE, Int.reduceEq, Int.reduceNeg, Int.reduceBEq, Int.reduceBNe, String.reduceEq, forall_const, ↓vmDA, vmVA, ↓vmQA, vmR, vmRA, ↓vmSA, vmSV, tyS, nuE, areDigits_v, panSum_v, rdigits_v, rsum_v, panLuhn_v, rLuhn_v, panCheck_v, rCheck_v, calIsDate_v, a1, a2, e]
  have wq : IntKind.i64.wrap (n.tdiv 86400) = n.tdiv 86400 := by
    have : 0 ≤ n.tdiv 86400 ∧ n.tdiv 86400 ≤ n := by rw [Int.tdiv_eq_ediv_of_nonneg (by omega)]; omega
    exact w_i64 (by omega) (by omega)
  by_cases a3 : n ≤ 8639999999
  · have h := day_ok (n := n) (by omega) a3
    have e : dayV n = .tuple #[.int .i64 (n.tdiv 86400), .int .i64 (n.tmod 86400)] := by unfold dayV; rw [h.1, if_neg (by omega)]
    have q1 := h.2.1
    have q2 := h.2.2
    simp (maxDischargeDepth := 16) only [argE_nil, argE_cons, ↓vmD, vmV, vmStd, Nat.reduceMul, ↓reduceIte, Nat.reduceAdd, Nat.reduceSub, Nat.reduceEqDiff, Nat.reduceLT, Nat.reduceLeDiff, reduceCtorEq, Int.reduceToNat, Int.reduceLT, Int.reduceLE, Int.reduceEq, Int.reduceNeg, Int.reduceBEq, Int.reduceBNe, String.reduceEq, forall_const, ↓vmDA, vmVA, ↓vmQA, vmR, vmRA, ↓vmSA, vmSV, tyS, nuE, areDigits_v, panSum_v, rdigits_v, rsum_v, panLuhn_v, rLuhn_v, panCheck_v, rCheck_v, calIsDate_v, a1, a2, wq, q1, q2, e]
  · have h := div_big (n := n) (by omega)
    have q2 : ¬ n.tdiv 86400 ≤ 99999 := by omega
    have e : dayV n = .tuple #[.int .i64 (-1), .int .i64 (-1)] := by unfold dayV; rw [day_no (.inr (by omega))]; rfl
    simp (maxDischargeDepth := 16) only [argE_nil, argE_cons, ↓vmD, vmV, vmStd, Nat.reduceMul, ↓reduceIte, Nat.reduceAdd, Nat.reduceSub, Nat.reduceEqDiff, Nat.reduceLT, Nat.reduceLeDiff, reduceCtorEq, Int.reduceToNat, Int.reduceLT, Int.reduceLE, Int.reduceEq, Int.reduceNeg, Int.reduceBEq, Int.reduceBNe, String.reduceEq, forall_const, ↓vmDA, vmVA, ↓vmQA, vmR, vmRA, ↓vmSA, vmSV, tyS, nuE, areDigits_v, panSum_v, rdigits_v, rsum_v, panLuhn_v, rLuhn_v, panCheck_v, rCheck_v, calIsDate_v, a1, a2, wq, q2, e]
theorem calDay_v (n : Int) (A_ : AH) : valA Try.prog 30 #[.int .i64 n] A_ = some (dayV n) := valA_eq (pureA_of (by kernel_rfl) (calDay_h n))
theorem stLim_h (n : Int) : CallA Try.prog 27 #[.int .i64 n] [] (fun u_ _ => u_ = .bool (decide (0 ≤ n) && decide (n ≤ 999999999999))) := by
  refine callA_of_denA ⟨Try.prog, 27, Try.f27, 9, [0, 2], [], [], _⟩ (args := [_]) Try.func27 rfl (by kernel_rfl) Try.ntmps27 (by simp) (by kernel_rfl) ?_
  intro ν fr; have nuE := fr.nu
  simp (maxDischargeDepth := 16) only [argE_nil, argE_cons, ↓vmD, vmV, vmStd, Nat.reduceMul, ↓reduceIte, Nat.reduceAdd, Nat.reduceSub, Nat.reduceEqDiff, Nat.reduceLT, Nat.reduceLeDiff, reduceCtorEq, Int.reduceToNat, Int.reduceLT, Int.reduceLE, Int.reduceEq, Int.reduceNeg, Int.reduceBEq, Int.reduceBNe, String.reduceEq, forall_const, ↓vmDA, vmVA, ↓vmQA, vmR, vmRA, ↓vmSA, vmSV, tyS, nuE, areDigits_v, panSum_v, rdigits_v, rsum_v, panLuhn_v, rLuhn_v, panCheck_v, rCheck_v, calIsDate_v, calDay_v]
  all_goals ((repeat' split) <;> (try simp_all) <;> (try omega))
theorem stLim_v (n : Int) (A_ : AH) : valA Try.prog 27 #[.int .i64 n] A_ = some (.bool (decide (0 ≤ n) && decide (n ≤ 999999999999))) := valA_eq (pureA_of (by kernel_rfl) (stLim_h n))
theorem drop_some {α : Type} {L l : List α} {e : Nat} {a : α} (h3 : a :: l = L.drop e) : L[e]? = some a ∧ e < L.length ∧ l = L.drop (e + 1) ∧ L.take (e + 1) = L.take e ++ [a] := by
  have ha : L[e]? = some a := by
    have := congrArg (fun x => x[0]?) h3
    simpa using this.symm
  refine ⟨ha, (List.getElem?_eq_some_iff.1 ha).1, ?_, ?_⟩
  · have := congrArg (fun x => x.drop 1) h3
    simpa [List.drop_drop, Nat.add_comm] using this
  · rw [List.take_add_one, ha]; rfl
theorem drop_nil {α : Type} {L : List α} {e : Nat} (h3 : [] = L.drop e) (he : e ≤ L.length) : L.length = e ∧ L.take e = L := by
  rcases Nat.lt_or_ge e L.length with h | h
  · rw [List.drop_eq_getElem_cons h] at h3; cases h3
  · have : e = L.length := by omega
    exact ⟨this.symm, by rw [this, List.take_length]⟩
theorem used_h (E : AH) (sb : Nat) (lm : List Lim) (D : List (Nat × Dec)) (hE : StP E sb lm D) (card : List UInt8) (date : Int) : CallA Try.prog 20 #[.pointer (some ⟨sb, 0, none⟩), .string (bs card), .int .i64 date] E (fun u_ A_ => u_ = .tuple #[.int .i64 (sumD card date (D.map Prod.snd)), .int .i64 (cntD card date (D.map Prod.snd) : Int)] ∧ SubA E A_) := by
  refine callA_of_denA ⟨Try.prog, 20, Try.f20, 63, [0, 1, 2, 6, 7, 8, 9, 11, 17, 18, 19], [], [], _⟩ (args := [_, _, _]) Try.func20 rfl (by kernel_rfl) Try.ntmps20 (by simp) (by kernel_rfl) ?_
  intro ν fr; have nuE := fr.nu
  obtain ⟨lr, kr, wr, cap, q, es1, cl1, es2, cl2, es3, cl3, W, lsb, h1, h2, h3, hw, hs, hb, hu, hamt, hlen, _⟩ := hE.out
  rw [List.length_map] at hlen
  simp (maxDischargeDepth := 16) only [argE_nil, argE_cons, ↓vmD, vmV, vmStd, Nat.reduceMul, ↓reduceIte, Nat.reduceAdd, Nat.reduceSub, Nat.reduceEqDiff, Nat.reduceLT, Nat.reduceLeDiff, reduceCtorEq, Int.reduceToNat, Int.reduceLT, Int.reduceLE, Int.reduceEq, Int.reduceNeg, Int.reduceBEq, Int.reduceBNe, String.reduceEq, forall_const, ↓vmDA, vmVA, ↓vmQA, vmR, vmRA, ↓vmSA, vmSV, tyS, nuE, SubA.skip, SubA.refl, fr.2, areDigits_v, panSum_v, rdigits_v, rsum_v, panLuhn_v, rLuhn_v, panCheck_v, rCheck_v, calIsDate_v, calDay_v, stLim_v, lsb]
  obtain ⟨e, l, s, c, he, hs0, hc0, hd, hle, hsum, hcnt⟩ : ∃ (e : Nat) (l : List (Nat × Dec)) (s : Int) (c : Nat), e = 0 ∧ s = 0 ∧ c = 0 ∧ l = D.drop e ∧ e ≤ D.length ∧ s = sumD card date ((D.take e).map Prod.snd) ∧ c = cntD card date ((D.take e).map Prod.snd) :=
    ⟨0, D, 0, 0, rfl, rfl, rfl, rfl, by simp, rfl, rfl⟩
  rw [show (19, some (Value.int .i64 0)) = (19, some (Value.int .i64 (e : Int))) by rw [he]; rfl]
  rw [show (8, some (Value.int .i64 0)) = (8, some (Value.int .i64 s)) by rw [hs0]]
  rw [show (9, some (Value.int .i64 0)) = (9, some (Value.int .i64 (c : Int))) by rw [hc0]; rfl]
  clear he hs0 hc0 nuE fr
  induction l generalizing e s c with
  | nil =>
    obtain ⟨hn1, hn2⟩ := drop_nil hd hle
    rw [hn2] at hsum hcnt
    have lt : ((e : Int) < (D.length : Int)) = False := eq_false (by omega)
    refine LoopA.intro (by kernel_rfl) ?_
    intro ν fr; have nuE := fr.nu
    simp (maxDischargeDepth := 16) only [argE_nil, argE_cons, ↓vmD, vmV, vmStd, Nat.reduceMul, ↓reduceIte, Nat.reduceAdd, Nat.reduceSub, Nat.reduceEqDiff, Nat.reduceLT, Nat.reduceLeDiff, reduceCtorEq, Int.reduceToNat, Int.reduceLT, Int.reduceLE, Int.reduceEq, Int.reduceNeg, Int.reduceBEq, Int.reduceBNe, String.reduceEq, forall_const, ↓vmDA, vmVA, ↓vmQA, vmR, vmRA, ↓vmSA, vmSV, tyS, nuE, SubA.skip, SubA.refl, fr.2, areDigits_v, panSum_v, rdigits_v, rsum_v, panLuhn_v, rLuhn_v, panCheck_v, rCheck_v, calIsDate_v, calDay_v, stLim_v, lt, hsum, hcnt]
  | cons x l ih =>
    obtain ⟨b, d⟩ := x
    obtain ⟨ha, hlt, hd', htk⟩ := drop_some hd
    have lt : ((e : Int) < (D.length : Int)) = True := eq_true (by omega)
    have we : IntKind.i64.wrap ((e : Int) + 1) = ((e + 1 : Nat) : Int) := by rw [w_i64 (by omega) (by omega)]; omega
    have ha1 : (D.map Prod.fst)[e]? = some b := by rw [List.getElem?_map, ha]; rfl
    obtain ⟨bk, off, cs, ty, fr0, hp0, hbk, hcr, hcc⟩ := hs.at ha1
    subst hp0
    have hc0 : cs[off + e * 1]? = some (.pointer (some ⟨b, 0, none⟩)) := hcc 0 _ rfl
    have lb := hb e b d ha
    simp only [decO, decC] at lb
    have hs1 : sumD card date ((D.take (e + 1)).map Prod.snd) = s + (if usedB card date d = true then d.amt else 0) := by rw [htk, List.map_append, sumD_app, ← hsum]; simp [sumD]
    have hc1 : cntD card date ((D.take (e + 1)).map Prod.snd) = c + (if usedB card date d = true then 1 else 0) := by rw [htk, List.map_append, cntD_app, ← hcnt]; simp [cntD]
    have hdm := hamt d (List.mem_map_of_mem (f := Prod.snd) (List.mem_of_getElem? ha))
    have b1 : AmtOk ((D.take e).map Prod.snd) := fun y hy => hamt y (by
      obtain ⟨z, hz, rfl⟩ := List.mem_map.1 hy
      exact List.mem_map_of_mem (List.mem_of_mem_take hz))
    have b2 := sumD_le card date _ b1
    have b3 := cntD_le card date ((D.take e).map Prod.snd)
    rw [← hsum, List.length_map, List.length_take] at b2
    rw [← hcnt, List.length_map, List.length_take] at b3
    have ws : IntKind.i64.wrap (s + d.amt) = s + d.amt := w_i64 (by omega) (by omega)
    have wc : IntKind.i64.wrap ((c : Int) + 1) = ((c + 1 : Nat) : Int) := by rw [w_i64 (by omega) (by omega)]; omega
    have t1 : ((bs d.card).toList = (bs card).toList) = (d.card = card) := by rw [bs_list, bs_list]
    refine LoopA.intro (by kernel_rfl) ?_
    intro ν fr; have nuE := fr.nu
    have no : usedB card date d = false → _ := fun hu => ih (e + 1) s c hd' (by omega) (by rw [hs1, hu]; simp) (by rw [hc1, hu]; simp)
    by_cases a1 : d.card = card
    · by_cases a2 : d.date = date
      · cases a3 : d.app with
        | true =>
          cases a4 : d.rev with
          | true =>
            simp (maxDischargeDepth := 16) only [argE_nil, argE_cons, ↓vmD, vmV, vmStd, Nat.reduceMul, ↓reduceIte, Nat.reduceAdd, Nat.reduceSub, Nat.reduceEqDiff, Nat.reduceLT, Nat.reduceLeDiff, reduceCtorEq, Int.reduceToNat, Int.reduceLT, Int.reduceLE, Int.reduceEq, Int.reduceNeg, Int.reduceBEq, Int.reduceBNe, String.reduceEq, forall_const, ↓vmDA, vmVA, ↓vmQA, vmR, vmRA, ↓vmSA, vmSV, tyS, nuE, SubA.skip, SubA.refl, fr.2, areDigits_v, panSum_v, rdigits_v, rsum_v, panLuhn_v, rLuhn_v, panCheck_v, rCheck_v, calIsDate_v, calDay_v, stLim_v, lt, hbk, hc0, lb, t1, a1, a2, a3, a4, we]
            exact LoopA.weak (no (by simp [usedB, a1, a2, a3, a4])) (by simp only [subE, get_cons, Nat.reduceEqDiff, ↓reduceIte, reduceCtorEq, Nat.reduceAdd, and_self, and_true]) (SubA.refl _)
          | false =>
            have hu : usedB card date d = true := by simp [usedB, a1, a2, a3, a4]
            simp (maxDischargeDepth := 16) only [argE_nil, argE_cons, ↓vmD, vmV, vmStd, Nat.reduceMul, ↓reduceIte, Nat.reduceAdd, Nat.reduceSub, Nat.reduceEqDiff, Nat.reduceLT, Nat.reduceLeDiff, reduceCtorEq, Int.reduceToNat, Int.reduceLT, Int.reduceLE, Int.reduceEq, Int.reduceNeg, Int.reduceBEq, Int.reduceBNe, String.reduceEq, forall_const, ↓vmDA, vmVA, ↓vmQA, vmR, vmRA, ↓vmSA, vmSV, tyS, nuE, SubA.skip, SubA.refl, fr.2, areDigits_v, panSum_v, rdigits_v, rsum_v, panLuhn_v, rLuhn_v, panCheck_v, rCheck_v, calIsDate_v, calDay_v, stLim_v, lt, hbk, hc0, lb, t1, a1, a2, a3, a4, we, ws, wc]
            exact LoopA.weak (ih (e + 1) (s + d.amt) (c + 1) hd' (by omega) (by rw [hs1, hu]; simp) (by rw [hc1, hu]; simp)) (by simp only [subE, get_cons, Nat.reduceEqDiff, ↓reduceIte, reduceCtorEq, Nat.reduceAdd, and_self, and_true]) (SubA.refl _)
        | false =>
          simp (maxDischargeDepth := 16) only [argE_nil, argE_cons, ↓vmD, vmV, vmStd, Nat.reduceMul, ↓reduceIte, Nat.reduceAdd, Nat.reduceSub, Nat.reduceEqDiff, Nat.reduceLT, Nat.reduceLeDiff, reduceCtorEq, Int.reduceToNat, Int.reduceLT, Int.reduceLE, Int.reduceEq, Int.reduceNeg, Int.reduceBEq, Int.reduceBNe, String.reduceEq, forall_const, ↓vmDA, vmVA, ↓vmQA, vmR, vmRA, ↓vmSA, vmSV, tyS, nuE, SubA.skip, SubA.refl, fr.2, areDigits_v, panSum_v, rdigits_v, rsum_v, panLuhn_v, rLuhn_v, panCheck_v, rCheck_v, calIsDate_v, calDay_v, stLim_v, lt, hbk, hc0, lb, t1, a1, a2, a3, we]
          exact LoopA.weak (no (by simp [usedB, a1, a2, a3])) (by simp only [subE, get_cons, Nat.reduceEqDiff, ↓reduceIte, reduceCtorEq, Nat.reduceAdd, and_self, and_true]) (SubA.refl _)
      · simp (maxDischargeDepth := 16) only [argE_nil, argE_cons, ↓vmD, vmV, vmStd, Nat.reduceMul, ↓reduceIte, Nat.reduceAdd, Nat.reduceSub, Nat.reduceEqDiff, Nat.reduceLT, Nat.reduceLeDiff, reduceCtorEq, Int.reduceToNat, Int.reduceLT, Int.reduceLE, Int.reduceEq, Int.reduceNeg, Int.reduceBEq, Int.reduceBNe, String.reduceEq, forall_const, ↓vmDA, vmVA, ↓vmQA, vmR, vmRA, ↓vmSA, vmSV, tyS, nuE, SubA.skip, SubA.refl, fr.2, areDigits_v, panSum_v, rdigits_v, rsum_v, panLuhn_v, rLuhn_v, panCheck_v, rCheck_v, calIsDate_v, calDay_v, stLim_v, lt, hbk, hc0, lb, t1, a1, a2, we]
        exact LoopA.weak (no (by simp [usedB, a1, a2])) (by simp only [subE, get_cons, Nat.reduceEqDiff, ↓reduceIte, reduceCtorEq, Nat.reduceAdd, and_self, and_true]) (SubA.refl _)
    · simp (maxDischargeDepth := 16) only [argE_nil, argE_cons, ↓vmD, vmV, vmStd, Nat.reduceMul, ↓reduceIte, Nat.reduceAdd, Nat.reduceSub, Nat.reduceEqDiff, Nat.reduceLT, Nat.reduceLeDiff, reduceCtorEq, Int.reduceToNat, Int.reduceLT, Int.reduceLE, Int.reduceEq, Int.reduceNeg, Int.reduceBEq, Int.reduceBNe, String.reduceEq, forall_const, ↓vmDA, vmVA, ↓vmQA, vmR, vmRA, ↓vmSA, vmSV, tyS, nuE, SubA.skip, SubA.refl, fr.2, areDigits_v, panSum_v, rdigits_v, rsum_v, panLuhn_v, rLuhn_v, panCheck_v, rCheck_v, calIsDate_v, calDay_v, stLim_v, lt, hbk, hc0, lb, t1, a1, we]
      exact LoopA.weak (no (by simp [usedB, a1])) (by simp only [subE, get_cons, Nat.reduceEqDiff, ↓reduceIte, reduceCtorEq, Nat.reduceAdd, and_self, and_true]) (SubA.refl _)
theorem used_w (E : AH) (sb : Nat) (lm : List Lim) (D : List (Nat × Dec)) (hE : StP E sb lm D) (card : List UInt8) (date : Int) (B_ : AH) (hB_ : SubA E B_) : valA Try.prog 20 #[.pointer (some ⟨sb, 0, none⟩), .string (bs card), .int .i64 date] B_ = some (.tuple #[.int .i64 (sumD card date (D.map Prod.snd)), .int .i64 (cntD card date (D.map Prod.snd) : Int)]) := valA_eq (pureA_at (by kernel_rfl) (used_h E sb lm D hE card date) hB_)
theorem used_v (E : AH) (sb : Nat) (lm : List Lim) (D : List (Nat × Dec)) (hE : StP E sb lm D) (card : List UInt8) (date : Int) : valA Try.prog 20 #[.pointer (some ⟨sb, 0, none⟩), .string (bs card), .int .i64 date] E = some (.tuple #[.int .i64 (sumD card date (D.map Prod.snd)), .int .i64 (cntD card date (D.map Prod.snd) : Int)]) := valA_eq (pureA_at (by kernel_rfl) (used_h E sb lm D hE card date) (SubA.refl _))
def getX (k : List UInt8) (L : List Dec) : Value := match posD k L with | some i => (match L[i]? with | some d => .tuple #[.bool d.app, .bool true] | none => .tuple #[.bool false, .bool false]) | none => .tuple #[.bool false, .bool false]
theorem und_k : Try.prog.underlying 68 = some (.map 9 82) := by kernel_rfl
theorem und_w : Try.prog.underlying 69 = some (.map 9 4) := by kernel_rfl
theorem und_l : Try.prog.underlying 67 = some (.map 9 52) := by kernel_rfl
theorem und_s : Try.prog.underlying 9 = some .string := by kernel_rfl
theorem decision_h (E : AH) (sb : Nat) (lm : List Lim) (D : List (Nat × Dec)) (hE : StP E sb lm D) (k : List UInt8) : CallA Try.prog 18 #[.pointer (some ⟨sb, 0, none⟩), .string (bs k)] E (fun u_ A_ => u_ = getX k (D.map Prod.snd) ∧ SubA E A_) := by
  refine callA_of_denA ⟨Try.prog, 18, Try.f18, 26, [0, 1, 4, 5, 6], [], [], _⟩ (args := [_, _]) Try.func18 rfl (by kernel_rfl) Try.ntmps18 (by simp) (by kernel_rfl) ?_
  intro ν fr; have nuE := fr.nu
  obtain ⟨lr, kr, wr, cap, q, es1, cl1, es2, cl2, es3, cl3, W, lsb, h1, ⟨h2, hm2⟩, h3, hw, hs, hb, hu, hamt, hlen, _⟩ := hE.out
  have lk := rdA_lookup (s := bs k) (A := E) (ok := true) (es := es2) (cl := cl2) (r := kr) und_k und_s zro82 h2 hm2
  rw [look_mapK] at lk
  cases hp : posD k (D.map Prod.snd) with
  | none =>
    simp only [hp] at lk
    have e : getX k (D.map Prod.snd) = .tuple #[.bool false, .bool false] := by unfold getX; rw [hp]
    simp only [Option.getD_none, Option.isSome_none, if_true] at lk
    simp (maxDischargeDepth := 16) only [argE_nil, argE_cons, ↓vmD, vmV, vmStd, Nat.reduceMul, ↓reduceIte, Nat.reduceAdd, Nat.reduceSub, Nat.reduceEqDiff, Nat.reduceLT, Nat.reduceLeDiff, reduceCtorEq, Int.reduceToNat, Int.reduceLT, Int.reduceLE, Int.reduceEq, Int.reduceNeg, Int.reduceBEq, Int.reduceBNe, String.reduceEq, forall_const, ↓vmDA, vmVA, ↓vmQA, vmR, vmRA, ↓vmSA, vmSV, tyS, nuE, SubA.skip, SubA.refl, fr.2, areDigits_v, panSum_v, rdigits_v, rsum_v, panLuhn_v, rLuhn_v, panCheck_v, rCheck_v, calIsDate_v, calDay_v, stLim_v, lsb, lk, e]
  | some i =>
    simp only [hp] at lk
    obtain ⟨d, hd, hk⟩ := posD_some hp
    rw [List.getElem?_map] at hd
    cases hx : D[i]? with
    | none => rw [hx] at hd; cases hd
    | some x =>
      obtain ⟨b, d'⟩ := x
      rw [hx] at hd lk
      simp only [Option.map_some, Option.some.injEq] at hd
      subst hd
      have e : getX k (D.map Prod.snd) = .tuple #[.bool d'.app, .bool true] := by unfold getX; rw [hp]; simp [List.getElem?_map, hx]
      simp only [Option.map_some, Option.getD_some, Option.isSome_some, if_true] at lk
      have lb := hb i b d' hx
      simp only [decO, decC] at lb
      simp (maxDischargeDepth := 16) only [argE_nil, argE_cons, ↓vmD, vmV, vmStd, Nat.reduceMul, ↓reduceIte, Nat.reduceAdd, Nat.reduceSub, Nat.reduceEqDiff, Nat.reduceLT, Nat.reduceLeDiff, reduceCtorEq, Int.reduceToNat, Int.reduceLT, Int.reduceLE, Int.reduceEq, Int.reduceNeg, Int.reduceBEq, Int.reduceBNe, String.reduceEq, forall_const, ↓vmDA, vmVA, ↓vmQA, vmR, vmRA, ↓vmSA, vmSV, tyS, nuE, SubA.skip, SubA.refl, fr.2, areDigits_v, panSum_v, rdigits_v, rsum_v, panLuhn_v, rLuhn_v, panCheck_v, rCheck_v, calIsDate_v, calDay_v, stLim_v, lsb, lk, lb, e]
theorem decision_w (E : AH) (sb : Nat) (lm : List Lim) (D : List (Nat × Dec)) (hE : StP E sb lm D) (k : List UInt8) (B_ : AH) (hB_ : SubA E B_) : valA Try.prog 18 #[.pointer (some ⟨sb, 0, none⟩), .string (bs k)] B_ = some (getX k (D.map Prod.snd)) := valA_eq (pureA_at (by kernel_rfl) (decision_h E sb lm D hE k) hB_)
theorem decision_v (E : AH) (sb : Nat) (lm : List Lim) (D : List (Nat × Dec)) (hE : StP E sb lm D) (k : List UInt8) : valA Try.prog 18 #[.pointer (some ⟨sb, 0, none⟩), .string (bs k)] E = some (getX k (D.map Prod.snd)) := valA_eq (pureA_at (by kernel_rfl) (decision_h E sb lm D hE k) (SubA.refl _))
end Go.Proofs.Ytmjkjpjjckcihaa
