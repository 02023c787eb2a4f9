/-
Stand-in: the walks of the program's Decide and Waiting.
Conditions: none.
-/
import Derived.Test.YtmjkjpjjckcihaaStC
namespace Go.Proofs.Ytmjkjpjjckcihaa
open Go.Vm
set_option linter.unusedSimpArgs false
set_option linter.unusedVariables false
set_option maxHeartbeats 4000000
set_option maxRecDepth 20000
theorem chk_beq (l : List UInt8) : (chk l == 0) = decide (chk l = 0) := by
  by_cases h : chk l = 0
  · rw [h]; rfl
  · simp [h]
theorem chk_bne (l : List UInt8) : (chk l != 0) = !decide (chk l = 0) := by rw [bne, chk_beq]
/-- The error of a call that is not about a known key. -/
def decE (at_ : Int) (key card : List UInt8) (amt : Int) : Int := if dayD at_ < 0 then 14 else if key.length < 1 ∨ 40 < key.length then 5 else if chk card ≠ 0 then 17 else if amt < 1 ∨ 999999999999 < amt then 4 else 0
def newD (lm : List Lim) (L : List Dec) (at_ : Int) (key iss card : List UInt8) (amt : Int) : Dec := ⟨key, iss, card, amt, at_, dayD at_, permD lm L iss card amt (dayD at_), false, permD lm L iss card amt (dayD at_)⟩
def decX (lm : List Lim) (L : List Dec) (at_ : Int) (key iss card : List UInt8) (amt : Int) : (Bool × Int) × List Dec :=
  if decE at_ key card amt ≠ 0 then ((false, decE at_ key card amt), L) else match posD key L with
  | some i => (match L[i]? with | some d => ((d.app, 0), L) | none => ((false, 0), L))
  | none => if 256 ≤ L.length then ((false, 12), L) else ((permD lm L iss card amt (dayD at_), 0), L ++ [newD lm L at_ key iss card amt])
theorem decX_err {lm : List Lim} {L : List Dec} {at_ : Int} {key iss card : List UInt8} {amt k : Int} (h : decE at_ key card amt = k) (hk : k ≠ 0) : decX lm L at_ key iss card amt = ((false, k), L) := by
  unfold decX; rw [h, if_pos hk]
theorem decide_h (E : AH) (sb : Nat) (lm : List Lim) (D : List (Nat × Dec)) (hE : StP E sb lm D) (at_ : Int) (key iss card : List UInt8) (amt : Int) (hc : card.length ≤ 100000) : CallA Try.prog 12 #[.pointer (some ⟨sb, 0, none⟩), .int .i64 at_, .string (bs key), .string (bs iss), .string (bs card), .int .i64 amt] E (fun u_ A_ => u_ = .tuple #[.bool (decX lm (D.map Prod.snd) at_ key iss card amt).1.1, .int .i64 (decX lm (D.map Prod.snd) at_ key iss card amt).1.2] ∧ ∃ E' D', StP E' sb lm D' ∧ D'.map Prod.snd = (decX lm (D.map Prod.snd) at_ key iss card amt).2 ∧ SubA E' A_ ∧ ∀ x, Vm.look E x ≠ none → Vm.look A_ x ≠ none) := by
  refine callA_of_denA ⟨Try.prog, 12, Try.f12, 87, [0, 1, 2, 3, 4, 5, 12, 13, 14, 16, 17, 18], [33], [], _⟩ (args := [_, _, _, _, _, _]) Try.func12 rfl (by kernel_rfl) Try.ntmps12 (by simp) (by kernel_rfl) ?_
  intro ν fr; have nuE := fr.nu
  have ck := fun A => panCheck_v card hc A
  have dom0 : ∀ x, Vm.look E x ≠ none → Vm.look E x ≠ none := fun x hx => hx
  by_cases a1 : dayD at_ < 0
  · have e := decX_err (lm := lm) (L := D.map Prod.snd) (iss := iss) (k := 14) (by unfold decE; rw [if_pos a1] : decE at_ key card amt = 14) (by decide)
    simp (maxDischargeDepth := 16) only [argE_nil, argE_cons, ↓vmD, vmV, vmStd, Nat.reduceMul, ↓reduceIte, Nat.reduceAdd, Nat.reduceSub, Nat.reduceEqDiff, Nat.reduceLT, Nat.reduceLeDiff, reduceCtorEq, Int.reduceToNat, Int.reduceLT, Int.reduceLE, Int.reduceEq, Int.reduceNeg, Int.reduceBEq, Int.reduceBNe, String.reduceEq, forall_const, ↓vmDA, vmVA, ↓vmQA, vmR, vmRA, ↓vmSA, vmSV, tyS, nuE, SubA.skip, SubA.refl, fr.2, areDigits_v, panSum_v, rdigits_v, rsum_v, panLuhn_v, rLuhn_v, panCheck_v, rCheck_v, calIsDate_v, calDay_v, stLim_v, dayV, a1, e]
    exact ⟨E, D, hE, rfl, SubA.refl _, dom0⟩
  have b1 : ((key.length : Int) < 1) = (key.length < 1) := propext ⟨fun h => by omega, fun h => by omega⟩
  have b2 : ((40 : Int) < (key.length : Int)) = (40 < key.length) := propext ⟨fun h => by omega, fun h => by omega⟩
  by_cases a2 : key.length < 1 ∨ 40 < key.length
  · have e := decX_err (lm := lm) (L := D.map Prod.snd) (iss := iss) (k := 5) (by unfold decE; rw [if_neg a1, if_pos a2] : decE at_ key card amt = 5) (by decide)
    by_cases a3 : key.length < 1
    · simp (maxDischargeDepth := 16) only [argE_nil, argE_cons, ↓vmD, vmV, vmStd, Nat.reduceMul, ↓reduceIte, Nat.reduceAdd, Nat.reduceSub, Nat.reduceEqDiff, Nat.reduceLT, Nat.reduceLeDiff, reduceCtorEq, Int.reduceToNat, Int.reduceLT, Int.reduceLE, Int.reduceEq, Int.reduceNeg, Int.reduceBEq, Int.reduceBNe, String.reduceEq, forall_const, ↓vmDA, vmVA, ↓vmQA, vmR, vmRA, ↓vmSA, vmSV, tyS, nuE, SubA.skip, SubA.refl, fr.2, areDigits_v, panSum_v, rdigits_v, rsum_v, panLuhn_v, rLuhn_v, panCheck_v, rCheck_v, calIsDate_v, calDay_v, stLim_v, dayV, a1, bs_size, b1, a3, e]
      exact ⟨E, D, hE, rfl, SubA.refl _, dom0⟩
    · have a4 : 40 < key.length := a2.resolve_left a3
      simp (maxDischargeDepth := 16) only [argE_nil, argE_cons, ↓vmD, vmV, vmStd, Nat.reduceMul, ↓reduceIte, Nat.reduceAdd, Nat.reduceSub, Nat.reduceEqDiff, Nat.reduceLT, Nat.reduceLeDiff, reduceCtorEq, Int.reduceToNat, Int.reduceLT, Int.reduceLE, Int.reduceEq, Int.reduceNeg, Int.reduceBEq, Int.reduceBNe, String.reduceEq, forall_const, ↓vmDA, vmVA, ↓vmQA, vmR, vmRA, ↓vmSA, vmSV, tyS, nuE, SubA.skip, SubA.refl, fr.2, areDigits_v, panSum_v, rdigits_v, rsum_v, panLuhn_v, rLuhn_v, panCheck_v, rCheck_v, calIsDate_v, calDay_v, stLim_v, dayV, a1, bs_size, b1, b2, a3, a4, e]
      exact ⟨E, D, hE, rfl, SubA.refl _, dom0⟩
  have a3 : ¬ key.length < 1 := fun h => a2 (.inl h)
  have a4 : ¬ 40 < key.length := fun h => a2 (.inr h)
  by_cases a5 : chk card = 0
  rotate_left
  · have e := decX_err (lm := lm) (L := D.map Prod.snd) (iss := iss) (k := 17) (by unfold decE; rw [if_neg a1, if_neg a2, if_pos a5] : decE at_ key card amt = 17) (by decide)
    have z : decide (chk card = 0) = false := by simpa using a5
    simp (maxDischargeDepth := 16) only [argE_nil, argE_cons, ↓vmD, vmV, vmStd, Nat.reduceMul, ↓reduceIte, Nat.reduceAdd, Nat.reduceSub, Nat.reduceEqDiff, Nat.reduceLT, Nat.reduceLeDiff, reduceCtorEq, Int.reduceToNat, Int.reduceLT, Int.reduceLE, Int.reduceEq, Int.reduceNeg, Int.reduceBEq, Int.reduceBNe, String.reduceEq, forall_const, ↓vmDA, vmVA, ↓vmQA, vmR, vmRA, ↓vmSA, vmSV, tyS, nuE, SubA.skip, SubA.refl, fr.2, areDigits_v, panSum_v, rdigits_v, rsum_v, panLuhn_v, rLuhn_v, panCheck_v, rCheck_v, calIsDate_v, calDay_v, stLim_v, dayV, a1, bs_size, b1, b2, a3, a4, ck, chk_bne, z, e]
    exact ⟨E, D, hE, rfl, SubA.refl _, dom0⟩
  by_cases a6 : amt < 1 ∨ 999999999999 < amt
  · have e := decX_err (lm := lm) (L := D.map Prod.snd) (iss := iss) (k := 4) (by unfold decE; rw [if_neg a1, if_neg a2, if_neg (fun h => h a5), if_pos a6] : decE at_ key card amt = 4) (by decide)
    by_cases a7 : amt < 1
    · simp (maxDischargeDepth := 16) only [argE_nil, argE_cons, ↓vmD, vmV, vmStd, Nat.reduceMul, ↓reduceIte, Nat.reduceAdd, Nat.reduceSub, Nat.reduceEqDiff, Nat.reduceLT, Nat.reduceLeDiff, reduceCtorEq, Int.reduceToNat, Int.reduceLT, Int.reduceLE, Int.reduceEq, Int.reduceNeg, Int.reduceBEq, Int.reduceBNe, String.reduceEq, forall_const, ↓vmDA, vmVA, ↓vmQA, vmR, vmRA, ↓vmSA, vmSV, tyS, nuE, SubA.skip, SubA.refl, fr.2, areDigits_v, panSum_v, rdigits_v, rsum_v, panLuhn_v, rLuhn_v, panCheck_v, rCheck_v, calIsDate_v, calDay_v, stLim_v, dayV, a1, bs_size, b1, b2, a3, a4, ck, chk_bne, a5, decide_true, a7, e]
      exact ⟨E, D, hE, rfl, SubA.refl _, dom0⟩
    · have a8 : 999999999999 < amt := a6.resolve_left a7
      simp (maxDischargeDepth := 16) only [argE_nil, argE_cons, ↓vmD, vmV, vmStd, Nat.reduceMul, ↓reduceIte, Nat.reduceAdd, Nat.reduceSub, Nat.reduceEqDiff, Nat.reduceLT, Nat.reduceLeDiff, reduceCtorEq, Int.reduceToNat, Int.reduceLT, Int.reduceLE, Int.reduceEq, Int.reduceNeg, Int.reduceBEq, Int.reduceBNe, String.reduceEq, forall_const, ↓vmDA, vmVA, ↓vmQA, vmR, vmRA, ↓vmSA, vmSV, tyS, nuE, SubA.skip, SubA.refl, fr.2, areDigits_v, panSum_v, rdigits_v, rsum_v, panLuhn_v, rLuhn_v, panCheck_v, rCheck_v, calIsDate_v, calDay_v, stLim_v, dayV, a1, bs_size, b1, b2, a3, a4, ck, chk_bne, a5, decide_true, a7, a8, e]
      exact ⟨E, D, hE, rfl, SubA.refl _, dom0⟩
  have a7 : ¬ amt < 1 := fun h => a6 (.inl h)
  have a8 : ¬ 999999999999 < amt := fun h => a6 (.inr h)
  have hde : decE at_ key card amt = 0 := by unfold decE; rw [if_neg a1, if_neg a2, if_neg (fun h => h a5), if_neg a6]
  obtain ⟨lr, kr, wr, cap, q, es1, cl1, es2, cl2, es3, cl3, W, lsb, h1, ⟨h2, hm2⟩, h3, hw, hs, hb, hu, hamt, hlen, _⟩ := hE.out
  have lk := rdA_lookup (s := bs key) (A := E) (ok := true) (es := es2) (cl := cl2) (r := kr) und_k und_s zro82 h2 hm2
  rw [look_mapK] at lk
  rw [List.length_map] at hlen
  cases hp : posD key (D.map Prod.snd) with
  | some i =>
    obtain ⟨b, d, hx, hk, hxs⟩ := key_at hp
    simp only [hp, hx, Option.map_some, Option.getD_some, Option.isSome_some, if_true] at lk
    have e : decX lm (D.map Prod.snd) at_ key iss card amt = ((d.app, 0), D.map Prod.snd) := by unfold decX; rw [if_neg (fun h => h hde)]; simp only [hp, hxs]
    have lb := hb i b d hx
    simp only [decO, decC] at lb
    simp (maxDischargeDepth := 16) only [argE_nil, argE_cons, ↓vmD, vmV, vmStd, Nat.reduceMul, ↓reduceIte, Nat.reduceAdd, Nat.reduceSub, Nat.reduceEqDiff, Nat.reduceLT, Nat.reduceLeDiff, reduceCtorEq, Int.reduceToNat, Int.reduceLT, Int.reduceLE, Int.reduceEq, Int.reduceNeg, Int.reduceBEq, Int.reduceBNe, String.reduceEq, forall_const, ↓vmDA, vmVA, ↓vmQA, vmR, vmRA, ↓vmSA, vmSV, tyS, nuE, SubA.skip, SubA.refl, fr.2, areDigits_v, panSum_v, rdigits_v, rsum_v, panLuhn_v, rLuhn_v, panCheck_v, rCheck_v, calIsDate_v, calDay_v, stLim_v, dayV, a1, bs_size, b1, b2, a3, a4, ck, chk_bne, a5, decide_true, a7, a8, lsb, lk, lb, e]
    exact ⟨E, D, hE, rfl, SubA.refl _, dom0⟩
  | none =>
    simp only [hp, Option.getD_none, Option.isSome_none, if_true] at lk
    by_cases h256 : 256 ≤ D.length
    · have e : decX lm (D.map Prod.snd) at_ key iss card amt = ((false, 12), D.map Prod.snd) := by unfold decX; rw [if_neg (fun h => h hde)]; simp only [hp]; rw [if_pos (by rw [List.length_map]; exact h256)]
      have q256 : ((256 : Int) ≤ (D.length : Int)) = True := eq_true (by omega)
      simp (maxDischargeDepth := 16) only [argE_nil, argE_cons, ↓vmD, vmV, vmStd, Nat.reduceMul, ↓reduceIte, Nat.reduceAdd, Nat.reduceSub, Nat.reduceEqDiff, Nat.reduceLT, Nat.reduceLeDiff, reduceCtorEq, Int.reduceToNat, Int.reduceLT, Int.reduceLE, Int.reduceEq, Int.reduceNeg, Int.reduceBEq, Int.reduceBNe, String.reduceEq, forall_const, ↓vmDA, vmVA, ↓vmQA, vmR, vmRA, ↓vmSA, vmSV, tyS, nuE, SubA.skip, SubA.refl, fr.2, areDigits_v, panSum_v, rdigits_v, rsum_v, panLuhn_v, rLuhn_v, panCheck_v, rCheck_v, calIsDate_v, calDay_v, stLim_v, dayV, a1, bs_size, b1, b2, a3, a4, ck, chk_bne, a5, decide_true, a7, a8, lsb, lk, q256, e]
      exact ⟨E, D, hE, rfl, SubA.refl _, dom0⟩
    have q256 : ((256 : Int) ≤ (D.length : Int)) = False := eq_false (by omega)
    have e : decX lm (D.map Prod.snd) at_ key iss card amt = ((permD lm (D.map Prod.snd) iss card amt (dayD at_), 0), D.map Prod.snd ++ [newD lm (D.map Prod.snd) at_ key iss card amt]) := by unfold decX; rw [if_neg (fun h => h hde)]; simp only [hp]; rw [if_neg (by rw [List.length_map]; exact h256)]
    have f0 := fr.2 0
    have ham : 1 ≤ amt ∧ amt ≤ 999999999999 := by omega
    have pv : valA Try.prog 32 #[.pointer (some ⟨sb, 0, none⟩), .pointer (some ⟨ν 0, 0, none⟩)] ((ν 0, (Obj.cells #[.string (bs key), .string (bs iss), .string (bs card), .int .i64 amt, .int .i64 at_, .int .i64 (dayD at_), .bool false, .bool false] 85)) :: E) = some (.bool (permD lm (D.map Prod.snd) iss card amt (dayD at_))) := permits_v E sb lm D hE (ν 0) ⟨key, iss, card, amt, at_, dayD at_, false, false, false⟩ f0 ham
    simp (maxDischargeDepth := 16) only [argE_nil, argE_cons, ↓vmD, vmV, vmStd, Nat.reduceMul, ↓reduceIte, Nat.reduceAdd, Nat.reduceSub, Nat.reduceEqDiff, Nat.reduceLT, Nat.reduceLeDiff, reduceCtorEq, Int.reduceToNat, Int.reduceLT, Int.reduceLE, Int.reduceEq, Int.reduceNeg, Int.reduceBEq, Int.reduceBNe, String.reduceEq, forall_const, ↓vmDA, vmVA, ↓vmQA, vmR, vmRA, ↓vmSA, vmSV, tyS, nuE, SubA.skip, SubA.refl, fr.2, areDigits_v, panSum_v, rdigits_v, rsum_v, panLuhn_v, rLuhn_v, panCheck_v, rCheck_v, calIsDate_v, calDay_v, stLim_v, dayV, a1, bs_size, b1, b2, a3, a4, ck, chk_bne, a5, decide_true, a7, a8, lsb, lk, q256, pv]
    refine CallA.keep0 (remember_h E sb lm D hE (ν 0) (newD lm (D.map Prod.snd) at_ key iss card amt) f0 hp (by omega) ham rfl rfl) (SubA.refl _) (fun v D h => h.2.choose_spec.2.2) ?_
    rintro v D1 ⟨rfl, E', hE', hs', hd'⟩
    have lnew : Vm.look D1 (ν 0) = some (Obj.cells #[.string (bs key), .string (bs iss), .string (bs card), .int .i64 amt, .int .i64 at_, .int .i64 (dayD at_), .bool (permD lm (D.map Prod.snd) iss card amt (dayD at_)), .bool false] 85) := by
      obtain ⟨_, _, _, _, _, _, _, _, _, _, _, _, _, _, _, _, _, _, hb', _⟩ := hE'.out
      exact hs' _ _ (hb' D.length (ν 0) (newD lm (D.map Prod.snd) at_ key iss card amt) (by simp))
    intro ν1 fr1
    have fr := fr1
    have nuE := fr.nu
    simp (maxDischargeDepth := 16) only [argE_nil, argE_cons, ↓vmD, vmV, vmStd, Nat.reduceMul, ↓reduceIte, Nat.reduceAdd, Nat.reduceSub, Nat.reduceEqDiff, Nat.reduceLT, Nat.reduceLeDiff, reduceCtorEq, Int.reduceToNat, Int.reduceLT, Int.reduceLE, Int.reduceEq, Int.reduceNeg, Int.reduceBEq, Int.reduceBNe, String.reduceEq, forall_const, ↓vmDA, vmVA, ↓vmQA, vmR, vmRA, ↓vmSA, vmSV, tyS, nuE, SubA.skip, SubA.refl, fr.2, areDigits_v, panSum_v, rdigits_v, rsum_v, panLuhn_v, rLuhn_v, panCheck_v, rCheck_v, calIsDate_v, calDay_v, stLim_v, lnew, e]
    exact ⟨E', _, hE', by rw [List.map_append]; rfl, hs', fun x hx => hd' x (by
      simp only [Vm.look]
      split
      · simp
      · exact hx)⟩

end Go.Proofs.Ytmjkjpjjckcihaa
