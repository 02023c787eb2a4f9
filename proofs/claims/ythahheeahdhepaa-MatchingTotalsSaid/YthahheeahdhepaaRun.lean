/-
Matching: Run.
Conditions: none.
-/
import Derived.Test.YthahheeahdhepaaPro
namespace Go.Proofs.Ythahheeahdhepaa
open Go.Vm
set_option linter.unusedSimpArgs false
set_option linter.unusedVariables false
set_option maxHeartbeats 2000000
set_option maxRecDepth 20000
def runL (tb tf : Int) : List Au → List Rc → List Au
  | L, [] => L
  | L, r :: rs => runL tb tf (procL L r tb tf) rs
structure Rj where
  ix : Int
  id : ByteArray
  co : Int
def Rj.cells (x : Rj) : List Value := [.int .i64 x.ix, .string x.id, .int .i64 x.co]
theorem rj_len (x : Rj) : (Rj.cells x).length = 3 := rfl
def rejF (tb tf : Int) : List Rc → Nat → List Au → List Rj
  | [], _, _ => []
  | r :: rs, i, L => if procE L r tb tf = 0 then rejF tb tf rs (i + 1) (procL L r tb tf) else ⟨i, r.rid, procE L r tb tf⟩ :: rejF tb tf rs (i + 1) (procL L r tb tf)
theorem sc_au0 : sliceCells Try.prog 47 0 [] = some (23, #[]) := by kernel_rfl
theorem dis_same {g : Nat} {o o' : Obj} {X : AH} (d : Dis [(g, o)] X) : Dis [(g, o')] X := fun b hb => by
  have := d b hb
  simp only [Vm.look] at this ⊢
  split at this
  · cases this
  · rename_i hx; rw [if_neg hx]
theorem look_same {g x : Nat} {o o' : Obj} {X : AH} (h : Vm.look ((g, o) :: X) x = none) : Vm.look ([(g, o')] ++ X) x = none := by
  simp only [Vm.look, List.cons_append, List.nil_append] at h ⊢
  split at h
  · cases h
  · rename_i hx; rw [if_neg hx]; exact h
theorem cloneA_h (B : AH) (L : List Au) (p : Option Addr) (cap : Nat) (hL : StR Au.cells 10 B p L) (hl : L.length ≤ 1000000) : CallA Try.prog 41 #[.slice p L.length cap] B (fun u_ A_ => ∃ C, OwnL Au.cells 10 23 u_ C L ∧ SubA C A_ ∧ SubA B A_ ∧ Dis C B) := by
  refine callA_of_denA ⟨Try.prog, 41, Try.f41, 8, [0, 2], [], [], _⟩ (args := [_]) Try.func41 rfl (by kernel_rfl) Try.ntmps41 (by simp) (by kernel_rfl) ?_
  intro ν fr; have nuE := fr.nu
  cases p with
  | none =>
    have hn : L = [] := by
      rcases hL with h | ⟨b, off, cs, e, fr, h1, _⟩
      · exact h
      · cases h1
    simp (maxDischargeDepth := 16) only [argE_nil, argE_cons, ↓vmD, vmV, vmStd, Nat.reduceMul, ↓reduceIte, Nat.reduceAdd, Nat.reduceSub, Nat.reduceEqDiff, Nat.reduceLT, Nat.reduceLeDiff, reduceCtorEq, Int.reduceToNat, Int.reduceLT, Int.reduceLE, Int.reduceEq, Int.reduceNeg, Int.reduceBEq, Int.reduceBNe, String.reduceEq, forall_const, ↓vmDA, vmVA, ↓vmQA, vmR, vmRA, ↓vmSA, vmSV, tyS, nuE, SubA.skip, SubA.refl, fr.2, slIndexByte_v, indexByte_v, indexRune_v, containsRune_v, classOf_v, isWordByte_v, letter_v, digit_v, wordAt_v, rword_v, isName_v, risName_v, recId_v, authId_v, rId13_v, rId27_v, moneyCur_v, authCur_v, rCur27_v, rCur01_v, isPart_v, authCheck_v, inTotal_v, rwithin1_v, exCard_v, recCheck_v, rrecCheck_v, within27_v, rauthCheck_v, fundsA_v, settledA_v, state27A_v, authOpen_v, rauthOpen_v, authUsable_v, rauthUsable_v, authClear_v, rauthClear_v, tolValid_v, rtolValid_v, allowed_v, rallowed_v, checkPres_v, rable_v, apply_v, rapply_v, present_v, awake_v, short35_v, short32_v, applies_v, Option.isNone_none]
    exact ⟨[], by rw [hn]; exact OwnL.nilp _ _ _ _, SubA.nil _, Dis.nil _⟩
  | some pa =>
    simp (maxDischargeDepth := 16) only [argE_nil, argE_cons, ↓vmD, vmV, vmStd, Nat.reduceMul, ↓reduceIte, Nat.reduceAdd, Nat.reduceSub, Nat.reduceEqDiff, Nat.reduceLT, Nat.reduceLeDiff, reduceCtorEq, Int.reduceToNat, Int.reduceLT, Int.reduceLE, Int.reduceEq, Int.reduceNeg, Int.reduceBEq, Int.reduceBNe, String.reduceEq, forall_const, ↓vmDA, vmVA, ↓vmQA, vmR, vmRA, ↓vmSA, vmSV, tyS, nuE, SubA.skip, SubA.refl, fr.2, slIndexByte_v, indexByte_v, indexRune_v, containsRune_v, classOf_v, isWordByte_v, letter_v, digit_v, wordAt_v, rword_v, isName_v, risName_v, recId_v, authId_v, rId13_v, rId27_v, moneyCur_v, authCur_v, rCur27_v, rCur01_v, isPart_v, authCheck_v, inTotal_v, rwithin1_v, exCard_v, recCheck_v, rrecCheck_v, within27_v, rauthCheck_v, fundsA_v, settledA_v, state27A_v, authOpen_v, rauthOpen_v, authUsable_v, rauthUsable_v, authClear_v, rauthClear_v, tolValid_v, rtolValid_v, allowed_v, rallowed_v, checkPres_v, rable_v, apply_v, rapply_v, present_v, awake_v, short35_v, short32_v, applies_v, Option.isNone_some, sc_au0]
    refine append_src (news := L.flatMap Au.cells) slc47 zro23 rfl (by decide) (OwnL.at0 Au.cells 10 23 (ν 0)) (SubE.sub ⟨by simp [Vm.look], trivial⟩) (hL.mono (SubA.skip (fr.2 0) (SubA.refl _))).src ?_ (by simp [maxLen]; omega) (by simp; omega) ?_
    · intro u hu
      obtain ⟨a, _, ha⟩ := List.mem_flatMap.1 hu
      simp only [Au.cells, List.mem_cons, List.mem_nil_iff, or_false] at ha
      rcases ha with rfl | rfl | rfl | rfl | rfl | rfl | rfl | rfl | rfl | rfl <;> rfl
    · intro v' C ho hb
      have dC : Dis C B := ap_dis hb (Dis.one (fr.2 0)) (SubA.skip (fr.2 0) (SubA.refl _))
      intro ν' fr'
      have fr0 := fr
      have fr := fr'
      simp (maxDischargeDepth := 16) only [argE_nil, argE_cons, ↓vmD, vmV, vmStd, Nat.reduceMul, ↓reduceIte, Nat.reduceAdd, Nat.reduceSub, Nat.reduceEqDiff, Nat.reduceLT, Nat.reduceLeDiff, reduceCtorEq, Int.reduceToNat, Int.reduceLT, Int.reduceLE, Int.reduceEq, Int.reduceNeg, Int.reduceBEq, Int.reduceBNe, String.reduceEq, forall_const, ↓vmDA, vmVA, ↓vmQA, vmR, vmRA, ↓vmSA, vmSV, tyS, nuE, slIndexByte_v, indexByte_v, indexRune_v, containsRune_v, classOf_v, isWordByte_v, letter_v, digit_v, wordAt_v, rword_v, isName_v, risName_v, recId_v, authId_v, rId13_v, rId27_v, moneyCur_v, authCur_v, rCur27_v, rCur01_v, isPart_v, authCheck_v, inTotal_v, rwithin1_v, exCard_v, recCheck_v, rrecCheck_v, within27_v, rauthCheck_v, fundsA_v, settledA_v, state27A_v, authOpen_v, rauthOpen_v, authUsable_v, rauthUsable_v, authClear_v, rauthClear_v, tolValid_v, rtolValid_v, allowed_v, rallowed_v, checkPres_v, rable_v, apply_v, rapply_v, present_v, awake_v, short35_v, short32_v, applies_v]
      exact ⟨C, by simpa [OwnL] using ho, SubA.left _ _, dC.sub (SubA.skip (fr0.2 0) (SubA.refl _)), dC⟩

theorem sc_rj (a b c : Value) : sliceCells Try.prog 55 1 [(0, .agg #[a, b, c])] = some (61, #[a, b, c]) := by kernel_rfl
theorem runA_h (A : AH) (L : List Au) (p : Option Addr) (cap : Nat) (rs : List Rc) (q : Option Addr) (cq : Nat) (hL : StR Au.cells 10 A p L) (hR : StR Rc.cells 12 A q rs) (hl : L.length ≤ 1000000) (hrl : rs.length ≤ 1000000) (tb tf : Int) (hz : szL L) (hs : ∀ r ∈ rs, szR r) : CallA Try.prog 19 #[.slice p L.length cap, .slice q rs.length cq, .agg #[.int .i64 tb, .int .i64 tf]] A (fun u_ A_ => ∃ va vr B C, u_ = .tuple #[va, vr] ∧ OwnL Au.cells 10 23 va B (runL tb tf L rs) ∧ OwnL Rj.cells 3 61 vr C (rejF tb tf rs 0 L) ∧ SubA B A_ ∧ SubA C A_ ∧ SubA A A_) := by
  refine callA_of_denA ⟨Try.prog, 19, Try.f19, 39, [0, 1, 2, 5, 6, 7, 8, 9, 10, 11, 12, 15, 16, 17], [41, 42], [], _⟩ (args := [_, _, _]) Try.func19 rfl (by kernel_rfl) Try.ntmps19 (by simp) (by kernel_rfl) ?_
  intro ν fr; have nuE := fr.nu
  simp (maxDischargeDepth := 16) only [argE_nil, argE_cons, ↓vmD, vmV, vmStd, Nat.reduceMul, ↓reduceIte, Nat.reduceAdd, Nat.reduceSub, Nat.reduceEqDiff, Nat.reduceLT, Nat.reduceLeDiff, reduceCtorEq, Int.reduceToNat, Int.reduceLT, Int.reduceLE, Int.reduceEq, Int.reduceNeg, Int.reduceBEq, Int.reduceBNe, String.reduceEq, forall_const, ↓vmDA, vmVA, ↓vmQA, vmR, vmRA, ↓vmSA, vmSV, tyS, nuE, slIndexByte_v, indexByte_v, indexRune_v, containsRune_v, classOf_v, isWordByte_v, letter_v, digit_v, wordAt_v, rword_v, isName_v, risName_v, recId_v, authId_v, rId13_v, rId27_v, moneyCur_v, authCur_v, rCur27_v, rCur01_v, isPart_v, authCheck_v, inTotal_v, rwithin1_v, exCard_v, recCheck_v, rrecCheck_v, within27_v, rauthCheck_v, fundsA_v, settledA_v, state27A_v, authOpen_v, rauthOpen_v, authUsable_v, rauthUsable_v, authClear_v, rauthClear_v, tolValid_v, rtolValid_v, allowed_v, rallowed_v, checkPres_v, rable_v, apply_v, rapply_v, present_v, awake_v, short35_v, short32_v, applies_v]
  refine CallA.frame (cloneA_h A L p cap hL hl) (SubA.skip (fr.2 0) (SubA.refl _)) ?_
  rintro v D ⟨B, ho, hB, hA, dB⟩
  refine ⟨fun x hx => ?_, fun hx => ?_⟩
  · cases hl0 : Vm.look A x with
    | none => exact absurd hl0 hx
    | some o => rw [hA x o hl0]; simp
  intro ν' fr'
  have nuE0 := nuE
  have fr0 := fr
  have fr := fr'
  have nuE := fr.nu
  simp (maxDischargeDepth := 16) only [argE_nil, argE_cons, ↓vmD, vmV, vmStd, Nat.reduceMul, ↓reduceIte, Nat.reduceAdd, Nat.reduceSub, Nat.reduceEqDiff, Nat.reduceLT, Nat.reduceLeDiff, reduceCtorEq, Int.reduceToNat, Int.reduceLT, Int.reduceLE, Int.reduceEq, Int.reduceNeg, Int.reduceBEq, Int.reduceBNe, String.reduceEq, forall_const, ↓vmDA, vmVA, ↓vmQA, vmR, vmRA, ↓vmSA, vmSV, tyS, nuE, slIndexByte_v, indexByte_v, indexRune_v, containsRune_v, classOf_v, isWordByte_v, letter_v, digit_v, wordAt_v, rword_v, isName_v, risName_v, recId_v, authId_v, rId13_v, rId27_v, moneyCur_v, authCur_v, rCur27_v, rCur01_v, isPart_v, authCheck_v, inTotal_v, rwithin1_v, exCard_v, recCheck_v, rrecCheck_v, within27_v, rauthCheck_v, fundsA_v, settledA_v, state27A_v, authOpen_v, rauthOpen_v, authUsable_v, rauthUsable_v, authClear_v, rauthClear_v, tolValid_v, rtolValid_v, allowed_v, rallowed_v, checkPres_v, rable_v, apply_v, rapply_v, present_v, awake_v, short35_v, short32_v, applies_v]
  have f0 := fr0.2 0
  have dB1 : Dis D ((ν 0, .cells #[.int .i64 tb, .int .i64 tf] 29) :: A) ∨ True := .inr trivial
  have hxB : Dis B ((ν 0, .cells #[.int .i64 tb, .int .i64 tf] 29) :: A) := fun x hx1 => by
    cases hb0 : Vm.look B x with
    | none => rfl
    | some o =>
      have hD := hB x o hb0
      have hA0 := dB.symm x (by rw [hb0]; simp)
      exact absurd (hx x (by rw [hD]; simp) hA0) hx1
  have hDA : SubA ((ν 0, .cells #[.int .i64 tb, .int .i64 tf] 29) :: A) (D ++ (ν 0, .cells #[.int .i64 tb, .int .i64 tf] 29) :: A) := fun b o h => by
    rw [look_append]
    cases hd : Vm.look D b with
    | none => exact h
    | some u =>
      by_cases ha0 : Vm.look A b = none
      · have := hx b (by rw [hd]; simp) ha0
        rw [h] at this; cases this
      · cases ha1 : Vm.look A b with
        | none => exact absurd ha1 ha0
        | some w =>
          have e1 := hA b w ha1
          rw [hd] at e1
          have e2 := SubA.skip (o := .cells #[.int .i64 tb, .int .i64 tf] 29) f0 (SubA.refl _) b w ha1
          rw [h] at e2
          rw [e1, e2]
  generalize hn0 : ν 0 = n0 at f0 hxB hDA ⊢
  obtain ⟨A1, hA1⟩ : ∃ A1, A1 = (n0, .cells #[.int .i64 tb, .int .i64 tf] 29) :: A := ⟨_, rfl⟩
  rw [← hA1] at hxB
  have hAA : SubA A A1 := by rw [hA1]; exact SubA.skip f0 (SubA.refl _)
  have ht : Vm.look A1 n0 = some (.cells #[.int .i64 tb, .int .i64 tf] 29) := by rw [hA1]; simp [Vm.look]
  obtain ⟨e, l, vr, C, L1, dn, he, hv, hC, hL1, h2, h2a, hoC, hBC, hCA, hd, h3, hl1, hz1⟩ : ∃ (e : Nat) (l : List Rc) (vr : Value) (C : AH) (L1 : List Au) (dn : List Rj), e = 0 ∧ vr = .slice none 0 0 ∧ C = [] ∧ L1 = L ∧ rejF tb tf rs 0 L = dn ++ rejF tb tf l e L1 ∧ runL tb tf L rs = runL tb tf L1 l ∧ OwnL Rj.cells 3 61 vr C dn ∧ Dis C B ∧ Dis C A1 ∧ dn.length ≤ e ∧ l = rs.drop e ∧ L1.length ≤ 1000000 ∧ szL L1 := ⟨0, rs, _, [], L, [], rfl, rfl, rfl, rfl, rfl, rfl, OwnL.nil _ _ _, Dis.nil _, Dis.nil _, by simp, by simp, hl, hz⟩
  rw [show (17, some (Value.int .i64 0)) = (17, some (Value.int .i64 (e : Int))) by rw [he]; rfl]
  rw [show (9, some (Value.slice none 0 0)) = (9, some vr) by rw [hv]]
  rw [← hL1] at ho
  refine LoopA.at (A := C ++ (B ++ A1)) (by rw [hC]; exact SubA.both (SubA.nil _) (SubA.both (fun b o h => SubA.left _ _ b o (hB b o h)) (by rw [hA1]; exact hDA))) ?_
  clear he hv hC hL1 nuE nuE0 fr fr0 fr' hx hB hA hDA D dB1 hn0 dB hA1
  induction l generalizing e vr C B L1 dn with
  | nil =>
    have hle := drop_nil h3
    have hlt : ((e : Int) < (rs.length : Int)) = False := by simp; omega
    refine LoopA.intro (by kernel_rfl) ?_
    intro ν fr; have nuE := fr.nu
    simp (maxDischargeDepth := 16) only [argE_nil, argE_cons, ↓vmD, vmV, vmStd, Nat.reduceMul, ↓reduceIte, Nat.reduceAdd, Nat.reduceSub, Nat.reduceEqDiff, Nat.reduceLT, Nat.reduceLeDiff, reduceCtorEq, Int.reduceToNat, Int.reduceLT, Int.reduceLE, Int.reduceEq, Int.reduceNeg, Int.reduceBEq, Int.reduceBNe, String.reduceEq, forall_const, ↓vmDA, vmVA, ↓vmQA, vmR, vmRA, ↓vmSA, vmSV, tyS, nuE, SubA.skip, SubA.refl, fr.2, slIndexByte_v, indexByte_v, indexRune_v, containsRune_v, classOf_v, isWordByte_v, letter_v, digit_v, wordAt_v, rword_v, isName_v, risName_v, recId_v, authId_v, rId13_v, rId27_v, moneyCur_v, authCur_v, rCur27_v, rCur01_v, isPart_v, authCheck_v, inTotal_v, rwithin1_v, exCard_v, recCheck_v, rrecCheck_v, within27_v, rauthCheck_v, fundsA_v, settledA_v, state27A_v, authOpen_v, rauthOpen_v, authUsable_v, rauthUsable_v, authClear_v, rauthClear_v, tolValid_v, rtolValid_v, allowed_v, rallowed_v, checkPres_v, rable_v, apply_v, rapply_v, present_v, awake_v, short35_v, short32_v, applies_v, hlt]
    refine ⟨_, _, B, C, rfl, by rw [h2a]; exact ho, by rw [h2]; simpa [rejF] using hoC, hBC.sub (SubA.left _ _), SubA.left _ _, fun b o h => hCA.sub (hxB.sub (SubA.refl _)) b o (hAA b o h)⟩
  | cons r l ih =>
    obtain ⟨hr, hl2, h3'⟩ := drop_some h3
    have hlt : ((e : Int) < (rs.length : Int)) = True := by simp; omega
    have we : IntKind.i64.wrap ((e : Int) + 1) = ((e + 1 : Nat) : Int) := by rw [w_i64 (by omega) (by omega)]; omega
    obtain ⟨b, off, cs, ty, fr1, hp0, hb, hc, hc2⟩ := hR.at hr
    subst hp0
    have sB : SubA B (C ++ (B ++ A1)) := hBC.sub (SubA.left _ _)
    have sC : SubA C (C ++ (B ++ A1)) := SubA.left _ _
    have sA : SubA A1 (C ++ (B ++ A1)) := hCA.sub hxB.right
    have hb2 := sA _ _ (hAA _ _ hb)
    have ht2 := sA _ _ ht
    refine LoopA.intro (by kernel_rfl) ?_
    intro ν fr; have nuE := fr.nu
    have k0 := look_ne (fr.2 0) hb2
    have k1 := look_ne (fr.2 0) ht2
    have pc := processC_h B v L1 ho hl1 r tb tf hz1 (hs r (List.mem_of_getElem? hr))
    simp (maxDischargeDepth := 16) only [argE_nil, argE_cons, ↓vmD, vmV, vmStd, Nat.reduceMul, ↓reduceIte, Nat.reduceAdd, Nat.reduceSub, Nat.reduceEqDiff, Nat.reduceLT, Nat.reduceLeDiff, reduceCtorEq, Int.reduceToNat, Int.reduceLT, Int.reduceLE, Int.reduceEq, Int.reduceNeg, Int.reduceBEq, Int.reduceBNe, String.reduceEq, forall_const, ↓vmDA, vmVA, ↓vmQA, vmR, vmRA, ↓vmSA, vmSV, tyS, nuE, SubA.skip, SubA.refl, fr.2, slIndexByte_v, indexByte_v, indexRune_v, containsRune_v, classOf_v, isWordByte_v, letter_v, digit_v, wordAt_v, rword_v, isName_v, risName_v, recId_v, authId_v, rId13_v, rId27_v, moneyCur_v, authCur_v, rCur27_v, rCur01_v, isPart_v, authCheck_v, inTotal_v, rwithin1_v, exCard_v, recCheck_v, rrecCheck_v, within27_v, rauthCheck_v, fundsA_v, settledA_v, state27A_v, authOpen_v, rauthOpen_v, authUsable_v, rauthUsable_v, authClear_v, rauthClear_v, tolValid_v, rtolValid_v, allowed_v, rallowed_v, checkPres_v, rable_v, apply_v, rapply_v, present_v, awake_v, short35_v, short32_v, applies_v, hlt, hb2, ht2, k0, k1, hc, rc_agg, we]
    refine CallA.frame pc (SubA.skip (sB.none (fr.2 0)) sB) ?_
    rintro u D ⟨rfl, B', ho', hB', hn'⟩
    refine ⟨fun x hx hd => hx ?_, fun hx => ?_⟩
    · rw [← hn' x]
      cases hb' : Vm.look B' x with
      | none => rfl
      | some w => rw [hB' x w hb'] at hd; cases hd
    have hf0 := fr.2 0
    have dD : ∀ X : AH, Dis B X → SubA X (C ++ (B ++ A1)) → Dis D X := fun X h1 h2 => fr_dis hx h1 (SubA.skip (h2.none hf0) h2)
    have dDC := dD C hBC.symm sC
    have dDA := dD A1 hxB sA
    have dBC' : Dis C B' := (hBC.symm.less fun b h => (hn' b).2 h).symm
    have dBA' : Dis B' A1 := hxB.less fun b h => (hn' b).2 h
    have hl0 : ∀ (o : Obj) (X : AH), Vm.look (D ++ (ν 0, o) :: X) (ν 0) = some o := fun o X => by
      rw [look_app]
      · simp [Vm.look]
      · cases hd : Vm.look D (ν 0) with
        | none => rfl
        | some w =>
          have := hx (ν 0) (by rw [hd]; simp) (sB.none hf0)
          simp [Vm.look] at this
    have hlp := procL_len L1 r tb tf
    have hzp := procL_sz (r := r) (tb := tb) (tf := tf) hz1
    intro ν' fr'
    have nuE0 := nuE
    have fr0 := fr
    have fr := fr'
    have nuE := fr.nu
    by_cases hq : procE L1 r tb tf = 0
    · simp (maxDischargeDepth := 16) only [argE_nil, argE_cons, ↓vmD, vmV, vmStd, Nat.reduceMul, ↓reduceIte, Nat.reduceAdd, Nat.reduceSub, Nat.reduceEqDiff, Nat.reduceLT, Nat.reduceLeDiff, reduceCtorEq, Int.reduceToNat, Int.reduceLT, Int.reduceLE, Int.reduceEq, Int.reduceNeg, Int.reduceBEq, Int.reduceBNe, String.reduceEq, forall_const, ↓vmDA, vmVA, ↓vmQA, vmR, vmRA, ↓vmSA, vmSV, tyS, nuE, slIndexByte_v, indexByte_v, indexRune_v, containsRune_v, classOf_v, isWordByte_v, letter_v, digit_v, wordAt_v, rword_v, isName_v, risName_v, recId_v, authId_v, rId13_v, rId27_v, moneyCur_v, authCur_v, rCur27_v, rCur01_v, isPart_v, authCheck_v, inTotal_v, rwithin1_v, exCard_v, recCheck_v, rrecCheck_v, within27_v, rauthCheck_v, fundsA_v, settledA_v, state27A_v, authOpen_v, rauthOpen_v, authUsable_v, rauthUsable_v, authClear_v, rauthClear_v, tolValid_v, rtolValid_v, allowed_v, rallowed_v, checkPres_v, rable_v, apply_v, rapply_v, present_v, awake_v, short35_v, short32_v, applies_v, hq, we]
      exact LoopA.weak (ih B' dBA' (e + 1) vr C (procL L1 r tb tf) ho' dn (by rw [h2]; simp only [rejF, hq, if_true]) (by rw [h2a]; rfl) hoC dBC' hCA (by omega) h3' (by omega) hzp) (by simp only [subE, get_cons, Nat.reduceEqDiff, ↓reduceIte, reduceCtorEq, Nat.reduceAdd, and_self, and_true]) (SubA.both (dDC.sub (SubA.skip (sC.none hf0) sC)) (SubA.both (fun b o h => SubA.left _ _ b o (hB' b o h)) (dDA.sub (SubA.skip (sA.none hf0) sA))))
    · simp (maxDischargeDepth := 16) only [argE_nil, argE_cons, ↓vmD, vmV, vmStd, Nat.reduceMul, ↓reduceIte, Nat.reduceAdd, Nat.reduceSub, Nat.reduceEqDiff, Nat.reduceLT, Nat.reduceLeDiff, reduceCtorEq, Int.reduceToNat, Int.reduceLT, Int.reduceLE, Int.reduceEq, Int.reduceNeg, Int.reduceBEq, Int.reduceBNe, String.reduceEq, forall_const, ↓vmDA, vmVA, ↓vmQA, vmR, vmRA, ↓vmSA, vmSV, tyS, nuE, slIndexByte_v, indexByte_v, indexRune_v, containsRune_v, classOf_v, isWordByte_v, letter_v, digit_v, wordAt_v, rword_v, isName_v, risName_v, recId_v, authId_v, rId13_v, rId27_v, moneyCur_v, authCur_v, rCur27_v, rCur01_v, isPart_v, authCheck_v, inTotal_v, rwithin1_v, exCard_v, recCheck_v, rrecCheck_v, within27_v, rauthCheck_v, fundsA_v, settledA_v, state27A_v, authOpen_v, rauthOpen_v, authUsable_v, rauthUsable_v, authClear_v, rauthClear_v, tolValid_v, rtolValid_v, allowed_v, rallowed_v, checkPres_v, rable_v, apply_v, rapply_v, present_v, awake_v, short35_v, short32_v, applies_v, hq, we, hl0, sc_rj]
      have sC2 := dDC.sub (SubA.skip (o := .cells #[.int .i64 r.kd, .string r.rid, .string r.rau, .string r.aq, .string r.is, .string r.me, .string r.ca, .int .i64 r.am, .string r.rcu, .int .i64 r.da, .int .i64 r.ct, .bool r.fi] 27) (sC.none hf0) sC)
      have sA2 := dDA.sub (SubA.skip (o := .cells #[.int .i64 r.kd, .string r.rid, .string r.rau, .string r.aq, .string r.is, .string r.me, .string r.ca, .int .i64 r.am, .string r.rcu, .int .i64 r.da, .int .i64 r.ct, .bool r.fi] 27) (sA.none hf0) sA)
      have sB2 : SubA B' (D ++ (ν 0, .cells #[.int .i64 r.kd, .string r.rid, .string r.rau, .string r.aq, .string r.is, .string r.me, .string r.ca, .int .i64 r.am, .string r.rcu, .int .i64 r.da, .int .i64 r.ct, .bool r.fi] 27) :: (C ++ (B ++ A1))) := fun b o h => SubA.left _ _ b o (hB' b o h)
      have sC3 := SubA.skip (o := .cells #[.int .i64 (e : Int), .string r.rid, .int .i64 (procE L1 r tb tf)] 61) (sC2.none (fr.2 0)) sC2
      have sA3 := SubA.skip (o := .cells #[.int .i64 (e : Int), .string r.rid, .int .i64 (procE L1 r tb tf)] 61) (sA2.none (fr.2 0)) sA2
      have sB3 := SubA.skip (o := .cells #[.int .i64 (e : Int), .string r.rid, .int .i64 (procE L1 r tb tf)] 61) (sB2.none (fr.2 0)) sB2
      refine append_src (m := 1) (news := [.int .i64 (e : Int), .string r.rid, .int .i64 (procE L1 r tb tf)]) slc55 zro61 rfl (by decide) hoC sC3 (.inr ⟨_, 0, rfl, by simp (maxDischargeDepth := 16) only [argE_nil, argE_cons, ↓vmD, vmV, vmStd, Nat.reduceMul, ↓reduceIte, Nat.reduceAdd, Nat.reduceSub, Nat.reduceEqDiff, Nat.reduceLT, Nat.reduceLeDiff, reduceCtorEq, Int.reduceToNat, Int.reduceLT, Int.reduceLE, Int.reduceEq, Int.reduceNeg, Int.reduceBEq, Int.reduceBNe, String.reduceEq, forall_const, ↓vmDA, vmVA, ↓vmQA, vmR, vmRA, ↓vmSA, vmSV, tyS, nuE, slIndexByte_v, indexByte_v, indexRune_v, containsRune_v, classOf_v, isWordByte_v, letter_v, digit_v, wordAt_v, rword_v, isName_v, risName_v, recId_v, authId_v, rId13_v, rId27_v, moneyCur_v, authCur_v, rCur27_v, rCur01_v, isPart_v, authCheck_v, inTotal_v, rwithin1_v, exCard_v, recCheck_v, rrecCheck_v, within27_v, rauthCheck_v, fundsA_v, settledA_v, state27A_v, authOpen_v, rauthOpen_v, authUsable_v, rauthUsable_v, authClear_v, rauthClear_v, tolValid_v, rtolValid_v, allowed_v, rallowed_v, checkPres_v, rable_v, apply_v, rapply_v, present_v, awake_v, short35_v, short32_v, applies_v]⟩) (by simp [Value.oneCell']) (by simp [maxLen]; omega) (by omega) ?_
      intro v' C' hoC' hb'
      have dCB' : Dis C' B' := ap_dis hb' dBC' sB3
      have dCA' : Dis C' A1 := ap_dis hb' hCA sA3
      intro ν2 fr2
      have fr := fr2
      have nuE := fr.nu
      simp (maxDischargeDepth := 16) only [argE_nil, argE_cons, ↓vmD, vmV, vmStd, Nat.reduceMul, ↓reduceIte, Nat.reduceAdd, Nat.reduceSub, Nat.reduceEqDiff, Nat.reduceLT, Nat.reduceLeDiff, reduceCtorEq, Int.reduceToNat, Int.reduceLT, Int.reduceLE, Int.reduceEq, Int.reduceNeg, Int.reduceBEq, Int.reduceBNe, String.reduceEq, forall_const, ↓vmDA, vmVA, ↓vmQA, vmR, vmRA, ↓vmSA, vmSV, tyS, nuE, slIndexByte_v, indexByte_v, indexRune_v, containsRune_v, classOf_v, isWordByte_v, letter_v, digit_v, wordAt_v, rword_v, isName_v, risName_v, recId_v, authId_v, rId13_v, rId27_v, moneyCur_v, authCur_v, rCur27_v, rCur01_v, isPart_v, authCheck_v, inTotal_v, rwithin1_v, exCard_v, recCheck_v, rrecCheck_v, within27_v, rauthCheck_v, fundsA_v, settledA_v, state27A_v, authOpen_v, rauthOpen_v, authUsable_v, rauthUsable_v, authClear_v, rauthClear_v, tolValid_v, rtolValid_v, allowed_v, rallowed_v, checkPres_v, rable_v, apply_v, rapply_v, present_v, awake_v, short35_v, short32_v, applies_v, we]
      exact LoopA.weak (ih B' dBA' (e + 1) v' C' (procL L1 r tb tf) ho' (dn ++ [⟨e, r.rid, procE L1 r tb tf⟩]) (by rw [h2]; simp only [rejF, hq, if_false, List.append_assoc, List.cons_append, List.nil_append]) (by rw [h2a]; rfl) (by simpa [OwnL, Rj.cells] using hoC') dCB' dCA' (by simp; omega) h3' (by omega) hzp) (by simp only [subE, get_cons, Nat.reduceEqDiff, ↓reduceIte, reduceCtorEq, Nat.reduceAdd, and_self, and_true]) (SubA.both (SubA.left _ _) (SubA.both (dCB'.sub sB3) (dCA'.sub sA3)))

theorem rrunA_h (A : AH) (L : List Au) (p : Option Addr) (cap : Nat) (rs : List Rc) (q : Option Addr) (cq : Nat) (hL : StR Au.cells 10 A p L) (hR : StR Rc.cells 12 A q rs) (hl : L.length ≤ 1000000) (hrl : rs.length ≤ 1000000) (tb tf : Int) (hz : szL L) (hs : ∀ r ∈ rs, szR r) : CallA Try.prog 20 #[.slice p L.length cap, .slice q rs.length cq, .agg #[.int .i64 tb, .int .i64 tf]] A (fun u_ A_ => ∃ va vr B C, u_ = .tuple #[va, vr] ∧ OwnL Au.cells 10 23 va B (runL tb tf L rs) ∧ OwnL Rj.cells 3 61 vr C (rejF tb tf rs 0 L) ∧ SubA B A_ ∧ SubA C A_ ∧ SubA A A_) := by
  refine callA_of_denA ⟨Try.prog, 20, Try.f20, 86, [0, 1, 2, 5, 6, 7, 8, 9, 10, 11, 12, 13, 14], [], [(8, .q false), (11, .p [(0, 0), (1, 0), (2, 0), (3, 0), (4, 0), (5, 0), (6, 0), (7, 0), (8, 0), (9, 0), (10, 0), (11, 0), (12, 0), (13, 1), (14, 2), (15, 0)])], _⟩ (args := [_, _, _]) Try.func20 rfl (by kernel_rfl) Try.ntmps20 (by simp) (by kernel_rfl) ?_
  intro ν fr; have nuE := fr.nu
  simp (maxDischargeDepth := 16) only [argE_nil, argE_cons, ↓vmD, vmV, vmStd, Nat.reduceMul, ↓reduceIte, Nat.reduceAdd, Nat.reduceSub, Nat.reduceEqDiff, Nat.reduceLT, Nat.reduceLeDiff, reduceCtorEq, Int.reduceToNat, Int.reduceLT, Int.reduceLE, Int.reduceEq, Int.reduceNeg, Int.reduceBEq, Int.reduceBNe, String.reduceEq, forall_const, ↓vmDA, vmVA, ↓vmQA, vmR, vmRA, ↓vmSA, vmSV, tyS, nuE, SubA.skip, SubA.refl, fr.2, slIndexByte_v, indexByte_v, indexRune_v, containsRune_v, classOf_v, isWordByte_v, letter_v, digit_v, wordAt_v, rword_v, isName_v, risName_v, recId_v, authId_v, rId13_v, rId27_v, moneyCur_v, authCur_v, rCur27_v, rCur01_v, isPart_v, authCheck_v, inTotal_v, rwithin1_v, exCard_v, recCheck_v, rrecCheck_v, within27_v, rauthCheck_v, fundsA_v, settledA_v, state27A_v, authOpen_v, rauthOpen_v, authUsable_v, rauthUsable_v, authClear_v, rauthClear_v, tolValid_v, rtolValid_v, allowed_v, rallowed_v, checkPres_v, rable_v, apply_v, rapply_v, present_v, awake_v, short35_v, short32_v, applies_v, sc_au0]
  have sA0 : SubA A ((ν 1, .cells #[] 23) :: (ν 0, .cells #[.int .i64 tb, .int .i64 tf] 37) :: A) := SubA.skip (fr.2 1) (SubA.skip (fr.2 0) (SubA.refl _))
  refine append_src (news := L.flatMap Au.cells) slc47 zro23 rfl (by decide) (OwnL.at0 Au.cells 10 23 (ν 1)) (SubE.sub ⟨by simp [Vm.look], trivial⟩) (hL.mono sA0).src ?_ (by simp [maxLen]; omega) (by simp; omega) ?_
  · intro u hu
    obtain ⟨a, _, ha⟩ := List.mem_flatMap.1 hu
    simp only [Au.cells, List.mem_cons, List.mem_nil_iff, or_false] at ha
    rcases ha with rfl | rfl | rfl | rfl | rfl | rfl | rfl | rfl | rfl | rfl <;> rfl
  intro v B ho0 hb
  have ho : OwnL Au.cells 10 23 v B L := by simpa [OwnL] using ho0
  clear ho0
  have f0 := fr.2 0
  have f1 := fr.2 1
  have hxB : Dis B ((ν 0, .cells #[.int .i64 tb, .int .i64 tf] 37) :: A) := ap_dis hb (Dis.one (by simp only [Vm.look]; rw [if_neg (by simp [nuE]), f1])) (SubA.skip (by simp only [Vm.look]; rw [if_neg (by simp [nuE]), f1]) (SubA.refl _))
  have hDA : SubA ((ν 0, .cells #[.int .i64 tb, .int .i64 tf] 37) :: A) (B ++ (ν 1, .cells #[] 23) :: (ν 0, .cells #[.int .i64 tb, .int .i64 tf] 37) :: A) := hxB.sub (SubA.skip (by simp only [Vm.look]; rw [if_neg (by simp [nuE]), f1]) (SubA.refl _))
  intro ν' fr'
  have nuE0 := nuE
  have fr0 := fr
  have fr := fr'
  have nuE := fr.nu
  simp (maxDischargeDepth := 16) only [argE_nil, argE_cons, ↓vmD, vmV, vmStd, Nat.reduceMul, ↓reduceIte, Nat.reduceAdd, Nat.reduceSub, Nat.reduceEqDiff, Nat.reduceLT, Nat.reduceLeDiff, reduceCtorEq, Int.reduceToNat, Int.reduceLT, Int.reduceLE, Int.reduceEq, Int.reduceNeg, Int.reduceBEq, Int.reduceBNe, String.reduceEq, forall_const, ↓vmDA, vmVA, ↓vmQA, vmR, vmRA, ↓vmSA, vmSV, tyS, nuE, slIndexByte_v, indexByte_v, indexRune_v, containsRune_v, classOf_v, isWordByte_v, letter_v, digit_v, wordAt_v, rword_v, isName_v, risName_v, recId_v, authId_v, rId13_v, rId27_v, moneyCur_v, authCur_v, rCur27_v, rCur01_v, isPart_v, authCheck_v, inTotal_v, rwithin1_v, exCard_v, recCheck_v, rrecCheck_v, within27_v, rauthCheck_v, fundsA_v, settledA_v, state27A_v, authOpen_v, rauthOpen_v, authUsable_v, rauthUsable_v, authClear_v, rauthClear_v, tolValid_v, rtolValid_v, allowed_v, rallowed_v, checkPres_v, rable_v, apply_v, rapply_v, present_v, awake_v, short35_v, short32_v, applies_v]
  generalize hn0 : ν 0 = n0 at f0 hxB hDA ⊢
  obtain ⟨A1, hA1⟩ : ∃ A1, A1 = (n0, .cells #[.int .i64 tb, .int .i64 tf] 37) :: A := ⟨_, rfl⟩
  rw [← hA1] at hxB
  have hAA : SubA A A1 := by rw [hA1]; exact SubA.skip f0 (SubA.refl _)
  have ht : Vm.look A1 n0 = some (.cells #[.int .i64 tb, .int .i64 tf] 37) := by rw [hA1]; simp [Vm.look]
  obtain ⟨e, l, vr, C, L1, dn, he, hv, hC, hL1, h2, h2a, hoC, hBC, hCA, hd, h3, hl1, hz1⟩ : ∃ (e : Nat) (l : List Rc) (vr : Value) (C : AH) (L1 : List Au) (dn : List Rj), e = 0 ∧ vr = .slice none 0 0 ∧ C = [] ∧ L1 = L ∧ rejF tb tf rs 0 L = dn ++ rejF tb tf l e L1 ∧ runL tb tf L rs = runL tb tf L1 l ∧ OwnL Rj.cells 3 61 vr C dn ∧ Dis C B ∧ Dis C A1 ∧ dn.length ≤ e ∧ l = rs.drop e ∧ L1.length ≤ 1000000 ∧ szL L1 := ⟨0, rs, _, [], L, [], rfl, rfl, rfl, rfl, rfl, rfl, OwnL.nil _ _ _, Dis.nil _, Dis.nil _, by simp, by simp, hl, hz⟩
  rw [show (10, some (Value.int .i64 0)) = (10, some (Value.int .i64 (e : Int))) by rw [he]; rfl]
  rw [show (9, some (Value.slice none 0 0)) = (9, some vr) by rw [hv]]
  rw [← hL1] at ho
  refine LoopA.at (A := B ++ (C ++ A1)) (by rw [hC, List.nil_append]; exact SubA.both (SubA.left _ _) (by rw [hA1]; exact hDA)) ?_
  clear he hv hC hL1 nuE nuE0 fr fr0 fr' hDA hn0 hb hA1 f1 sA0
  induction l generalizing e vr C B L1 dn with
  | nil =>
    have hle := drop_nil h3
    have hlt : ((e : Int) < (rs.length : Int)) = False := by simp; omega
    refine LoopA.intro (by kernel_rfl) ?_
    intro ν fr; have nuE := fr.nu
    simp (maxDischargeDepth := 16) only [argE_nil, argE_cons, ↓vmD, vmV, vmStd, Nat.reduceMul, ↓reduceIte, Nat.reduceAdd, Nat.reduceSub, Nat.reduceEqDiff, Nat.reduceLT, Nat.reduceLeDiff, reduceCtorEq, Int.reduceToNat, Int.reduceLT, Int.reduceLE, Int.reduceEq, Int.reduceNeg, Int.reduceBEq, Int.reduceBNe, String.reduceEq, forall_const, ↓vmDA, vmVA, ↓vmQA, vmR, vmRA, ↓vmSA, vmSV, tyS, nuE, SubA.skip, SubA.refl, fr.2, slIndexByte_v, indexByte_v, indexRune_v, containsRune_v, classOf_v, isWordByte_v, letter_v, digit_v, wordAt_v, rword_v, isName_v, risName_v, recId_v, authId_v, rId13_v, rId27_v, moneyCur_v, authCur_v, rCur27_v, rCur01_v, isPart_v, authCheck_v, inTotal_v, rwithin1_v, exCard_v, recCheck_v, rrecCheck_v, within27_v, rauthCheck_v, fundsA_v, settledA_v, state27A_v, authOpen_v, rauthOpen_v, authUsable_v, rauthUsable_v, authClear_v, rauthClear_v, tolValid_v, rtolValid_v, allowed_v, rallowed_v, checkPres_v, rable_v, apply_v, rapply_v, present_v, awake_v, short35_v, short32_v, applies_v, hlt]
    exact ⟨_, _, B, C, rfl, by rw [h2a]; exact ho, by rw [h2]; simpa [rejF] using hoC, SubA.left _ _, hBC.symm.sub (SubA.left _ _), fun b o h => hxB.sub (hCA.sub (SubA.refl _)) b o (hAA b o h)⟩
  | cons r l ih =>
    obtain ⟨hr, hl2, h3'⟩ := drop_some h3
    have hlt : ((e : Int) < (rs.length : Int)) = True := by simp; omega
    have we : IntKind.i64.wrap ((e : Int) + 1) = ((e + 1 : Nat) : Int) := by rw [w_i64 (by omega) (by omega)]; omega
    obtain ⟨b, off, cs, ty, fr1, hp0, hb, hc, hc2⟩ := hR.at hr
    subst hp0
    have sB : SubA B (B ++ (C ++ A1)) := SubA.left _ _
    have sC : SubA C (B ++ (C ++ A1)) := hBC.symm.sub (SubA.left _ _)
    have sA : SubA A1 (B ++ (C ++ A1)) := hxB.sub hCA.right
    have hb2 := sA _ _ (hAA _ _ hb)
    have ht2 := sA _ _ ht
    have hlp := procL_len L1 r tb tf
    have hzp := procL_sz (r := r) (tb := tb) (tf := tf) hz1
    obtain ⟨z1, z2, z3, z4, z5, z6, z7⟩ := hs r (List.mem_of_getElem? hr)
    have c0 : cs[off + e * 12]? = some (.int .i64 r.kd) := by simpa using hc2 0 _ rfl
    have c1 : cs[off + e * 12 + 1]? = some (.string r.rid) := by simpa using hc2 1 _ rfl
    refine LoopA.intro (by kernel_rfl) ?_
    intro ν fr; have nuE := fr.nu
    have k0 := look_ne (fr.2 0) hb2
    have k1 := look_ne (fr.2 0) ht2
    -- what comes behind: a rejection, or none
    have rej : True := trivial
    by_cases q0 : chkQ r = 0
    · have q0' := q0
      unfold chkQ at q0'
      by_cases q1 : r.kd = 1
      · have w1 : (r.kd == 1) = true := by simp [q1]
        obtain ⟨pv, capv, rfl, hcv, hLv⟩ := ho.read au_len
        have mt := rmtchR_w B L1 pv capv hLv hl1 r.kd r.rid r.rau r.aq r.is r.me r.ca r.am r.rcu r.da r.ct r.fi tb tf z1 z2 z3 z4 z5 z6 z7 hz1
        have mv : matV L1 r.kd r.rid r.rau r.aq r.is r.me r.ca r.am r.rcu r.da r.ct r.fi tb tf = .tuple #[.int .i64 (matQ L1 r tb tf).1, .int .i64 (matQ L1 r tb tf).2] := rfl
        have e1 : procE L1 r tb tf = (matQ L1 r tb tf).2 := by unfold procE; rw [if_neg (by simpa using q0), if_neg (by simpa using q1)]
        by_cases q2 : (matQ L1 r tb tf).2 = 0
        · obtain ⟨i, a, hf, hi, hm, hap, hk⟩ := mat_ok q2
          have hne : L1 ≠ [] := by intro h; rw [h] at hi; cases hi
          obtain ⟨g, cap2, cur, hv, rfl, h3_, h4_, h5_, h6_⟩ := ho.blk hne
          cases hv
          have hlt1 : i < L1.length := (List.getElem?_eq_some_iff.1 hi).1
          obtain ⟨b_, off_, cs_, ty_, fr_, hp_, hb_, hcA, _⟩ := hLv.at hi
          cases hp_
          simp only [Vm.look, if_true, Option.some.injEq, Obj.cells.injEq] at hb_
          obtain ⟨rfl, rfl, rfl⟩ := hb_
          obtain ⟨ho2, hle⟩ := ho.set au_len hlt1 (aftA a r)
          have hza := hz1 a (List.mem_of_getElem? hi)
          have ap := rapply_v a.id a.cu a.ap a.rv a.cl a.ex a.st a.atT a.un a.pa r.kd r.rid r.rau r.aq r.is r.me r.ca r.am r.rcu r.da r.ct r.fi tb tf
          have ap0 := hap
          unfold appEA at ap0
          have hb4 := hAA _ _ hb
          have gb := look_ne (hxB b (by rw [hb4]; simp)) (show Vm.look [(g, Obj.cells cur 23)] g = some (Obj.cells cur 23) by simp [Vm.look])
          have gn := look_ne (hxB n0 (by rw [ht]; simp)) (show Vm.look [(g, Obj.cells cur 23)] g = some (Obj.cells cur 23) by simp [Vm.look])
          have ng := fr.ne (b := g) (by simp [Vm.look])
          have hb5 : Vm.look (C ++ A1) b = some (.cells cs ty fr1) := hCA.right _ _ hb4
          have ht5 : Vm.look (C ++ A1) n0 = some (.cells #[.int .i64 tb, .int .i64 tf] 37) := hCA.right _ _ ht
          have hlt1' : ((i : Int) < (L1.length : Int)) = True := by simp; exact hlt1
          have hle2 : i * 10 + 10 ≤ cur.size := hle
          simp only [Nat.zero_add] at hcA
          simp only [List.cons_append, List.nil_append] at mt sB sA sC fr ⊢
          simp (maxDischargeDepth := 16) only [argE_nil, argE_cons, ↓vmD, vmV, vmStd, Nat.reduceMul, ↓reduceIte, Nat.reduceAdd, Nat.reduceSub, Nat.reduceEqDiff, Nat.reduceLT, Nat.reduceLeDiff, reduceCtorEq, Int.reduceToNat, Int.reduceLT, Int.reduceLE, Int.reduceEq, Int.reduceNeg, Int.reduceBEq, Int.reduceBNe, String.reduceEq, forall_const, ↓vmDA, vmVA, ↓vmQA, vmR, vmRA, ↓vmSA, vmSV, tyS, nuE, SubA.skip, SubA.refl, fr.2, slIndexByte_v, indexByte_v, indexRune_v, containsRune_v, classOf_v, isWordByte_v, letter_v, digit_v, wordAt_v, rword_v, isName_v, risName_v, recId_v, authId_v, rId13_v, rId27_v, moneyCur_v, authCur_v, rCur27_v, rCur01_v, isPart_v, authCheck_v, inTotal_v, rwithin1_v, exCard_v, recCheck_v, rrecCheck_v, within27_v, rauthCheck_v, fundsA_v, settledA_v, state27A_v, authOpen_v, rauthOpen_v, authUsable_v, rauthUsable_v, authClear_v, rauthClear_v, tolValid_v, rtolValid_v, allowed_v, rallowed_v, checkPres_v, rable_v, apply_v, rapply_v, present_v, awake_v, short35_v, short32_v, applies_v, hlt, hb5, ht5, gb, gn, ng, k0, k1, c0, c1, hc, rc_agg, we, z1, z2, z3, z4, z5, z6, z7, q0', w1, mt, mv, hm, sB, q2, hza, hlt1, hlt1', hcA, au_agg, ap, appV, ap0, appO, Nat.zero_add, hle2]
          have eL : procL L1 r tb tf = L1.set i (aftA a r) := by unfold procL; rw [if_neg (by simpa using q0), if_neg (by simpa using q1), if_neg (by simpa using q2), hf]
          have eE : procE L1 r tb tf = 0 := e1.trans q2
          exact LoopA.weak (ih [(g, .cells (splice cur (i * 10) (Au.cells (aftA a r))) 23)] (dis_same hxB) (e + 1) vr C (procL L1 r tb tf) (by rw [eL]; exact ho2) dn (by rw [h2]; simp only [rejF, eE, if_true]) (by rw [h2a]; rfl) hoC (dis_same hBC.symm).symm hCA (by omega) h3' (by omega) hzp) (by simp only [subE, get_cons, Nat.reduceEqDiff, ↓reduceIte, reduceCtorEq, Nat.reduceAdd, and_self, and_true]) (SubA.skip (look_same (fr.2 0)) (SubA.refl _))
        · have hq : ¬ (matQ L1 r tb tf).2 = 0 := q2
          simp (maxDischargeDepth := 16) only [argE_nil, argE_cons, ↓vmD, vmV, vmStd, Nat.reduceMul, ↓reduceIte, Nat.reduceAdd, Nat.reduceSub, Nat.reduceEqDiff, Nat.reduceLT, Nat.reduceLeDiff, reduceCtorEq, Int.reduceToNat, Int.reduceLT, Int.reduceLE, Int.reduceEq, Int.reduceNeg, Int.reduceBEq, Int.reduceBNe, String.reduceEq, forall_const, ↓vmDA, vmVA, ↓vmQA, vmR, vmRA, ↓vmSA, vmSV, tyS, nuE, SubA.skip, SubA.refl, fr.2, slIndexByte_v, indexByte_v, indexRune_v, containsRune_v, classOf_v, isWordByte_v, letter_v, digit_v, wordAt_v, rword_v, isName_v, risName_v, recId_v, authId_v, rId13_v, rId27_v, moneyCur_v, authCur_v, rCur27_v, rCur01_v, isPart_v, authCheck_v, inTotal_v, rwithin1_v, exCard_v, recCheck_v, rrecCheck_v, within27_v, rauthCheck_v, fundsA_v, settledA_v, state27A_v, authOpen_v, rauthOpen_v, authUsable_v, rauthUsable_v, authClear_v, rauthClear_v, tolValid_v, rtolValid_v, allowed_v, rallowed_v, checkPres_v, rable_v, apply_v, rapply_v, present_v, awake_v, short35_v, short32_v, applies_v, hlt, hb2, ht2, k0, k1, c0, c1, hc, rc_agg, we, z1, z2, z3, z4, z5, z6, z7, q0', w1, mt, mv, sB, q2, sc_rj]
          have eL : procL L1 r tb tf = L1 := by unfold procL; rw [if_neg (by simpa using q0), if_neg (by simpa using q1), if_pos q2]
          have eE : procE L1 r tb tf = (matQ L1 r tb tf).2 := e1
          have sC3 := SubA.skip (o := .cells #[.int .i64 (e : Int), .string r.rid, .int .i64 ((matQ L1 r tb tf).2)] 61) (sC.none (fr.2 0)) sC
          have sA3 := SubA.skip (o := .cells #[.int .i64 (e : Int), .string r.rid, .int .i64 ((matQ L1 r tb tf).2)] 61) (sA.none (fr.2 0)) sA
          have sB3 := SubA.skip (o := .cells #[.int .i64 (e : Int), .string r.rid, .int .i64 ((matQ L1 r tb tf).2)] 61) (sB.none (fr.2 0)) sB
          refine append_src (m := 1) (news := [.int .i64 (e : Int), .string r.rid, .int .i64 ((matQ L1 r tb tf).2)]) slc55 zro61 rfl (by decide) hoC sC3 (.inr ⟨_, 0, rfl, by simp (maxDischargeDepth := 16) only [argE_nil, argE_cons, ↓vmD, vmV, vmStd, Nat.reduceMul, ↓reduceIte, Nat.reduceAdd, Nat.reduceSub, Nat.reduceEqDiff, Nat.reduceLT, Nat.reduceLeDiff, reduceCtorEq, Int.reduceToNat, Int.reduceLT, Int.reduceLE, Int.reduceEq, Int.reduceNeg, Int.reduceBEq, Int.reduceBNe, String.reduceEq, forall_const, ↓vmDA, vmVA, ↓vmQA, vmR, vmRA, ↓vmSA, vmSV, tyS, nuE, slIndexByte_v, indexByte_v, indexRune_v, containsRune_v, classOf_v, isWordByte_v, letter_v, digit_v, wordAt_v, rword_v, isName_v, risName_v, recId_v, authId_v, rId13_v, rId27_v, moneyCur_v, authCur_v, rCur27_v, rCur01_v, isPart_v, authCheck_v, inTotal_v, rwithin1_v, exCard_v, recCheck_v, rrecCheck_v, within27_v, rauthCheck_v, fundsA_v, settledA_v, state27A_v, authOpen_v, rauthOpen_v, authUsable_v, rauthUsable_v, authClear_v, rauthClear_v, tolValid_v, rtolValid_v, allowed_v, rallowed_v, checkPres_v, rable_v, apply_v, rapply_v, present_v, awake_v, short35_v, short32_v, applies_v]⟩) (by simp [Value.oneCell']) (by simp [maxLen]; omega) (by omega) ?_
          intro v' C' hoC' hb'
          have dCB' : Dis C' B := ap_dis hb' hBC sB3
          have dCA' : Dis C' A1 := ap_dis hb' hCA sA3
          intro ν2 fr2
          have fr := fr2
          have nuE := fr.nu
          simp (maxDischargeDepth := 16) only [argE_nil, argE_cons, ↓vmD, vmV, vmStd, Nat.reduceMul, ↓reduceIte, Nat.reduceAdd, Nat.reduceSub, Nat.reduceEqDiff, Nat.reduceLT, Nat.reduceLeDiff, reduceCtorEq, Int.reduceToNat, Int.reduceLT, Int.reduceLE, Int.reduceEq, Int.reduceNeg, Int.reduceBEq, Int.reduceBNe, String.reduceEq, forall_const, ↓vmDA, vmVA, ↓vmQA, vmR, vmRA, ↓vmSA, vmSV, tyS, nuE, slIndexByte_v, indexByte_v, indexRune_v, containsRune_v, classOf_v, isWordByte_v, letter_v, digit_v, wordAt_v, rword_v, isName_v, risName_v, recId_v, authId_v, rId13_v, rId27_v, moneyCur_v, authCur_v, rCur27_v, rCur01_v, isPart_v, authCheck_v, inTotal_v, rwithin1_v, exCard_v, recCheck_v, rrecCheck_v, within27_v, rauthCheck_v, fundsA_v, settledA_v, state27A_v, authOpen_v, rauthOpen_v, authUsable_v, rauthUsable_v, authClear_v, rauthClear_v, tolValid_v, rtolValid_v, allowed_v, rallowed_v, checkPres_v, rable_v, apply_v, rapply_v, present_v, awake_v, short35_v, short32_v, applies_v, we]
          exact LoopA.weak (ih B hxB (e + 1) v' C' L1 ho (dn ++ [⟨e, r.rid, (matQ L1 r tb tf).2⟩]) (by rw [h2]; simp only [rejF, eE, hq, if_false, eL, List.append_assoc, List.cons_append, List.nil_append]) (by rw [h2a]; show runL tb tf (procL L1 r tb tf) l = _; rw [eL]) (by simpa [OwnL, Rj.cells] using hoC') dCB' dCA' (by simp; omega) h3' (by omega) hz1) (by simp only [subE, get_cons, Nat.reduceEqDiff, ↓reduceIte, reduceCtorEq, Nat.reduceAdd, and_self, and_true]) (SubA.both (dCB'.sub sB3) (SubA.both (SubA.left _ _) (dCA'.sub sA3)))
      · have w1 : (r.kd == 1) = false := by simp [q1]
        have eE : procE L1 r tb tf = 0 := by unfold procE; rw [if_neg (by simpa using q0), if_pos q1]
        have eL : procL L1 r tb tf = L1 := by unfold procL; rw [if_neg (by simpa using q0), if_pos q1]
        simp (maxDischargeDepth := 16) only [argE_nil, argE_cons, ↓vmD, vmV, vmStd, Nat.reduceMul, ↓reduceIte, Nat.reduceAdd, Nat.reduceSub, Nat.reduceEqDiff, Nat.reduceLT, Nat.reduceLeDiff, reduceCtorEq, Int.reduceToNat, Int.reduceLT, Int.reduceLE, Int.reduceEq, Int.reduceNeg, Int.reduceBEq, Int.reduceBNe, String.reduceEq, forall_const, ↓vmDA, vmVA, ↓vmQA, vmR, vmRA, ↓vmSA, vmSV, tyS, nuE, SubA.skip, SubA.refl, fr.2, slIndexByte_v, indexByte_v, indexRune_v, containsRune_v, classOf_v, isWordByte_v, letter_v, digit_v, wordAt_v, rword_v, isName_v, risName_v, recId_v, authId_v, rId13_v, rId27_v, moneyCur_v, authCur_v, rCur27_v, rCur01_v, isPart_v, authCheck_v, inTotal_v, rwithin1_v, exCard_v, recCheck_v, rrecCheck_v, within27_v, rauthCheck_v, fundsA_v, settledA_v, state27A_v, authOpen_v, rauthOpen_v, authUsable_v, rauthUsable_v, authClear_v, rauthClear_v, tolValid_v, rtolValid_v, allowed_v, rallowed_v, checkPres_v, rable_v, apply_v, rapply_v, present_v, awake_v, short35_v, short32_v, applies_v, hlt, hb2, ht2, k0, k1, c0, c1, hc, rc_agg, we, z1, z2, z3, z4, z5, z6, z7, q0', w1]
        exact LoopA.weak (ih B hxB (e + 1) vr C L1 ho dn (by rw [h2]; simp only [rejF, eE, if_true, eL]) (by rw [h2a]; show runL tb tf (procL L1 r tb tf) l = _; rw [eL]) hoC hBC hCA (by omega) h3' (by omega) hz1) (by simp only [subE, get_cons, Nat.reduceEqDiff, ↓reduceIte, reduceCtorEq, Nat.reduceAdd, and_self, and_true]) (SubA.refl _)
    · have q0' := q0
      unfold chkQ at q0'
      have hq : ¬ chkRG r.kd r.rid r.rau r.aq r.is r.me r.ca r.am r.rcu r.da r.ct = 0 := q0'
      simp (maxDischargeDepth := 16) only [argE_nil, argE_cons, ↓vmD, vmV, vmStd, Nat.reduceMul, ↓reduceIte, Nat.reduceAdd, Nat.reduceSub, Nat.reduceEqDiff, Nat.reduceLT, Nat.reduceLeDiff, reduceCtorEq, Int.reduceToNat, Int.reduceLT, Int.reduceLE, Int.reduceEq, Int.reduceNeg, Int.reduceBEq, Int.reduceBNe, String.reduceEq, forall_const, ↓vmDA, vmVA, ↓vmQA, vmR, vmRA, ↓vmSA, vmSV, tyS, nuE, SubA.skip, SubA.refl, fr.2, slIndexByte_v, indexByte_v, indexRune_v, containsRune_v, classOf_v, isWordByte_v, letter_v, digit_v, wordAt_v, rword_v, isName_v, risName_v, recId_v, authId_v, rId13_v, rId27_v, moneyCur_v, authCur_v, rCur27_v, rCur01_v, isPart_v, authCheck_v, inTotal_v, rwithin1_v, exCard_v, recCheck_v, rrecCheck_v, within27_v, rauthCheck_v, fundsA_v, settledA_v, state27A_v, authOpen_v, rauthOpen_v, authUsable_v, rauthUsable_v, authClear_v, rauthClear_v, tolValid_v, rtolValid_v, allowed_v, rallowed_v, checkPres_v, rable_v, apply_v, rapply_v, present_v, awake_v, short35_v, short32_v, applies_v, hlt, hb2, ht2, k0, k1, c0, c1, hc, rc_agg, we, z1, z2, z3, z4, z5, z6, z7, q0', sc_rj]
      have eL : procL L1 r tb tf = L1 := if_pos q0
      have eE : procE L1 r tb tf = chkRG r.kd r.rid r.rau r.aq r.is r.me r.ca r.am r.rcu r.da r.ct := if_pos q0
      have sC3 := SubA.skip (o := .cells #[.int .i64 (e : Int), .string r.rid, .int .i64 (chkRG r.kd r.rid r.rau r.aq r.is r.me r.ca r.am r.rcu r.da r.ct)] 61) (sC.none (fr.2 0)) sC
      have sA3 := SubA.skip (o := .cells #[.int .i64 (e : Int), .string r.rid, .int .i64 (chkRG r.kd r.rid r.rau r.aq r.is r.me r.ca r.am r.rcu r.da r.ct)] 61) (sA.none (fr.2 0)) sA
      have sB3 := SubA.skip (o := .cells #[.int .i64 (e : Int), .string r.rid, .int .i64 (chkRG r.kd r.rid r.rau r.aq r.is r.me r.ca r.am r.rcu r.da r.ct)] 61) (sB.none (fr.2 0)) sB
      refine append_src (m := 1) (news := [.int .i64 (e : Int), .string r.rid, .int .i64 (chkRG r.kd r.rid r.rau r.aq r.is r.me r.ca r.am r.rcu r.da r.ct)]) slc55 zro61 rfl (by decide) hoC sC3 (.inr ⟨_, 0, rfl, by simp (maxDischargeDepth := 16) only [argE_nil, argE_cons, ↓vmD, vmV, vmStd, Nat.reduceMul, ↓reduceIte, Nat.reduceAdd, Nat.reduceSub, Nat.reduceEqDiff, Nat.reduceLT, Nat.reduceLeDiff, reduceCtorEq, Int.reduceToNat, Int.reduceLT, Int.reduceLE, Int.reduceEq, Int.reduceNeg, Int.reduceBEq, Int.reduceBNe, String.reduceEq, forall_const, ↓vmDA, vmVA, ↓vmQA, vmR, vmRA, ↓vmSA, vmSV, tyS, nuE, slIndexByte_v, indexByte_v, indexRune_v, containsRune_v, classOf_v, isWordByte_v, letter_v, digit_v, wordAt_v, rword_v, isName_v, risName_v, recId_v, authId_v, rId13_v, rId27_v, moneyCur_v, authCur_v, rCur27_v, rCur01_v, isPart_v, authCheck_v, inTotal_v, rwithin1_v, exCard_v, recCheck_v, rrecCheck_v, within27_v, rauthCheck_v, fundsA_v, settledA_v, state27A_v, authOpen_v, rauthOpen_v, authUsable_v, rauthUsable_v, authClear_v, rauthClear_v, tolValid_v, rtolValid_v, allowed_v, rallowed_v, checkPres_v, rable_v, apply_v, rapply_v, present_v, awake_v, short35_v, short32_v, applies_v]⟩) (by simp [Value.oneCell']) (by simp [maxLen]; omega) (by omega) ?_
      intro v' C' hoC' hb'
      have dCB' : Dis C' B := ap_dis hb' hBC sB3
      have dCA' : Dis C' A1 := ap_dis hb' hCA sA3
      intro ν2 fr2
      have fr := fr2
      have nuE := fr.nu
      simp (maxDischargeDepth := 16) only [argE_nil, argE_cons, ↓vmD, vmV, vmStd, Nat.reduceMul, ↓reduceIte, Nat.reduceAdd, Nat.reduceSub, Nat.reduceEqDiff, Nat.reduceLT, Nat.reduceLeDiff, reduceCtorEq, Int.reduceToNat, Int.reduceLT, Int.reduceLE, Int.reduceEq, Int.reduceNeg, Int.reduceBEq, Int.reduceBNe, String.reduceEq, forall_const, ↓vmDA, vmVA, ↓vmQA, vmR, vmRA, ↓vmSA, vmSV, tyS, nuE, slIndexByte_v, indexByte_v, indexRune_v, containsRune_v, classOf_v, isWordByte_v, letter_v, digit_v, wordAt_v, rword_v, isName_v, risName_v, recId_v, authId_v, rId13_v, rId27_v, moneyCur_v, authCur_v, rCur27_v, rCur01_v, isPart_v, authCheck_v, inTotal_v, rwithin1_v, exCard_v, recCheck_v, rrecCheck_v, within27_v, rauthCheck_v, fundsA_v, settledA_v, state27A_v, authOpen_v, rauthOpen_v, authUsable_v, rauthUsable_v, authClear_v, rauthClear_v, tolValid_v, rtolValid_v, allowed_v, rallowed_v, checkPres_v, rable_v, apply_v, rapply_v, present_v, awake_v, short35_v, short32_v, applies_v, we]
      exact LoopA.weak (ih B hxB (e + 1) v' C' L1 ho (dn ++ [⟨e, r.rid, chkRG r.kd r.rid r.rau r.aq r.is r.me r.ca r.am r.rcu r.da r.ct⟩]) (by rw [h2]; simp only [rejF, eE, hq, if_false, eL, List.append_assoc, List.cons_append, List.nil_append]) (by rw [h2a]; show runL tb tf (procL L1 r tb tf) l = _; rw [eL]) (by simpa [OwnL, Rj.cells] using hoC') dCB' dCA' (by simp; omega) h3' (by omega) hz1) (by simp only [subE, get_cons, Nat.reduceEqDiff, ↓reduceIte, reduceCtorEq, Nat.reduceAdd, and_self, and_true]) (SubA.both (dCB'.sub sB3) (SubA.both (SubA.left _ _) (dCA'.sub sA3)))

end Go.Proofs.Ythahheeahdhepaa
