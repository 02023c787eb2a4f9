/-
Matching: the authorizations that are still open.
Conditions: none.
-/
import Derived.Test.YthahheeahdhepaaVmAP
import Derived.Test.YthahheeahdhepaaMch
namespace Go.Proofs.Ythahheeahdhepaa
open Go.Vm
set_option linter.unusedSimpArgs false
set_option linter.unusedVariables false
set_option maxHeartbeats 2000000
set_option maxRecDepth 20000
def openA (a : Au) : Int := openG a.id a.cu a.ap a.rv a.cl a.ex a.st a.atT a.un a.pa
def opens : List Au → List ByteArray
  | [] => []
  | a :: l => if 0 < openA a then a.id :: opens l else opens l
theorem sc_str (s : ByteArray) : sliceCells Try.prog 63 1 [(0, .string s)] = some (9, #[.string s]) := by kernel_rfl
theorem unmatched_h (L : List Au) (b cap : Nat) (cs : Array Value) (hrd : ∀ i a, L[i]? = some a → rdCS (some (.cells cs 23)) (i * 10) 10 = some (Au.cells a).toArray) (hL : L.length ≤ 1000000) (hz : ∀ a ∈ L, a.id.size ≤ 100000 ∧ a.cu.size ≤ 100000) : CallA Try.prog 23 #[.slice (some ⟨b, 0, none⟩) L.length cap] [(b, .cells cs 23)] (fun u_ A_ => ∃ B, OwnA 9 1 u_ B (opens L).length ((opens L).map .string) ∧ (Vm.look A_ b = some (.cells cs 23) ∧ SubA B A_ ∧ Vm.look B b = none)) := by
  refine callA_of_denA ⟨Try.prog, 23, Try.f23, 22, [0, 2, 3, 5, 6, 7, 8], [], [], _⟩ (args := [_]) Try.func23 rfl (by kernel_rfl) Try.ntmps23 (by simp) (by kernel_rfl) ?_
  intro ν fr; have nuE := And.intro (fr.mem (b := b) (by simp)) (fr.nu)
  simp (maxDischargeDepth := 16) only [argE_nil, argE_cons, ↓vmD, vmV, vmStd, Nat.reduceMul, ↓reduceIte, Nat.reduceAdd, Nat.reduceSub, Nat.reduceEqDiff, Nat.reduceLT, Nat.reduceLeDiff, reduceCtorEq, Int.reduceToNat, Int.reduceLT, Int.reduceLE, Int.reduceEq, Int.reduceNeg, Int.reduceBEq, Int.reduceBNe, String.reduceEq, forall_const, ↓vmDA, vmVA, ↓vmQA, vmR, vmRA, ↓vmSA, vmSV, tyS, nuE, slIndexByte_v, indexByte_v, indexRune_v, containsRune_v, classOf_v, isWordByte_v, letter_v, digit_v, wordAt_v, rword_v, isName_v, risName_v, recId_v, authId_v, rId13_v, rId27_v, moneyCur_v, authCur_v, rCur27_v, rCur01_v, isPart_v, authCheck_v, inTotal_v, rwithin1_v, exCard_v, recCheck_v, rrecCheck_v, within27_v, rauthCheck_v, fundsA_v, settledA_v, state27A_v, authOpen_v, rauthOpen_v, authUsable_v, rauthUsable_v, authClear_v, rauthClear_v, tolValid_v, rtolValid_v, allowed_v, rallowed_v, checkPres_v, rable_v, apply_v, rapply_v]
  obtain ⟨e, l, v, B, dn, he, hv, hB, h2, ho, hnb, h3⟩ : ∃ (e : Nat) (l : List Au) (v : Value) (B : AH) (dn : List ByteArray), e = 0 ∧ v = .slice none 0 0 ∧ B = [] ∧ opens L = dn ++ opens l ∧ OwnA 9 1 v B dn.length (dn.map .string) ∧ Vm.look B b = none ∧ l = L.drop e := ⟨0, L, _, [], [], rfl, rfl, rfl, rfl, OwnA.nil _ _, rfl, by simp⟩
  have hdn : dn.length ≤ e := by
    have : dn = [] := by
      have := ho.1
      simp at this
      rcases ho.2 with ⟨_, _, h⟩ | ⟨g, c, cu, h, _⟩
      · exact List.eq_nil_of_length_eq_zero h
      · rw [hv] at h; cases h
    rw [this]; simp
  rw [show (8, some (Value.int .i64 0)) = (8, some (Value.int .i64 (e : Int))) by rw [he]; rfl]
  rw [show (3, some (Value.slice none 0 0)) = (3, some v) by rw [hv]]
  rw [show [(b, Obj.cells cs 23)] = B ++ [(b, Obj.cells cs 23)] by rw [hB]; rfl]
  clear he hv hB nuE fr
  induction l generalizing e v B dn with
  | nil =>
    have hle : L.length ≤ e := by
      rcases Nat.lt_or_ge e L.length with h | h
      · rw [List.drop_eq_getElem_cons h] at h3; cases h3
      · exact h
    have hlt : ((e : Int) < (L.length : Int)) = False := by simp; omega
    refine LoopA.intro (by kernel_rfl) ?_
    intro ν fr; have nuE := And.intro (fr.mem (b := b) (by simp)) (fr.nu)
    simp (maxDischargeDepth := 16) only [argE_nil, argE_cons, ↓vmD, vmV, vmStd, Nat.reduceMul, ↓reduceIte, Nat.reduceAdd, Nat.reduceSub, Nat.reduceEqDiff, Nat.reduceLT, Nat.reduceLeDiff, reduceCtorEq, Int.reduceToNat, Int.reduceLT, Int.reduceLE, Int.reduceEq, Int.reduceNeg, Int.reduceBEq, Int.reduceBNe, String.reduceEq, forall_const, ↓vmDA, vmVA, ↓vmQA, vmR, vmRA, ↓vmSA, vmSV, tyS, nuE, slIndexByte_v, indexByte_v, indexRune_v, containsRune_v, classOf_v, isWordByte_v, letter_v, digit_v, wordAt_v, rword_v, isName_v, risName_v, recId_v, authId_v, rId13_v, rId27_v, moneyCur_v, authCur_v, rCur27_v, rCur01_v, isPart_v, authCheck_v, inTotal_v, rwithin1_v, exCard_v, recCheck_v, rrecCheck_v, within27_v, rauthCheck_v, fundsA_v, settledA_v, state27A_v, authOpen_v, rauthOpen_v, authUsable_v, rauthUsable_v, authClear_v, rauthClear_v, tolValid_v, rtolValid_v, allowed_v, rallowed_v, checkPres_v, rable_v, apply_v, rapply_v, hlt, h2, look_app hnb, opens, List.append_nil]
    exact ⟨B, ho, SubA.left _ _, hnb⟩
  | cons a l ih =>
    have ha : L[e]? = some a := by
      have := congrArg (fun x => x[0]?) h3
      simpa using this.symm
    have hl2 : e < L.length := (List.getElem?_eq_some_iff.1 ha).1
    have hlt : ((e : Int) < (L.length : Int)) = True := by simp; omega
    have we : IntKind.i64.wrap ((e : Int) + 1) = ((e + 1 : Nat) : Int) := by rw [w_i64 (by omega) (by omega)]; omega
    have h3' : l = L.drop (e + 1) := by
      have := congrArg (fun x => x.drop 1) h3
      simpa [List.drop_drop, Nat.add_comm] using this
    have hr := hrd e a ha
    have hza := hz a (List.mem_of_getElem? ha)
    have hc : cs[e * 10]? = some (.string a.id) := rd_get hr (j := 0) rfl (by omega)
    refine LoopA.intro (by kernel_rfl) ?_
    intro ν fr; have nuE := And.intro (fr.mem (b := b) (by simp)) (fr.nu)
    have hfB := fr.app
    by_cases hp : 0 < openA a
    · have hp' := hp
      unfold openA at hp'
      simp (maxDischargeDepth := 16) only [argE_nil, argE_cons, ↓vmD, vmV, vmStd, Nat.reduceMul, ↓reduceIte, Nat.reduceAdd, Nat.reduceSub, Nat.reduceEqDiff, Nat.reduceLT, Nat.reduceLeDiff, reduceCtorEq, Int.reduceToNat, Int.reduceLT, Int.reduceLE, Int.reduceEq, Int.reduceNeg, Int.reduceBEq, Int.reduceBNe, String.reduceEq, forall_const, ↓vmDA, vmVA, ↓vmQA, vmR, vmRA, ↓vmSA, vmSV, tyS, nuE, slIndexByte_v, indexByte_v, indexRune_v, containsRune_v, classOf_v, isWordByte_v, letter_v, digit_v, wordAt_v, rword_v, isName_v, risName_v, recId_v, authId_v, rId13_v, rId27_v, moneyCur_v, authCur_v, rCur27_v, rCur01_v, isPart_v, authCheck_v, inTotal_v, rwithin1_v, exCard_v, recCheck_v, rrecCheck_v, within27_v, rauthCheck_v, fundsA_v, settledA_v, state27A_v, authOpen_v, rauthOpen_v, authUsable_v, rauthUsable_v, authClear_v, rauthClear_v, tolValid_v, rtolValid_v, allowed_v, rallowed_v, checkPres_v, rable_v, apply_v, rapply_v, hlt, look_app hnb, hr, hc, au_agg, hza, hp', we, sc_str]
      refine append_own (m := 1) (news := [.string a.id]) slc63 zro9 rfl (by decide) ho (SubA.skip (hfB 1) (SubA.skip (hfB 0) (SubA.left _ _))) (by simp (maxDischargeDepth := 16) only [argE_nil, argE_cons, ↓vmD, vmV, vmStd, Nat.reduceMul, ↓reduceIte, Nat.reduceAdd, Nat.reduceSub, Nat.reduceEqDiff, Nat.reduceLT, Nat.reduceLeDiff, reduceCtorEq, Int.reduceToNat, Int.reduceLT, Int.reduceLE, Int.reduceEq, Int.reduceNeg, Int.reduceBEq, Int.reduceBNe, String.reduceEq, forall_const, ↓vmDA, vmVA, ↓vmQA, vmR, vmRA, ↓vmSA, vmSV, tyS, nuE, slIndexByte_v, indexByte_v, indexRune_v, containsRune_v, classOf_v, isWordByte_v, letter_v, digit_v, wordAt_v, rword_v, isName_v, risName_v, recId_v, authId_v, rId13_v, rId27_v, moneyCur_v, authCur_v, rCur27_v, rCur01_v, isPart_v, authCheck_v, inTotal_v, rwithin1_v, exCard_v, recCheck_v, rrecCheck_v, within27_v, rauthCheck_v, fundsA_v, settledA_v, state27A_v, authOpen_v, rauthOpen_v, authUsable_v, rauthUsable_v, authClear_v, rauthClear_v, tolValid_v, rtolValid_v, allowed_v, rallowed_v, checkPres_v, rable_v, apply_v, rapply_v]) (by simp [Value.oneCell']) (by simp [maxLen]; omega) (by omega) ?_
      intro v' B' ho' hb'
      intro ν' fr'
      have hnb' : Vm.look B' b = none := own_disj hb' hnb (by simp (maxDischargeDepth := 16) only [argE_nil, argE_cons, ↓vmD, vmV, vmStd, Nat.reduceMul, ↓reduceIte, Nat.reduceAdd, Nat.reduceSub, Nat.reduceEqDiff, Nat.reduceLT, Nat.reduceLeDiff, reduceCtorEq, Int.reduceToNat, Int.reduceLT, Int.reduceLE, Int.reduceEq, Int.reduceNeg, Int.reduceBEq, Int.reduceBNe, String.reduceEq, forall_const, ↓vmDA, vmVA, ↓vmQA, vmR, vmRA, ↓vmSA, vmSV, tyS, nuE, slIndexByte_v, indexByte_v, indexRune_v, containsRune_v, classOf_v, isWordByte_v, letter_v, digit_v, wordAt_v, rword_v, isName_v, risName_v, recId_v, authId_v, rId13_v, rId27_v, moneyCur_v, authCur_v, rCur27_v, rCur01_v, isPart_v, authCheck_v, inTotal_v, rwithin1_v, exCard_v, recCheck_v, rrecCheck_v, within27_v, rauthCheck_v, fundsA_v, settledA_v, state27A_v, authOpen_v, rauthOpen_v, authUsable_v, rauthUsable_v, authClear_v, rauthClear_v, tolValid_v, rtolValid_v, allowed_v, rallowed_v, checkPres_v, rable_v, apply_v, rapply_v, look_app hnb])
      have nuE0 := nuE
      have nuE := And.intro (fr'.mem (b := b) (by simp)) fr'.nu
      simp (maxDischargeDepth := 16) only [argE_nil, argE_cons, ↓vmD, vmV, vmStd, Nat.reduceMul, ↓reduceIte, Nat.reduceAdd, Nat.reduceSub, Nat.reduceEqDiff, Nat.reduceLT, Nat.reduceLeDiff, reduceCtorEq, Int.reduceToNat, Int.reduceLT, Int.reduceLE, Int.reduceEq, Int.reduceNeg, Int.reduceBEq, Int.reduceBNe, String.reduceEq, forall_const, ↓vmDA, vmVA, ↓vmQA, vmR, vmRA, ↓vmSA, vmSV, tyS, nuE, slIndexByte_v, indexByte_v, indexRune_v, containsRune_v, classOf_v, isWordByte_v, letter_v, digit_v, wordAt_v, rword_v, isName_v, risName_v, recId_v, authId_v, rId13_v, rId27_v, moneyCur_v, authCur_v, rCur27_v, rCur01_v, isPart_v, authCheck_v, inTotal_v, rwithin1_v, exCard_v, recCheck_v, rrecCheck_v, within27_v, rauthCheck_v, fundsA_v, settledA_v, state27A_v, authOpen_v, rauthOpen_v, authUsable_v, rauthUsable_v, authClear_v, rauthClear_v, tolValid_v, rtolValid_v, allowed_v, rallowed_v, checkPres_v, rable_v, apply_v, rapply_v, hlt, look_app hnb', we]
      refine LoopA.weak (ih (e + 1) v' B' (dn ++ [a.id]) (by rw [h2]; simp only [opens, hp, if_true, List.append_assoc, List.cons_append, List.nil_append]) (by simpa using ho') hnb' h3' (by simp; omega)) (by simp only [subE, get_cons, Nat.reduceEqDiff, ↓reduceIte, reduceCtorEq, Nat.reduceAdd, and_self, and_true]) (SubA.app ?_)
      exact SubE.sub (by simp (maxDischargeDepth := 16) only [argE_nil, argE_cons, ↓vmD, vmV, vmStd, Nat.reduceMul, ↓reduceIte, Nat.reduceAdd, Nat.reduceSub, Nat.reduceEqDiff, Nat.reduceLT, Nat.reduceLeDiff, reduceCtorEq, Int.reduceToNat, Int.reduceLT, Int.reduceLE, Int.reduceEq, Int.reduceNeg, Int.reduceBEq, Int.reduceBNe, String.reduceEq, forall_const, ↓vmDA, vmVA, ↓vmQA, vmR, vmRA, ↓vmSA, vmSV, tyS, nuE, slIndexByte_v, indexByte_v, indexRune_v, containsRune_v, classOf_v, isWordByte_v, letter_v, digit_v, wordAt_v, rword_v, isName_v, risName_v, recId_v, authId_v, rId13_v, rId27_v, moneyCur_v, authCur_v, rCur27_v, rCur01_v, isPart_v, authCheck_v, inTotal_v, rwithin1_v, exCard_v, recCheck_v, rrecCheck_v, within27_v, rauthCheck_v, fundsA_v, settledA_v, state27A_v, authOpen_v, rauthOpen_v, authUsable_v, rauthUsable_v, authClear_v, rauthClear_v, tolValid_v, rtolValid_v, allowed_v, rallowed_v, checkPres_v, rable_v, apply_v, rapply_v, look_app hnb, nuE0])
    · have hp' := hp
      unfold openA at hp'
      simp (maxDischargeDepth := 16) only [argE_nil, argE_cons, ↓vmD, vmV, vmStd, Nat.reduceMul, ↓reduceIte, Nat.reduceAdd, Nat.reduceSub, Nat.reduceEqDiff, Nat.reduceLT, Nat.reduceLeDiff, reduceCtorEq, Int.reduceToNat, Int.reduceLT, Int.reduceLE, Int.reduceEq, Int.reduceNeg, Int.reduceBEq, Int.reduceBNe, String.reduceEq, forall_const, ↓vmDA, vmVA, ↓vmQA, vmR, vmRA, ↓vmSA, vmSV, tyS, nuE, slIndexByte_v, indexByte_v, indexRune_v, containsRune_v, classOf_v, isWordByte_v, letter_v, digit_v, wordAt_v, rword_v, isName_v, risName_v, recId_v, authId_v, rId13_v, rId27_v, moneyCur_v, authCur_v, rCur27_v, rCur01_v, isPart_v, authCheck_v, inTotal_v, rwithin1_v, exCard_v, recCheck_v, rrecCheck_v, within27_v, rauthCheck_v, fundsA_v, settledA_v, state27A_v, authOpen_v, rauthOpen_v, authUsable_v, rauthUsable_v, authClear_v, rauthClear_v, tolValid_v, rtolValid_v, allowed_v, rallowed_v, checkPres_v, rable_v, apply_v, rapply_v, hlt, look_app hnb, hr, hc, au_agg, hza, hp', we]
      exact LoopA.weak (ih (e + 1) v B dn (by rw [h2]; simp only [opens, hp, if_false]) ho hnb h3' (by omega)) (by simp only [subE, get_cons, Nat.reduceEqDiff, ↓reduceIte, reduceCtorEq, Nat.reduceAdd, and_self, and_true]) (SubA.skip (look_app_none (hfB 0) (by simp (maxDischargeDepth := 16) only [argE_nil, argE_cons, ↓vmD, vmV, vmStd, Nat.reduceMul, ↓reduceIte, Nat.reduceAdd, Nat.reduceSub, Nat.reduceEqDiff, Nat.reduceLT, Nat.reduceLeDiff, reduceCtorEq, Int.reduceToNat, Int.reduceLT, Int.reduceLE, Int.reduceEq, Int.reduceNeg, Int.reduceBEq, Int.reduceBNe, String.reduceEq, forall_const, ↓vmDA, vmVA, ↓vmQA, vmR, vmRA, ↓vmSA, vmSV, tyS, nuE, slIndexByte_v, indexByte_v, indexRune_v, containsRune_v, classOf_v, isWordByte_v, letter_v, digit_v, wordAt_v, rword_v, isName_v, risName_v, recId_v, authId_v, rId13_v, rId27_v, moneyCur_v, authCur_v, rCur27_v, rCur01_v, isPart_v, authCheck_v, inTotal_v, rwithin1_v, exCard_v, recCheck_v, rrecCheck_v, within27_v, rauthCheck_v, fundsA_v, settledA_v, state27A_v, authOpen_v, rauthOpen_v, authUsable_v, rauthUsable_v, authClear_v, rauthClear_v, tolValid_v, rtolValid_v, allowed_v, rallowed_v, checkPres_v, rable_v, apply_v, rapply_v])) (SubA.refl _))

theorem runmatched_h (L : List Au) (b cap : Nat) (cs : Array Value) (hrd : ∀ i a, L[i]? = some a → rdCS (some (.cells cs 23)) (i * 10) 10 = some (Au.cells a).toArray) (hL : L.length ≤ 1000000) (hz : ∀ a ∈ L, a.id.size ≤ 100000 ∧ a.cu.size ≤ 100000) : CallA Try.prog 24 #[.slice (some ⟨b, 0, none⟩) L.length cap] [(b, .cells cs 23)] (fun u_ A_ => ∃ B, OwnA 9 1 u_ B (opens L).length ((opens L).map .string) ∧ (Vm.look A_ b = some (.cells cs 23) ∧ SubA B A_ ∧ Vm.look B b = none)) := by
  refine callA_of_denA ⟨Try.prog, 24, Try.f24, 26, [0, 2, 3, 4], [], [], _⟩ (args := [_]) Try.func24 rfl (by kernel_rfl) Try.ntmps24 (by simp) (by kernel_rfl) ?_
  intro ν fr; have nuE := And.intro (fr.mem (b := b) (by simp)) (fr.nu)
  simp (maxDischargeDepth := 16) only [argE_nil, argE_cons, ↓vmD, vmV, vmStd, Nat.reduceMul, ↓reduceIte, Nat.reduceAdd, Nat.reduceSub, Nat.reduceEqDiff, Nat.reduceLT, Nat.reduceLeDiff, reduceCtorEq, Int.reduceToNat, Int.reduceLT, Int.reduceLE, Int.reduceEq, Int.reduceNeg, Int.reduceBEq, Int.reduceBNe, String.reduceEq, forall_const, ↓vmDA, vmVA, ↓vmQA, vmR, vmRA, ↓vmSA, vmSV, tyS, nuE, slIndexByte_v, indexByte_v, indexRune_v, containsRune_v, classOf_v, isWordByte_v, letter_v, digit_v, wordAt_v, rword_v, isName_v, risName_v, recId_v, authId_v, rId13_v, rId27_v, moneyCur_v, authCur_v, rCur27_v, rCur01_v, isPart_v, authCheck_v, inTotal_v, rwithin1_v, exCard_v, recCheck_v, rrecCheck_v, within27_v, rauthCheck_v, fundsA_v, settledA_v, state27A_v, authOpen_v, rauthOpen_v, authUsable_v, rauthUsable_v, authClear_v, rauthClear_v, tolValid_v, rtolValid_v, allowed_v, rallowed_v, checkPres_v, rable_v, apply_v, rapply_v]
  obtain ⟨e, l, v, B, dn, he, hv, hB, h2, ho, hnb, h3⟩ : ∃ (e : Nat) (l : List Au) (v : Value) (B : AH) (dn : List ByteArray), e = 0 ∧ v = .slice none 0 0 ∧ B = [] ∧ opens L = dn ++ opens l ∧ OwnA 9 1 v B dn.length (dn.map .string) ∧ Vm.look B b = none ∧ l = L.drop e := ⟨0, L, _, [], [], rfl, rfl, rfl, rfl, OwnA.nil _ _, rfl, by simp⟩
  have hdn : dn.length ≤ e := by
    have : dn = [] := by
      have := ho.1
      simp at this
      rcases ho.2 with ⟨_, _, h⟩ | ⟨g, c, cu, h, _⟩
      · exact List.eq_nil_of_length_eq_zero h
      · rw [hv] at h; cases h
    rw [this]; simp
  rw [show (4, some (Value.int .i64 0)) = (4, some (Value.int .i64 (e : Int))) by rw [he]; rfl]
  rw [show (3, some (Value.slice none 0 0)) = (3, some v) by rw [hv]]
  rw [show [(b, Obj.cells cs 23)] = B ++ [(b, Obj.cells cs 23)] by rw [hB]; rfl]
  clear he hv hB nuE fr
  induction l generalizing e v B dn with
  | nil =>
    have hle : L.length ≤ e := by
      rcases Nat.lt_or_ge e L.length with h | h
      · rw [List.drop_eq_getElem_cons h] at h3; cases h3
      · exact h
    have hlt : ((e : Int) < (L.length : Int)) = False := by simp; omega
    refine LoopA.intro (by kernel_rfl) ?_
    intro ν fr; have nuE := And.intro (fr.mem (b := b) (by simp)) (fr.nu)
    simp (maxDischargeDepth := 16) only [argE_nil, argE_cons, ↓vmD, vmV, vmStd, Nat.reduceMul, ↓reduceIte, Nat.reduceAdd, Nat.reduceSub, Nat.reduceEqDiff, Nat.reduceLT, Nat.reduceLeDiff, reduceCtorEq, Int.reduceToNat, Int.reduceLT, Int.reduceLE, Int.reduceEq, Int.reduceNeg, Int.reduceBEq, Int.reduceBNe, String.reduceEq, forall_const, ↓vmDA, vmVA, ↓vmQA, vmR, vmRA, ↓vmSA, vmSV, tyS, nuE, slIndexByte_v, indexByte_v, indexRune_v, containsRune_v, classOf_v, isWordByte_v, letter_v, digit_v, wordAt_v, rword_v, isName_v, risName_v, recId_v, authId_v, rId13_v, rId27_v, moneyCur_v, authCur_v, rCur27_v, rCur01_v, isPart_v, authCheck_v, inTotal_v, rwithin1_v, exCard_v, recCheck_v, rrecCheck_v, within27_v, rauthCheck_v, fundsA_v, settledA_v, state27A_v, authOpen_v, rauthOpen_v, authUsable_v, rauthUsable_v, authClear_v, rauthClear_v, tolValid_v, rtolValid_v, allowed_v, rallowed_v, checkPres_v, rable_v, apply_v, rapply_v, hlt, h2, look_app hnb, opens, List.append_nil]
    exact ⟨B, ho, SubA.left _ _, hnb⟩
  | cons a l ih =>
    have ha : L[e]? = some a := by
      have := congrArg (fun x => x[0]?) h3
      simpa using this.symm
    have hl2 : e < L.length := (List.getElem?_eq_some_iff.1 ha).1
    have hlt : ((e : Int) < (L.length : Int)) = True := by simp; omega
    have we : IntKind.i64.wrap ((e : Int) + 1) = ((e + 1 : Nat) : Int) := by rw [w_i64 (by omega) (by omega)]; omega
    have h3' : l = L.drop (e + 1) := by
      have := congrArg (fun x => x.drop 1) h3
      simpa [List.drop_drop, Nat.add_comm] using this
    have hr := hrd e a ha
    have hza := hz a (List.mem_of_getElem? ha)
    have hc : cs[e * 10]? = some (.string a.id) := rd_get hr (j := 0) rfl (by omega)
    refine LoopA.intro (by kernel_rfl) ?_
    intro ν fr; have nuE := And.intro (fr.mem (b := b) (by simp)) (fr.nu)
    have hfB := fr.app
    by_cases hp : 0 < openA a
    · have hp' := hp
      unfold openA at hp'
      simp (maxDischargeDepth := 16) only [argE_nil, argE_cons, ↓vmD, vmV, vmStd, Nat.reduceMul, ↓reduceIte, Nat.reduceAdd, Nat.reduceSub, Nat.reduceEqDiff, Nat.reduceLT, Nat.reduceLeDiff, reduceCtorEq, Int.reduceToNat, Int.reduceLT, Int.reduceLE, Int.reduceEq, Int.reduceNeg, Int.reduceBEq, Int.reduceBNe, String.reduceEq, forall_const, ↓vmDA, vmVA, ↓vmQA, vmR, vmRA, ↓vmSA, vmSV, tyS, nuE, slIndexByte_v, indexByte_v, indexRune_v, containsRune_v, classOf_v, isWordByte_v, letter_v, digit_v, wordAt_v, rword_v, isName_v, risName_v, recId_v, authId_v, rId13_v, rId27_v, moneyCur_v, authCur_v, rCur27_v, rCur01_v, isPart_v, authCheck_v, inTotal_v, rwithin1_v, exCard_v, recCheck_v, rrecCheck_v, within27_v, rauthCheck_v, fundsA_v, settledA_v, state27A_v, authOpen_v, rauthOpen_v, authUsable_v, rauthUsable_v, authClear_v, rauthClear_v, tolValid_v, rtolValid_v, allowed_v, rallowed_v, checkPres_v, rable_v, apply_v, rapply_v, hlt, look_app hnb, hr, hc, au_agg, hza, hp', we, sc_str]
      refine append_own (m := 1) (news := [.string a.id]) slc63 zro9 rfl (by decide) ho (SubA.skip (hfB 0) (SubA.left _ _)) (by simp (maxDischargeDepth := 16) only [argE_nil, argE_cons, ↓vmD, vmV, vmStd, Nat.reduceMul, ↓reduceIte, Nat.reduceAdd, Nat.reduceSub, Nat.reduceEqDiff, Nat.reduceLT, Nat.reduceLeDiff, reduceCtorEq, Int.reduceToNat, Int.reduceLT, Int.reduceLE, Int.reduceEq, Int.reduceNeg, Int.reduceBEq, Int.reduceBNe, String.reduceEq, forall_const, ↓vmDA, vmVA, ↓vmQA, vmR, vmRA, ↓vmSA, vmSV, tyS, nuE, slIndexByte_v, indexByte_v, indexRune_v, containsRune_v, classOf_v, isWordByte_v, letter_v, digit_v, wordAt_v, rword_v, isName_v, risName_v, recId_v, authId_v, rId13_v, rId27_v, moneyCur_v, authCur_v, rCur27_v, rCur01_v, isPart_v, authCheck_v, inTotal_v, rwithin1_v, exCard_v, recCheck_v, rrecCheck_v, within27_v, rauthCheck_v, fundsA_v, settledA_v, state27A_v, authOpen_v, rauthOpen_v, authUsable_v, rauthUsable_v, authClear_v, rauthClear_v, tolValid_v, rtolValid_v, allowed_v, rallowed_v, checkPres_v, rable_v, apply_v, rapply_v]) (by simp [Value.oneCell']) (by simp [maxLen]; omega) (by omega) ?_
      intro v' B' ho' hb'
      intro ν' fr'
      have hnb' : Vm.look B' b = none := own_disj hb' hnb (by simp (maxDischargeDepth := 16) only [argE_nil, argE_cons, ↓vmD, vmV, vmStd, Nat.reduceMul, ↓reduceIte, Nat.reduceAdd, Nat.reduceSub, Nat.reduceEqDiff, Nat.reduceLT, Nat.reduceLeDiff, reduceCtorEq, Int.reduceToNat, Int.reduceLT, Int.reduceLE, Int.reduceEq, Int.reduceNeg, Int.reduceBEq, Int.reduceBNe, String.reduceEq, forall_const, ↓vmDA, vmVA, ↓vmQA, vmR, vmRA, ↓vmSA, vmSV, tyS, nuE, slIndexByte_v, indexByte_v, indexRune_v, containsRune_v, classOf_v, isWordByte_v, letter_v, digit_v, wordAt_v, rword_v, isName_v, risName_v, recId_v, authId_v, rId13_v, rId27_v, moneyCur_v, authCur_v, rCur27_v, rCur01_v, isPart_v, authCheck_v, inTotal_v, rwithin1_v, exCard_v, recCheck_v, rrecCheck_v, within27_v, rauthCheck_v, fundsA_v, settledA_v, state27A_v, authOpen_v, rauthOpen_v, authUsable_v, rauthUsable_v, authClear_v, rauthClear_v, tolValid_v, rtolValid_v, allowed_v, rallowed_v, checkPres_v, rable_v, apply_v, rapply_v, look_app hnb])
      have nuE0 := nuE
      have nuE := And.intro (fr'.mem (b := b) (by simp)) fr'.nu
      simp (maxDischargeDepth := 16) only [argE_nil, argE_cons, ↓vmD, vmV, vmStd, Nat.reduceMul, ↓reduceIte, Nat.reduceAdd, Nat.reduceSub, Nat.reduceEqDiff, Nat.reduceLT, Nat.reduceLeDiff, reduceCtorEq, Int.reduceToNat, Int.reduceLT, Int.reduceLE, Int.reduceEq, Int.reduceNeg, Int.reduceBEq, Int.reduceBNe, String.reduceEq, forall_const, ↓vmDA, vmVA, ↓vmQA, vmR, vmRA, ↓vmSA, vmSV, tyS, nuE, slIndexByte_v, indexByte_v, indexRune_v, containsRune_v, classOf_v, isWordByte_v, letter_v, digit_v, wordAt_v, rword_v, isName_v, risName_v, recId_v, authId_v, rId13_v, rId27_v, moneyCur_v, authCur_v, rCur27_v, rCur01_v, isPart_v, authCheck_v, inTotal_v, rwithin1_v, exCard_v, recCheck_v, rrecCheck_v, within27_v, rauthCheck_v, fundsA_v, settledA_v, state27A_v, authOpen_v, rauthOpen_v, authUsable_v, rauthUsable_v, authClear_v, rauthClear_v, tolValid_v, rtolValid_v, allowed_v, rallowed_v, checkPres_v, rable_v, apply_v, rapply_v, hlt, look_app hnb', we]
      refine LoopA.weak (ih (e + 1) v' B' (dn ++ [a.id]) (by rw [h2]; simp only [opens, hp, if_true, List.append_assoc, List.cons_append, List.nil_append]) (by simpa using ho') hnb' h3' (by simp; omega)) (by simp only [subE, get_cons, Nat.reduceEqDiff, ↓reduceIte, reduceCtorEq, Nat.reduceAdd, and_self, and_true]) (SubA.app ?_)
      exact SubE.sub (by simp (maxDischargeDepth := 16) only [argE_nil, argE_cons, ↓vmD, vmV, vmStd, Nat.reduceMul, ↓reduceIte, Nat.reduceAdd, Nat.reduceSub, Nat.reduceEqDiff, Nat.reduceLT, Nat.reduceLeDiff, reduceCtorEq, Int.reduceToNat, Int.reduceLT, Int.reduceLE, Int.reduceEq, Int.reduceNeg, Int.reduceBEq, Int.reduceBNe, String.reduceEq, forall_const, ↓vmDA, vmVA, ↓vmQA, vmR, vmRA, ↓vmSA, vmSV, tyS, nuE, slIndexByte_v, indexByte_v, indexRune_v, containsRune_v, classOf_v, isWordByte_v, letter_v, digit_v, wordAt_v, rword_v, isName_v, risName_v, recId_v, authId_v, rId13_v, rId27_v, moneyCur_v, authCur_v, rCur27_v, rCur01_v, isPart_v, authCheck_v, inTotal_v, rwithin1_v, exCard_v, recCheck_v, rrecCheck_v, within27_v, rauthCheck_v, fundsA_v, settledA_v, state27A_v, authOpen_v, rauthOpen_v, authUsable_v, rauthUsable_v, authClear_v, rauthClear_v, tolValid_v, rtolValid_v, allowed_v, rallowed_v, checkPres_v, rable_v, apply_v, rapply_v, look_app hnb, nuE0])
    · have hp' := hp
      unfold openA at hp'
      simp (maxDischargeDepth := 16) only [argE_nil, argE_cons, ↓vmD, vmV, vmStd, Nat.reduceMul, ↓reduceIte, Nat.reduceAdd, Nat.reduceSub, Nat.reduceEqDiff, Nat.reduceLT, Nat.reduceLeDiff, reduceCtorEq, Int.reduceToNat, Int.reduceLT, Int.reduceLE, Int.reduceEq, Int.reduceNeg, Int.reduceBEq, Int.reduceBNe, String.reduceEq, forall_const, ↓vmDA, vmVA, ↓vmQA, vmR, vmRA, ↓vmSA, vmSV, tyS, nuE, slIndexByte_v, indexByte_v, indexRune_v, containsRune_v, classOf_v, isWordByte_v, letter_v, digit_v, wordAt_v, rword_v, isName_v, risName_v, recId_v, authId_v, rId13_v, rId27_v, moneyCur_v, authCur_v, rCur27_v, rCur01_v, isPart_v, authCheck_v, inTotal_v, rwithin1_v, exCard_v, recCheck_v, rrecCheck_v, within27_v, rauthCheck_v, fundsA_v, settledA_v, state27A_v, authOpen_v, rauthOpen_v, authUsable_v, rauthUsable_v, authClear_v, rauthClear_v, tolValid_v, rtolValid_v, allowed_v, rallowed_v, checkPres_v, rable_v, apply_v, rapply_v, hlt, look_app hnb, hr, hc, au_agg, hza, hp', we]
      exact LoopA.weak (ih (e + 1) v B dn (by rw [h2]; simp only [opens, hp, if_false]) ho hnb h3' (by omega)) (by simp only [subE, get_cons, Nat.reduceEqDiff, ↓reduceIte, reduceCtorEq, Nat.reduceAdd, and_self, and_true]) (SubA.refl _)

end Go.Proofs.Ythahheeahdhepaa
