/-
Matching: one record applied to the authorizations.
Conditions: none.
-/
import Derived.Test.YthahheeahdhepaaRg
import Derived.Test.YthahheeahdhepaaApp
namespace Go.Proofs.Ythahheeahdhepaa
open Go.Vm
set_option linter.unusedSimpArgs false
set_option linter.unusedVariables false
set_option maxHeartbeats 2000000
set_option maxRecDepth 20000
structure Rc where
  kd : Int
  rid : ByteArray
  rau : ByteArray
  aq : ByteArray
  is : ByteArray
  me : ByteArray
  ca : ByteArray
  am : Int
  rcu : ByteArray
  da : Int
  ct : Int
  fi : Bool
def Rc.cells (r : Rc) : List Value := [.int .i64 r.kd, .string r.rid, .string r.rau, .string r.aq, .string r.is, .string r.me, .string r.ca, .int .i64 r.am, .string r.rcu, .int .i64 r.da, .int .i64 r.ct, .bool r.fi]
theorem rc_agg (r : Rc) : Value.agg (Rc.cells r).toArray = .agg #[.int .i64 r.kd, .string r.rid, .string r.rau, .string r.aq, .string r.is, .string r.me, .string r.ca, .int .i64 r.am, .string r.rcu, .int .i64 r.da, .int .i64 r.ct, .bool r.fi] := rfl
theorem rc_len (r : Rc) : (Rc.cells r).length = 12 := rfl
theorem au_len (a : Au) : (Au.cells a).length = 10 := rfl
def szR (r : Rc) : Prop := r.rid.size ≤ 100000 ∧ r.rau.size ≤ 100000 ∧ r.aq.size ≤ 100000 ∧ r.is.size ≤ 100000 ∧ r.me.size ≤ 100000 ∧ r.ca.size ≤ 100000 ∧ r.rcu.size ≤ 100000
def szL (L : List Au) : Prop := ∀ a ∈ L, a.id.size ≤ 100000 ∧ a.cu.size ≤ 100000
def chkQ (r : Rc) : Int := chkRG r.kd r.rid r.rau r.aq r.is r.me r.ca r.am r.rcu r.da r.ct
def matQ (L : List Au) (r : Rc) (tb tf : Int) : Int × Int := matI L r.kd r.rid r.rau r.aq r.is r.me r.ca r.am r.rcu r.da r.ct r.fi tb tf
/-- The authorization behind a presentment. -/
def aftA (a : Au) (r : Rc) : Au := ⟨a.id, a.cu, a.ap, a.rv + relG (a.ap - a.rv - a.cl - a.ex) r.am r.fi, a.cl + min r.am (a.ap - a.rv - a.cl - a.ex), a.ex, stF (a.ap - a.rv - a.cl - a.ex - min r.am (a.ap - a.rv - a.cl - a.ex) - relG (a.ap - a.rv - a.cl - a.ex) r.am r.fi) a.ex (a.cl + min r.am (a.ap - a.rv - a.cl - a.ex)), a.atT, a.un, a.pa + 1⟩
def procE (L : List Au) (r : Rc) (tb tf : Int) : Int := if chkQ r ≠ 0 then chkQ r else if r.kd ≠ 1 then 0 else (matQ L r tb tf).2
def procL (L : List Au) (r : Rc) (tb tf : Int) : List Au := if chkQ r ≠ 0 then L else if r.kd ≠ 1 then L else if (matQ L r tb tf).2 ≠ 0 then L else match findF r.rau.toList L 0 with
  | some p => L.set p.1 (aftA p.2 r)
  | none => L
theorem procL_len (L : List Au) (r : Rc) (tb tf : Int) : (procL L r tb tf).length = L.length := by
  unfold procL
  repeat' split
  all_goals simp
theorem procL_sz {L : List Au} {r : Rc} {tb tf : Int} (h : szL L) : szL (procL L r tb tf) := by
  unfold procL
  repeat' split
  all_goals first | exact h | skip
  rename_i p hf
  obtain ⟨i, a⟩ := p
  obtain ⟨h3, _⟩ := findF_mem hf
  intro x hx
  rcases List.mem_or_eq_of_mem_set hx with hx | rfl
  · exact h x hx
  · exact h a (List.mem_of_getElem? h3)
/-- What a match means. -/
theorem mat_ok {L : List Au} {r : Rc} {tb tf : Int} (h : (matQ L r tb tf).2 = 0) : ∃ i a, findF r.rau.toList L 0 = some (i, a) ∧ L[i]? = some a ∧ matQ L r tb tf = ((i : Int), 0) ∧ appEA a r.kd r.rid r.rau r.aq r.is r.me r.ca r.am r.rcu r.da r.ct r.fi tb tf = 0 ∧ a.id.toList = r.rau.toList := by
  unfold matQ matI at h ⊢
  split at h
  · rename_i q; exact absurd h q
  · rename_i q
    rw [if_neg q]
    split at h
    · cases h
    · rename_i q1
      rw [if_neg q1]
      split at h
      · cases h
      · rename_i p hf
        obtain ⟨i, a⟩ := p
        obtain ⟨h3, h4⟩ := findF_mem hf
        split at h
        · rename_i q2; exact absurd h q2
        · rename_i q2
          have q2' : appEA a r.kd r.rid r.rau r.aq r.is r.me r.ca r.am r.rcu r.da r.ct r.fi tb tf = 0 := by simpa using q2
          exact ⟨i, a, hf, h3, by simp [q2'], q2', h4⟩
theorem au_one (a : Au) : okCells (Au.cells a) = true := by simp [Au.cells, okCells, Value.oneCell']
theorem processC_h (B : AH) (v : Value) (L : List Au) (ho : OwnL Au.cells 10 23 v B L) (hl : L.length ≤ 1000000) (r : Rc) (tb tf : Int) (hz : szL L) (hs : szR r) : CallA Try.prog 42 #[v, .agg #[.int .i64 r.kd, .string r.rid, .string r.rau, .string r.aq, .string r.is, .string r.me, .string r.ca, .int .i64 r.am, .string r.rcu, .int .i64 r.da, .int .i64 r.ct, .bool r.fi], .agg #[.int .i64 tb, .int .i64 tf]] B (fun u_ A_ => u_ = .int .i64 (procE L r tb tf) ∧ ∃ B', OwnL Au.cells 10 23 v B' (procL L r tb tf) ∧ SubA B' A_ ∧ ∀ b, Vm.look B' b = none ↔ Vm.look B b = none) := by
  refine callA_of_denA ⟨Try.prog, 42, Try.f42, 47, [0, 1, 2, 4, 5, 6, 7, 8, 9, 10], [], [(9, .p [(0, 0), (1, 0), (2, 0), (3, 0), (4, 0), (5, 0), (6, 0), (7, 0), (8, 0), (9, 0), (10, 1), (11, 2), (12, 0)])], _⟩ (args := [_, _, _]) Try.func42 rfl (by kernel_rfl) Try.ntmps42 (by simp) (by kernel_rfl) ?_
  intro ν fr; have nuE := fr.nu
  obtain ⟨p, cap, rfl, hcap, hL⟩ := ho.read au_len
  obtain ⟨z1, z2, z3, z4, z5, z6, z7⟩ := hs
  have up : SubA B ((ν 1, .cells #[.int .i64 tb, .int .i64 tf] 29) :: (ν 0, .cells #[.int .i64 r.kd, .string r.rid, .string r.rau, .string r.aq, .string r.is, .string r.me, .string r.ca, .int .i64 r.am, .string r.rcu, .int .i64 r.da, .int .i64 r.ct, .bool r.fi] 27) :: B) := SubA.skip (fr.2 1) (SubA.skip (fr.2 0) (SubA.refl _))
  have mt := mtchR_v _ L p cap (hL.mono up) hl r.kd r.rid r.rau r.aq r.is r.me r.ca r.am r.rcu r.da r.ct r.fi tb tf z1 z2 z3 z4 z5 z6 z7 hz
  by_cases q0 : chkQ r = 0
  · have q0' := q0
    unfold chkQ at q0'
    by_cases q1 : r.kd = 1
    · have k1 : (r.kd != 1) = false := by simp [q1]
      have mv : matV L r.kd r.rid r.rau r.aq r.is r.me r.ca r.am r.rcu r.da r.ct r.fi tb tf = .tuple #[.int .i64 (matQ L r tb tf).1, .int .i64 (matQ L r tb tf).2] := rfl
      by_cases q2 : (matQ L r tb tf).2 = 0
      · obtain ⟨i, a, hf, hi, hm, hap, hk⟩ := mat_ok q2
        have hne : L ≠ [] := by intro h; rw [h] at hi; cases hi
        obtain ⟨g, cap2, cur, hv, rfl, h3, h4, h5, h6⟩ := ho.blk hne
        cases hv
        have hlt : i < L.length := (List.getElem?_eq_some_iff.1 hi).1
        obtain ⟨b, off, cs, ty, fr0, hp, hb, hc, _⟩ := hL.at hi
        cases hp
        simp only [Vm.look, if_true, Option.some.injEq, Obj.cells.injEq] at hb
        obtain ⟨rfl, rfl, rfl⟩ := hb
        obtain ⟨ho2, hle⟩ := ho.set au_len hlt (aftA a r)
        have hza := hz a (List.mem_of_getElem? hi)
        have ap := apply_v a.id a.cu a.ap a.rv a.cl a.ex a.st a.atT a.un a.pa r.kd r.rid r.rau r.aq r.is r.me r.ca r.am r.rcu r.da r.ct r.fi tb tf hza.1 hza.2 z1 z2 z3 z4 z5 z6 z7
        have ap0 := hap
        unfold appEA at ap0
        have ng := fr.ne (b := g) (by simp [Vm.look])
        have hlt' : ((i : Int) < (L.length : Int)) = True := by simp; exact hlt
        have hle2 : i * 10 + 10 ≤ cur.size := hle
        simp only [Nat.zero_add] at hc
        simp (maxDischargeDepth := 16) only [argE_nil, argE_cons, ↓vmD, vmV, vmStd, Nat.reduceMul, ↓reduceIte, Nat.reduceAdd, Nat.reduceSub, Nat.reduceEqDiff, Nat.reduceLT, Nat.reduceLeDiff, reduceCtorEq, Int.reduceToNat, Int.reduceLT, Int.reduceLE, Int.reduceEq, Int.reduceNeg, Int.reduceBEq, Int.reduceBNe, String.reduceEq, forall_const, ↓vmDA, vmVA, ↓vmQA, vmR, vmRA, ↓vmSA, vmSV, tyS, nuE, slIndexByte_v, indexByte_v, indexRune_v, containsRune_v, classOf_v, isWordByte_v, letter_v, digit_v, wordAt_v, rword_v, isName_v, risName_v, recId_v, authId_v, rId13_v, rId27_v, moneyCur_v, authCur_v, rCur27_v, rCur01_v, isPart_v, authCheck_v, inTotal_v, rwithin1_v, exCard_v, recCheck_v, rrecCheck_v, within27_v, rauthCheck_v, fundsA_v, settledA_v, state27A_v, authOpen_v, rauthOpen_v, authUsable_v, rauthUsable_v, authClear_v, rauthClear_v, tolValid_v, rtolValid_v, allowed_v, rallowed_v, checkPres_v, rable_v, apply_v, rapply_v, present_v, awake_v, short35_v, short32_v, applies_v, z1, z2, z3, z4, z5, z6, z7, q0', k1, mt, mv, hm, ng, hlt, hlt', hc, au_agg, ap, appV, ap0, appO, Nat.zero_add, hle2]
        have e1 : procE L r tb tf = 0 := by unfold procE; rw [if_neg (by simpa using q0), if_neg (by simpa using q1)]; exact q2
        have e2 : procL L r tb tf = L.set i (aftA a r) := by unfold procL; rw [if_neg (by simpa using q0), if_neg (by simpa using q1), if_neg (by simpa using q2), hf]
        rw [e1, e2]
        refine ⟨rfl, _, ho2, ?_, ?_⟩
        · refine SubE.sub ⟨?_, trivial⟩
          simp (maxDischargeDepth := 16) only [argE_nil, argE_cons, ↓vmD, vmV, vmStd, Nat.reduceMul, ↓reduceIte, Nat.reduceAdd, Nat.reduceSub, Nat.reduceEqDiff, Nat.reduceLT, Nat.reduceLeDiff, reduceCtorEq, Int.reduceToNat, Int.reduceLT, Int.reduceLE, Int.reduceEq, Int.reduceNeg, Int.reduceBEq, Int.reduceBNe, String.reduceEq, forall_const, ↓vmDA, vmVA, ↓vmQA, vmR, vmRA, ↓vmSA, vmSV, tyS, nuE, slIndexByte_v, indexByte_v, indexRune_v, containsRune_v, classOf_v, isWordByte_v, letter_v, digit_v, wordAt_v, rword_v, isName_v, risName_v, recId_v, authId_v, rId13_v, rId27_v, moneyCur_v, authCur_v, rCur27_v, rCur01_v, isPart_v, authCheck_v, inTotal_v, rwithin1_v, exCard_v, recCheck_v, rrecCheck_v, within27_v, rauthCheck_v, fundsA_v, settledA_v, state27A_v, authOpen_v, rauthOpen_v, authUsable_v, rauthUsable_v, authClear_v, rauthClear_v, tolValid_v, rtolValid_v, allowed_v, rallowed_v, checkPres_v, rable_v, apply_v, rapply_v, present_v, awake_v, short35_v, short32_v, applies_v, ng]
          rfl
        · intro b
          simp only [Vm.look]
          split <;> simp
      · simp (maxDischargeDepth := 16) only [argE_nil, argE_cons, ↓vmD, vmV, vmStd, Nat.reduceMul, ↓reduceIte, Nat.reduceAdd, Nat.reduceSub, Nat.reduceEqDiff, Nat.reduceLT, Nat.reduceLeDiff, reduceCtorEq, Int.reduceToNat, Int.reduceLT, Int.reduceLE, Int.reduceEq, Int.reduceNeg, Int.reduceBEq, Int.reduceBNe, String.reduceEq, forall_const, ↓vmDA, vmVA, ↓vmQA, vmR, vmRA, ↓vmSA, vmSV, tyS, nuE, slIndexByte_v, indexByte_v, indexRune_v, containsRune_v, classOf_v, isWordByte_v, letter_v, digit_v, wordAt_v, rword_v, isName_v, risName_v, recId_v, authId_v, rId13_v, rId27_v, moneyCur_v, authCur_v, rCur27_v, rCur01_v, isPart_v, authCheck_v, inTotal_v, rwithin1_v, exCard_v, recCheck_v, rrecCheck_v, within27_v, rauthCheck_v, fundsA_v, settledA_v, state27A_v, authOpen_v, rauthOpen_v, authUsable_v, rauthUsable_v, authClear_v, rauthClear_v, tolValid_v, rtolValid_v, allowed_v, rallowed_v, checkPres_v, rable_v, apply_v, rapply_v, present_v, awake_v, short35_v, short32_v, applies_v, z1, z2, z3, z4, z5, z6, z7, q0', k1, mt, mv, q2]
        have e1 : procE L r tb tf = (matQ L r tb tf).2 := by unfold procE; rw [if_neg (by simpa using q0), if_neg (by simpa using q1)]
        have e2 : procL L r tb tf = L := by unfold procL; rw [if_neg (by simpa using q0), if_neg (by simpa using q1), if_pos q2]
        rw [e1, e2]
        exact ⟨rfl, B, ho, up, fun _ => Iff.rfl⟩
    · simp (maxDischargeDepth := 16) only [argE_nil, argE_cons, ↓vmD, vmV, vmStd, Nat.reduceMul, ↓reduceIte, Nat.reduceAdd, Nat.reduceSub, Nat.reduceEqDiff, Nat.reduceLT, Nat.reduceLeDiff, reduceCtorEq, Int.reduceToNat, Int.reduceLT, Int.reduceLE, Int.reduceEq, Int.reduceNeg, Int.reduceBEq, Int.reduceBNe, String.reduceEq, forall_const, ↓vmDA, vmVA, ↓vmQA, vmR, vmRA, ↓vmSA, vmSV, tyS, nuE, slIndexByte_v, indexByte_v, indexRune_v, containsRune_v, classOf_v, isWordByte_v, letter_v, digit_v, wordAt_v, rword_v, isName_v, risName_v, recId_v, authId_v, rId13_v, rId27_v, moneyCur_v, authCur_v, rCur27_v, rCur01_v, isPart_v, authCheck_v, inTotal_v, rwithin1_v, exCard_v, recCheck_v, rrecCheck_v, within27_v, rauthCheck_v, fundsA_v, settledA_v, state27A_v, authOpen_v, rauthOpen_v, authUsable_v, rauthUsable_v, authClear_v, rauthClear_v, tolValid_v, rtolValid_v, allowed_v, rallowed_v, checkPres_v, rable_v, apply_v, rapply_v, present_v, awake_v, short35_v, short32_v, applies_v, z1, z2, z3, z4, z5, z6, z7, q0', q1]
      have e1 : procE L r tb tf = 0 := by unfold procE; rw [if_neg (by simpa using q0), if_pos q1]
      have e2 : procL L r tb tf = L := by unfold procL; rw [if_neg (by simpa using q0), if_pos q1]
      rw [e1, e2]
      exact ⟨rfl, B, ho, up, fun _ => Iff.rfl⟩
  · have q0' := q0
    unfold chkQ at q0'
    simp (maxDischargeDepth := 16) only [argE_nil, argE_cons, ↓vmD, vmV, vmStd, Nat.reduceMul, ↓reduceIte, Nat.reduceAdd, Nat.reduceSub, Nat.reduceEqDiff, Nat.reduceLT, Nat.reduceLeDiff, reduceCtorEq, Int.reduceToNat, Int.reduceLT, Int.reduceLE, Int.reduceEq, Int.reduceNeg, Int.reduceBEq, Int.reduceBNe, String.reduceEq, forall_const, ↓vmDA, vmVA, ↓vmQA, vmR, vmRA, ↓vmSA, vmSV, tyS, nuE, slIndexByte_v, indexByte_v, indexRune_v, containsRune_v, classOf_v, isWordByte_v, letter_v, digit_v, wordAt_v, rword_v, isName_v, risName_v, recId_v, authId_v, rId13_v, rId27_v, moneyCur_v, authCur_v, rCur27_v, rCur01_v, isPart_v, authCheck_v, inTotal_v, rwithin1_v, exCard_v, recCheck_v, rrecCheck_v, within27_v, rauthCheck_v, fundsA_v, settledA_v, state27A_v, authOpen_v, rauthOpen_v, authUsable_v, rauthUsable_v, authClear_v, rauthClear_v, tolValid_v, rtolValid_v, allowed_v, rallowed_v, checkPres_v, rable_v, apply_v, rapply_v, present_v, awake_v, short35_v, short32_v, applies_v, z1, z2, z3, z4, z5, z6, z7, q0']
    have e1 : procE L r tb tf = chkQ r := if_pos q0
    have e2 : procL L r tb tf = L := if_pos q0
    rw [e1, e2]
    exact ⟨rfl, B, ho, up, fun _ => Iff.rfl⟩

end Go.Proofs.Ythahheeahdhepaa
