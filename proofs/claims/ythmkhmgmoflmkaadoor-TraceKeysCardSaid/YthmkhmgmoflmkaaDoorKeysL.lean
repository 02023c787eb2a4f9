/-
TraceKeys: the walk.
Conditions: none.
-/
import Derived.Test.YthmkhmgmoflmkaaDoorRefs
namespace Go.Proofs.YthmkhmgmoflmkaaDoor
open Go.Vm
set_option linter.unusedSimpArgs false
set_option linter.unusedVariables false
set_option maxHeartbeats 2000000
set_option maxRecDepth 20000
theorem key_reply {T : Nat} {L : List El} (h : T ≤ 9989) (h2 : T / 10 % 2 = 0) : keyV ((T + 10 : Nat) : Int) L = keyV (T : Int) L := by
  have e1 : keyV ((T + 10 : Nat) : Int) L = .string (keyS (T + 10) L) := by unfold keyV; rw [if_pos (by omega)]; rfl
  have e2 : keyV (T : Int) L = .string (keyS T L) := by unfold keyV; rw [if_pos (by omega)]; rfl
  have k1 : kindN (T + 10) = T := by unfold kindN; rw [if_pos (by omega)]; omega
  have k2 : kindN T = T := by unfold kindN; rw [if_neg (by omega)]
  rw [e1, e2]
  unfold keyS
  rw [k1, k2]
def keyB (T : Int) (L : List El) : ByteArray := if 0 ≤ T ∧ T ≤ 9999 then keyS T.toNat L else ⟨#[]⟩
theorem keyV_eq (T : Int) (L : List El) : keyV T L = .string (keyB T L) := by unfold keyV keyB; split <;> rfl
theorem keysLaw_h (A : AH) (hT : TabA A) (T : Int) (L : List El) (p : Option Addr) (cap : Nat) (hL : StR elC 2 A p L) : CallA Tryd.prog 3 #[.agg #[.int .i64 T, .slice p L.length cap]] A (fun u_ A_ => u_ = .bool true ∧ SubA A A_) := by
  refine callA_of_denA ⟨Tryd.prog, 3, Tryd.f3, 61, [0, 1, 2, 3, 4], [], [(8, .q false), (12, .q false)], _⟩ (args := [_]) Tryd.func3 rfl (by kernel_rfl) Tryd.ntmps3 (by simp) (by kernel_rfl) ?_
  intro ν fr; have nuE := fr.nu
  have aw := awake12_w A hT
  have f0 := fr.2 0
  by_cases hl : 130 < L.length
  · have h1 : ((130 : Int) < (L.length : Int)) = True := eq_true (by omega)
    simp (maxDischargeDepth := 16) only [argE_nil, argE_cons, ↓vmD, vmV, vmStd, Nat.reduceMul, ↓reduceIte, Nat.reduceAdd, Nat.reduceSub, Nat.reduceEqDiff, Nat.reduceLT, Nat.reduceLeDiff, reduceCtorEq, Int.reduceToNat, Int.reduceLT, Int.reduceLE, Int.reduceEq, Int.reduceNeg, Int.reduceBEq, Int.reduceBNe, String.reduceEq, forall_const, ↓vmDA, vmVA, ↓vmQA, vmR, vmRA, ↓vmSA, vmSV, tyS, nuE, SubA.skip, SubA.refl, fr.2, digits03_v, isDate03_v, rreference_v, valueOf_v, rvalue_v, split_v, rsplit_v, h1, aw]
  · have h1 : ((130 : Int) < (L.length : Int)) = False := eq_false (by omega)
    simp (maxDischargeDepth := 16) only [argE_nil, argE_cons, ↓vmD, vmV, vmStd, Nat.reduceMul, ↓reduceIte, Nat.reduceAdd, Nat.reduceSub, Nat.reduceEqDiff, Nat.reduceLT, Nat.reduceLeDiff, reduceCtorEq, Int.reduceToNat, Int.reduceLT, Int.reduceLE, Int.reduceEq, Int.reduceNeg, Int.reduceBEq, Int.reduceBNe, String.reduceEq, forall_const, ↓vmDA, vmVA, ↓vmQA, vmR, vmRA, ↓vmSA, vmSV, tyS, nuE, SubA.skip, SubA.refl, fr.2, digits03_v, isDate03_v, rreference_v, valueOf_v, rvalue_v, split_v, rsplit_v, h1]
    obtain ⟨n0, hn0⟩ : ∃ n0, n0 = ν 0 := ⟨_, rfl⟩
    rw [← hn0] at f0 ⊢
    obtain ⟨e, l, he, h2, h3⟩ : ∃ (e : Nat) (l : List El), e = 0 ∧ ((∀ x ∈ L.drop e, x.val.size ≤ 300) → ∀ x ∈ L, x.val.size ≤ 300) ∧ l = L.drop e := ⟨0, L, rfl, by simp, by simp⟩
    rw [show (3, some (Value.int .i64 0)) = (3, some (Value.int .i64 (e : Int))) by rw [he]; rfl]
    clear he nuE fr hn0
    induction l generalizing e with
    | cons a l ih =>
      obtain ⟨ha, hl2, h3'⟩ := drop_some h3
      have hlt : ((e : Int) < (L.length : Int)) = True := by simp; omega
      have we : IntKind.i64.wrap ((e : Int) + 1) = ((e + 1 : Nat) : Int) := by rw [w_i64 (by omega) (by omega)]; omega
      obtain ⟨b, off, cs, ty, fr0, rfl, hb, hc, hcc⟩ := hL.at ha
      have c1 : cs[off + e * 2 + 1]? = some (.string a.val) := by simpa using hcc 1 _ rfl
      have k0 := look_ne f0 hb
      refine LoopA.intro (by kernel_rfl) ?_
      intro ν fr; have nuE := And.intro (fr.mem (b := n0) (by simp)) (fr.nu)
      by_cases hz : 300 < a.val.size
      · have z1 : ((300 : Int) < (a.val.size : Int)) = True := eq_true (by omega)
        simp (maxDischargeDepth := 16) only [argE_nil, argE_cons, ↓vmD, vmV, vmStd, Nat.reduceMul, ↓reduceIte, Nat.reduceAdd, Nat.reduceSub, Nat.reduceEqDiff, Nat.reduceLT, Nat.reduceLeDiff, reduceCtorEq, Int.reduceToNat, Int.reduceLT, Int.reduceLE, Int.reduceEq, Int.reduceNeg, Int.reduceBEq, Int.reduceBNe, String.reduceEq, forall_const, ↓vmDA, vmVA, ↓vmQA, vmR, vmRA, ↓vmSA, vmSV, tyS, nuE, SubA.skip, SubA.refl, fr.2, digits03_v, isDate03_v, rreference_v, valueOf_v, rvalue_v, split_v, rsplit_v, f0, k0, hlt, hb, c1, z1, aw]
      · have z1 : ((300 : Int) < (a.val.size : Int)) = False := eq_false (by omega)
        simp (maxDischargeDepth := 16) only [argE_nil, argE_cons, ↓vmD, vmV, vmStd, Nat.reduceMul, ↓reduceIte, Nat.reduceAdd, Nat.reduceSub, Nat.reduceEqDiff, Nat.reduceLT, Nat.reduceLeDiff, reduceCtorEq, Int.reduceToNat, Int.reduceLT, Int.reduceLE, Int.reduceEq, Int.reduceNeg, Int.reduceBEq, Int.reduceBNe, String.reduceEq, forall_const, ↓vmDA, vmVA, ↓vmQA, vmR, vmRA, ↓vmSA, vmSV, tyS, nuE, SubA.skip, SubA.refl, fr.2, digits03_v, isDate03_v, rreference_v, valueOf_v, rvalue_v, split_v, rsplit_v, f0, k0, hlt, hb, c1, z1, we]
        have hst : (∀ x ∈ L.drop (e + 1), x.val.size ≤ 300) → ∀ x ∈ L, x.val.size ≤ 300 := fun h => h2 (by
          rw [← h3]
          intro x hx
          rcases List.mem_cons.1 hx with rfl | hx
          · omega
          · exact h x (h3' ▸ hx))
        exact LoopA.weak (ih (e + 1) hst h3') (by simp only [subE, get_cons, Nat.reduceEqDiff, ↓reduceIte, reduceCtorEq, Nat.reduceAdd, and_self, and_true]) (SubA.refl _)
    | nil =>
      have hle := drop_nil h3
      have hlt : ((e : Int) < (L.length : Int)) = False := by simp; omega
      have hz : ∀ x ∈ L, x.val.size ≤ 100000 := fun x hx => Nat.le_trans (h2 (by rw [← h3]; intro x hx; cases hx) x hx) (by decide)
      have km := fun T => keyM_w A hT T L p cap hL (by omega) hz
      have rk := fun T => rkeyM_w A T L p cap hL (by omega) hz
      simp only [keyV_eq] at km rk
      refine LoopA.intro (by kernel_rfl) ?_
      intro ν fr; have nuE := And.intro (fr.mem (b := n0) (by simp)) (fr.nu)
      by_cases q0 : 0 ≤ T
      · by_cases q1 : T ≤ 9989
        · obtain ⟨T, rfl⟩ := Int.eq_ofNat_of_zero_le q0
          have hT9 : T ≤ 9989 := by omega
          obtain ⟨k1, k2, _⟩ := kind_facts T (by omega)
          have z0 : ((0 : Int) ≤ (T : Int)) = True := eq_true q0
          have z1 : ((T : Int) ≤ 9989) = True := eq_true q1
          by_cases hb : T / 10 % 2 = 0
          · have c1 : (((T / 10 % 2 : Nat) : Int) == 0) = true := by rw [hb]; rfl
            have w10 : IntKind.i64.wrap ((T : Int) + 10) = ((T + 10 : Nat) : Int) := by rw [w_i64 (by omega) (by omega)]; omega
            have kr := key_reply (L := L) hT9 hb
            rw [keyV_eq, keyV_eq] at kr
            have kr2 : keyB ((T + 10 : Nat) : Int) L = keyB (T : Int) L := by simpa using kr
            have fA : ∀ i, Vm.look A (ν i) = none := fun i => (SubA.skip f0 (SubA.refl _)).none (fr.2 i)
            simp (maxDischargeDepth := 16) only [argE_nil, argE_cons, ↓vmD, vmV, vmStd, Nat.reduceMul, ↓reduceIte, Nat.reduceAdd, Nat.reduceSub, Nat.reduceEqDiff, Nat.reduceLT, Nat.reduceLeDiff, reduceCtorEq, Int.reduceToNat, Int.reduceLT, Int.reduceLE, Int.reduceEq, Int.reduceNeg, Int.reduceBEq, Int.reduceBNe, String.reduceEq, forall_const, ↓vmDA, vmVA, ↓vmQA, vmR, vmRA, ↓vmSA, vmSV, tyS, nuE, SubA.skip, SubA.refl, fr.2, digits03_v, isDate03_v, rreference_v, valueOf_v, rvalue_v, split_v, rsplit_v, f0, fA, hlt, km, rk, aw, z0, z1, k1, k2, c1, w10, kr2]
          · have c1 : (((T / 10 % 2 : Nat) : Int) == 0) = false := by simp; omega
            simp (maxDischargeDepth := 16) only [argE_nil, argE_cons, ↓vmD, vmV, vmStd, Nat.reduceMul, ↓reduceIte, Nat.reduceAdd, Nat.reduceSub, Nat.reduceEqDiff, Nat.reduceLT, Nat.reduceLeDiff, reduceCtorEq, Int.reduceToNat, Int.reduceLT, Int.reduceLE, Int.reduceEq, Int.reduceNeg, Int.reduceBEq, Int.reduceBNe, String.reduceEq, forall_const, ↓vmDA, vmVA, ↓vmQA, vmR, vmRA, ↓vmSA, vmSV, tyS, nuE, SubA.skip, SubA.refl, fr.2, digits03_v, isDate03_v, rreference_v, valueOf_v, rvalue_v, split_v, rsplit_v, f0, hlt, km, rk, aw, z0, z1, k1, k2, c1]
        · have z0 : ((0 : Int) ≤ T) = True := eq_true q0
          have z1 : (T ≤ 9989) = False := eq_false q1
          simp (maxDischargeDepth := 16) only [argE_nil, argE_cons, ↓vmD, vmV, vmStd, Nat.reduceMul, ↓reduceIte, Nat.reduceAdd, Nat.reduceSub, Nat.reduceEqDiff, Nat.reduceLT, Nat.reduceLeDiff, reduceCtorEq, Int.reduceToNat, Int.reduceLT, Int.reduceLE, Int.reduceEq, Int.reduceNeg, Int.reduceBEq, Int.reduceBNe, String.reduceEq, forall_const, ↓vmDA, vmVA, ↓vmQA, vmR, vmRA, ↓vmSA, vmSV, tyS, nuE, SubA.skip, SubA.refl, fr.2, digits03_v, isDate03_v, rreference_v, valueOf_v, rvalue_v, split_v, rsplit_v, f0, hlt, km, rk, aw, z0, z1]
      · have z0 : ((0 : Int) ≤ T) = False := eq_false q0
        simp (maxDischargeDepth := 16) only [argE_nil, argE_cons, ↓vmD, vmV, vmStd, Nat.reduceMul, ↓reduceIte, Nat.reduceAdd, Nat.reduceSub, Nat.reduceEqDiff, Nat.reduceLT, Nat.reduceLeDiff, reduceCtorEq, Int.reduceToNat, Int.reduceLT, Int.reduceLE, Int.reduceEq, Int.reduceNeg, Int.reduceBEq, Int.reduceBNe, String.reduceEq, forall_const, ↓vmDA, vmVA, ↓vmQA, vmR, vmRA, ↓vmSA, vmSV, tyS, nuE, SubA.skip, SubA.refl, fr.2, digits03_v, isDate03_v, rreference_v, valueOf_v, rvalue_v, split_v, rsplit_v, f0, hlt, km, rk, aw, z0]
theorem keysLaw_w (A : AH) (hT : TabA A) (T : Int) (L : List El) (p : Option Addr) (cap : Nat) (hL : StR elC 2 A p L) (B_ : AH) (hB_ : SubA A B_) : valA Tryd.prog 3 #[.agg #[.int .i64 T, .slice p L.length cap]] B_ = some (.bool true) := valA_eq (pureA_at (by kernel_rfl) (keysLaw_h A hT T L p cap hL) hB_)
theorem keysLaw_v (A : AH) (hT : TabA A) (T : Int) (L : List El) (p : Option Addr) (cap : Nat) (hL : StR elC 2 A p L) : valA Tryd.prog 3 #[.agg #[.int .i64 T, .slice p L.length cap]] A = some (.bool true) := valA_eq (pureA_at (by kernel_rfl) (keysLaw_h A hT T L p cap hL) (SubA.refl _))
theorem decE {h : Heap} (es : List Value) (hl : es.length = 2) (hf : Fits h (.st 2 [(0, 1, .int .i64), (1, 1, .str)]) es) : ∃ x, elC x = es := by
  simp only [Fits, FitsL] at hf
  obtain ⟨hl, w⟩ := hf
  match es, hl with
  | [x0, x1], _ =>
    simp only [List.drop_succ_cons, List.drop_zero, List.take_succ_cons, List.take_zero, List.cons.injEq, and_true] at w
    obtain ⟨⟨n, rfl, _⟩, ⟨s, rfl, _⟩⟩ := w
    exact ⟨⟨n, s⟩, rfl⟩
theorem fitsM {h : Heap} {a : Array Value} (w : Fits h (.st 2 [(0, 1, .int .i64), (1, 1, .sl 2 (.st 2 [(0, 1, .int .i64), (1, 1, .str)]))]) a.toList) : ∃ (T : Int) (p : Option Addr) (cap : Nat) (L : List El), a = #[.int .i64 T, .slice p L.length cap] ∧ ∃ A, Sat A h ∧ StR elC 2 A p L := by
  obtain ⟨l⟩ := a
  unfold Fits at w
  obtain ⟨hl, w⟩ := w
  match l, hl with
  | [x0, x1], _ =>
    simp only [FitsL, List.drop_succ_cons, List.drop_zero, List.take_succ_cons, List.take_zero, and_true] at w
    obtain ⟨w1, hs⟩ := w
    unfold Fits at w1
    simp only [List.cons.injEq, and_true] at w1
    obtain ⟨T, rfl, _⟩ := w1
    have hx : ∃ a len cap, x1 = .slice a len cap := by
      have hs2 := hs
      unfold Fits at hs2
      rcases hs2 with e | ⟨a, len, cap, e, _⟩
      · exact ⟨_, _, _, (List.cons.inj e).1⟩
      · exact ⟨_, _, _, (List.cons.inj e).1⟩
    obtain ⟨a, len, cap, rfl⟩ := hx
    obtain ⟨p, cap', L, e1, _, _, _, A, hA, hL⟩ := list_fits elC (v := .slice a len cap) (by decide) decE hs (by intro c hc; cases hc)
    cases e1
    exact ⟨T, a, cap, L, rfl, A, hA, hL⟩
theorem keys_walk (w : World) (ht : Lib.TabIs Tryd.prog w "internal/strconv.uint64pow10" .u64 Lib.pow10Tab) (a : Array Value) (wa : Vm.Fits w.heap (.st 2 [(0, 1, .int .i64), (1, 1, .sl 2 (.st 2 [(0, 1, .int .i64), (1, 1, .str)]))]) a.toList) :
    CallsH Tryd.prog 3 #[.agg a] w.heap fun e h' => e = .returned (.bool true) ∧ Grew w.heap h' := by
  obtain ⟨B, hB, hT⟩ := TabA.of ht
  obtain ⟨T, p, cap, L, rfl, A, hA, hL⟩ := fitsM wa
  exact callsH_of_pure (keysLaw_v (A ++ B) (hT.mono (sat_sub hA hB)) T L p cap (hL.mono (SubA.left _ _))) (by kernel_rfl) (hA.both hB)
end Go.Proofs.YthmkhmgmoflmkaaDoor
