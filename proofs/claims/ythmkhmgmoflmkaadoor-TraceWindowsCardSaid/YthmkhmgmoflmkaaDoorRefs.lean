/-
TraceReferences and TraceKeys: the walks.
Conditions: none.
-/
import Derived.Test.YthmkhmgmoflmkaaDoorAwk
namespace Go.Proofs.YthmkhmgmoflmkaaDoor
open Go.Vm
set_option linter.unusedSimpArgs false
set_option linter.unusedVariables false
set_option maxHeartbeats 2000000
set_option maxRecDepth 20000
theorem splV_cases (l : List UInt8) : (l.length = 12 ∧ l.all digB = true ∧ dval (l.drop 6) ≠ 0 ∧ splV l = .tuple #[.int .i64 (dval (l.take 5) : Int), .int .i64 (dval ((l.take 6).drop 5) : Int), .int .i64 (dval (l.drop 6) : Int), .int .i64 0]) ∨ ∃ c : Int, (c == 0) = false ∧ splV l = .tuple #[.int .i64 0, .int .i64 0, .int .i64 0, .int .i64 c] := by
  unfold splV
  by_cases h1 : l.length = 12
  · by_cases h2 : l.all digB = true
    · by_cases h3 : dval (l.drop 6) = 0
      · exact .inr ⟨4, rfl, by rw [if_pos h1, if_pos h2, if_pos h3]⟩
      · exact .inl ⟨h1, h2, h3, by rw [if_pos h1, if_pos h2, if_neg h3]⟩
    · exact .inr ⟨2, rfl, by rw [if_pos h1, if_neg h2]⟩
  · exact .inr ⟨2, rfl, by rw [if_neg h1]⟩
theorem take_all {l : List UInt8} (h : l.all digB = true) (n : Nat) : (l.take n).all digB = true := List.all_eq_true.2 fun x hx => List.all_eq_true.1 h x (List.mem_of_mem_take hx)
theorem drop_all {l : List UInt8} (h : l.all digB = true) (n : Nat) : (l.drop n).all digB = true := List.all_eq_true.2 fun x hx => List.all_eq_true.1 h x (List.mem_of_mem_drop hx)
/-- The parts of a reference are the numbers that made it. -/
theorem split_ref {a b c : Nat} (h1 : a ≤ 99999) (h2 : b ≤ 9) (h3 : 1 ≤ c) (h4 : c ≤ 999999) : splV (refL a b c) = .tuple #[.int .i64 (a : Int), .int .i64 (b : Int), .int .i64 (c : Int), .int .i64 0] := by
  have e : refL (a : Int) b c = digs 5 a ++ digs 1 b ++ digs 6 c := by simp [refL]
  have hl : (digs 5 a ++ digs 1 b ++ digs 6 c).length = 12 := by simp [digs_len]
  have p1 : (digs 5 a ++ digs 1 b ++ digs 6 c).take 5 = digs 5 a := by rw [List.append_assoc, List.take_left' (digs_len 5 a)]
  have p2 : ((digs 5 a ++ digs 1 b ++ digs 6 c).take 6).drop 5 = digs 1 b := by
    rw [List.take_left' (by simp [digs_len]), List.drop_left' (digs_len 5 a)]
  have p3 : (digs 5 a ++ digs 1 b ++ digs 6 c).drop 6 = digs 6 c := by rw [List.drop_left' (by simp [digs_len])]
  have v1 := dval_digs 5 a (by omega)
  have v2 := dval_digs 1 b (by omega)
  have v3 := dval_digs 6 c (by omega)
  unfold splV
  rw [e, if_pos hl, if_pos (by simp [List.all_append, digs_all]), p1, p2, p3, v1, v2, v3, if_neg (by omega)]
/-- And back. -/
theorem ref_split {l : List UInt8} (h1 : l.length = 12) (h2 : l.all digB = true) (h3 : dval (l.drop 6) ≠ 0) : refV (dval (l.take 5) : Int) (dval ((l.take 6).drop 5) : Int) (dval (l.drop 6) : Int) = .tuple #[.string (bs l), .int .i64 0] := by
  have a1 := dval_lt 5 (l.take 5) (by simp; omega) (take_all h2 5)
  have a2 := dval_lt 1 ((l.take 6).drop 5) (by simp; omega) (drop_all (take_all h2 6) 5)
  have a3 := dval_lt 6 (l.drop 6) (by simp; omega) (drop_all h2 6)
  have ok : refO (dval (l.take 5) : Int) (dval ((l.take 6).drop 5) : Int) (dval (l.drop 6) : Int) = true := by
    simp only [refO, Bool.and_eq_true, decide_eq_true_eq]
    omega
  have d1 := digs_dval 5 (l.take 5) (by simp; omega) (take_all h2 5)
  have d2 := digs_dval 1 ((l.take 6).drop 5) (by simp; omega) (drop_all (take_all h2 6) 5)
  have d3 := digs_dval 6 (l.drop 6) (by simp; omega) (drop_all h2 6)
  have e : refL (dval (l.take 5) : Int) (dval ((l.take 6).drop 5) : Int) (dval (l.drop 6) : Int) = l := by
    simp only [refL, Int.toNat_natCast, d1, d2, d3]
    rw [List.drop_take]
    have : l = l.take 5 ++ ((l.drop 5).take 1 ++ l.drop 6) := by
      conv => lhs; rw [← List.take_append_drop 5 l]
      congr 1
      conv => lhs; rw [← List.take_append_drop 1 (l.drop 5)]
      rw [List.drop_drop]
    rw [List.append_assoc]
    exact this.symm
  unfold refV
  rw [if_pos ok, e]
theorem refsLaw_h (A : AH) (hT : TabA A) (d s n : Int) (l : List UInt8) : CallA Tryd.prog 6 #[.int .i64 d, .int .i64 s, .int .i64 n, .string (bs l)] A (fun u_ A_ => u_ = .bool true ∧ SubA A A_) := by
  refine callA_of_denA ⟨Tryd.prog, 6, Tryd.f6, 129, [0, 1, 2, 3, 8, 9, 10, 11, 12, 13, 14, 15, 16, 17, 18, 19, 20, 21, 22], [], [], _⟩ (args := [_, _, _, _]) Tryd.func6 rfl (by kernel_rfl) Tryd.ntmps6 (by simp) (by kernel_rfl) ?_
  intro ν fr; have nuE := fr.nu
  have aw := awake12_w A hT
  by_cases hl : 100 < l.length
  · have h1 : ((100 : Int) < (l.length : Int)) = True := eq_true (by omega)
    simp (maxDischargeDepth := 16) only [argE_nil, argE_cons, ↓vmD, vmV, vmStd, Nat.reduceMul, ↓reduceIte, Nat.reduceAdd, Nat.reduceSub, Nat.reduceEqDiff, Nat.reduceLT, Nat.reduceLeDiff, reduceCtorEq, Int.reduceToNat, Int.reduceLT, Int.reduceLE, Int.reduceEq, Int.reduceNeg, Int.reduceBEq, Int.reduceBNe, String.reduceEq, forall_const, ↓vmDA, vmVA, ↓vmQA, vmR, vmRA, ↓vmSA, vmSV, tyS, nuE, SubA.skip, SubA.refl, fr.2, digits03_v, isDate03_v, rreference_v, valueOf_v, rvalue_v, split_v, rsplit_v, bs_size, h1, aw]
  · have h1 : ((100 : Int) < (l.length : Int)) = False := eq_false (by omega)
    have rf := reference_w A hT
    have sp := split_v
    have rsp := rsplit_v l (by omega)
    have sp1 := split_v l (by omega)
    cases ho : refO d s n with
    | true =>
      obtain ⟨a, b, c, rfl, rfl, rfl, g1, g2, g3, g4⟩ := refO_out ho
      have rv : refV (a : Int) b c = .tuple #[.string (bs (refL a b c)), .int .i64 0] := if_pos ho
      have sr := fun B => (split_v (refL (a : Int) b c) (by simp [refL, digs_len]) B).trans (congrArg some (split_ref g1 g2 g3 g4))
      rcases splV_cases l with ⟨k1, k2, k3, k4⟩ | ⟨e, he, k4⟩
      · have rs := fun B hB => (reference_w A hT (dval (l.take 5) : Int) (dval ((l.take 6).drop 5) : Int) (dval (l.drop 6) : Int) B hB).trans (congrArg some (ref_split k1 k2 k3))
        have rf1 := fun B hB => (reference_w A hT (a : Int) b c B hB).trans (congrArg some rv)
        simp (maxDischargeDepth := 16) only [argE_nil, argE_cons, ↓vmD, vmV, vmStd, Nat.reduceMul, ↓reduceIte, Nat.reduceAdd, Nat.reduceSub, Nat.reduceEqDiff, Nat.reduceLT, Nat.reduceLeDiff, reduceCtorEq, Int.reduceToNat, Int.reduceLT, Int.reduceLE, Int.reduceEq, Int.reduceNeg, Int.reduceBEq, Int.reduceBNe, String.reduceEq, forall_const, ↓vmDA, vmVA, ↓vmQA, vmR, vmRA, ↓vmSA, vmSV, tyS, nuE, SubA.skip, SubA.refl, fr.2, digits03_v, isDate03_v, rreference_v, valueOf_v, rvalue_v, split_v, rsplit_v, bs_size, h1, aw, rf1, rv, sp1, rsp, k4, sr, rs]
      · have rf1 := fun B hB => (reference_w A hT (a : Int) b c B hB).trans (congrArg some rv)
        simp (maxDischargeDepth := 16) only [argE_nil, argE_cons, ↓vmD, vmV, vmStd, Nat.reduceMul, ↓reduceIte, Nat.reduceAdd, Nat.reduceSub, Nat.reduceEqDiff, Nat.reduceLT, Nat.reduceLeDiff, reduceCtorEq, Int.reduceToNat, Int.reduceLT, Int.reduceLE, Int.reduceEq, Int.reduceNeg, Int.reduceBEq, Int.reduceBNe, String.reduceEq, forall_const, ↓vmDA, vmVA, ↓vmQA, vmR, vmRA, ↓vmSA, vmSV, tyS, nuE, SubA.skip, SubA.refl, fr.2, digits03_v, isDate03_v, rreference_v, valueOf_v, rvalue_v, split_v, rsplit_v, bs_size, h1, aw, rf1, rv, sp1, rsp, k4, he, sr]
    | false =>
      have rv : refV d s n = .tuple #[.string ⟨#[]⟩, .int .i64 4] := by unfold refV; rw [ho]; rfl
      rcases splV_cases l with ⟨k1, k2, k3, k4⟩ | ⟨e, he, k4⟩
      · have rs := fun B hB => (reference_w A hT (dval (l.take 5) : Int) (dval ((l.take 6).drop 5) : Int) (dval (l.drop 6) : Int) B hB).trans (congrArg some (ref_split k1 k2 k3))
        have rf1 := fun B hB => (reference_w A hT d s n B hB).trans (congrArg some rv)
        simp (maxDischargeDepth := 16) only [argE_nil, argE_cons, ↓vmD, vmV, vmStd, Nat.reduceMul, ↓reduceIte, Nat.reduceAdd, Nat.reduceSub, Nat.reduceEqDiff, Nat.reduceLT, Nat.reduceLeDiff, reduceCtorEq, Int.reduceToNat, Int.reduceLT, Int.reduceLE, Int.reduceEq, Int.reduceNeg, Int.reduceBEq, Int.reduceBNe, String.reduceEq, forall_const, ↓vmDA, vmVA, ↓vmQA, vmR, vmRA, ↓vmSA, vmSV, tyS, nuE, SubA.skip, SubA.refl, fr.2, digits03_v, isDate03_v, rreference_v, valueOf_v, rvalue_v, split_v, rsplit_v, bs_size, h1, aw, rf1, rv, sp1, rsp, k4, rs]
      · have rf1 := fun B hB => (reference_w A hT d s n B hB).trans (congrArg some rv)
        simp (maxDischargeDepth := 16) only [argE_nil, argE_cons, ↓vmD, vmV, vmStd, Nat.reduceMul, ↓reduceIte, Nat.reduceAdd, Nat.reduceSub, Nat.reduceEqDiff, Nat.reduceLT, Nat.reduceLeDiff, reduceCtorEq, Int.reduceToNat, Int.reduceLT, Int.reduceLE, Int.reduceEq, Int.reduceNeg, Int.reduceBEq, Int.reduceBNe, String.reduceEq, forall_const, ↓vmDA, vmVA, ↓vmQA, vmR, vmRA, ↓vmSA, vmSV, tyS, nuE, SubA.skip, SubA.refl, fr.2, digits03_v, isDate03_v, rreference_v, valueOf_v, rvalue_v, split_v, rsplit_v, bs_size, h1, aw, rf1, rv, sp1, rsp, k4, he]
theorem refsLaw_w (A : AH) (hT : TabA A) (d s n : Int) (l : List UInt8) (B_ : AH) (hB_ : SubA A B_) : valA Tryd.prog 6 #[.int .i64 d, .int .i64 s, .int .i64 n, .string (bs l)] B_ = some (.bool true) := valA_eq (pureA_at (by kernel_rfl) (refsLaw_h A hT d s n l) hB_)
theorem refsLaw_v (A : AH) (hT : TabA A) (d s n : Int) (l : List UInt8) : valA Tryd.prog 6 #[.int .i64 d, .int .i64 s, .int .i64 n, .string (bs l)] A = some (.bool true) := valA_eq (pureA_at (by kernel_rfl) (refsLaw_h A hT d s n l) (SubA.refl _))
/-- What is pure, from any heap. -/
theorem callsH_of_pure {P : Program} {g : FuncId} {args : Array Value} {A : AH} {v : Value} (hv : valA P g args A = some v) (hc : callable P g = true) {h : Heap} (hs : Sat A h) : CallsH P g args h fun e h' => e = .returned v ∧ Grew h h' := by
  have := (valA_out hv).2 h hs
  unfold RunC at this
  rwa [if_pos hc] at this
theorem refs_walk (w : World) (ht : Lib.TabIs Tryd.prog w "internal/strconv.uint64pow10" .u64 Lib.pow10Tab) (d : Int) (wd : (Lit.int .i64 d).wf = true) (s : Int) (ws : (Lit.int .i64 s).wf = true) (n : Int) (wn : (Lit.int .i64 n).wf = true) (x : ByteArray) :
    CallsH Tryd.prog 6 #[.int .i64 d, .int .i64 s, .int .i64 n, .string x] w.heap fun e h' => e = .returned (.bool true) ∧ Grew w.heap h' := by
  obtain ⟨A, hA, hT⟩ := TabA.of ht
  rw [bs_of x]
  exact callsH_of_pure (refsLaw_v A hT d s n x.data.toList) (by kernel_rfl) hA
end Go.Proofs.YthmkhmgmoflmkaaDoor
