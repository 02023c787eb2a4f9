/-
Trace: references and their parts.
Conditions: none.
-/
import Derived.Test.YthmkhmgmoflmkaaDoorIto
namespace Go.Proofs.YthmkhmgmoflmkaaDoor
open Go.Vm
set_option linter.unusedSimpArgs false
set_option linter.unusedVariables false
set_option maxHeartbeats 1000000
set_option maxRecDepth 20000
theorem drop_some {α : Type} {L l : List α} {e : Nat} {a : α} (h3 : a :: l = L.drop e) : L[e]? = some a ∧ e < L.length ∧ l = L.drop (e + 1) := by
  have ha : L[e]? = some a := by
    have := congrArg (fun x => x[0]?) h3
    simpa using this.symm
  refine ⟨ha, (List.getElem?_eq_some_iff.1 ha).1, ?_⟩
  have := congrArg (fun x => x.drop 1) h3
  simpa [List.drop_drop, Nat.add_comm] using this
theorem drop_nil {α : Type} {L : List α} {e : Nat} (h3 : [] = L.drop e) : L.length ≤ e := by
  rcases Nat.lt_or_ge e L.length with h | h
  · rw [List.drop_eq_getElem_cons h] at h3; cases h3
  · exact h
theorem bs_at (l : List UInt8) (i : Nat) : (bs l).data[i]? = l[i]? := by simp [bs]
theorem bs_ext (l : List UInt8) (i j : Nat) : (bs l).extract i j = bs ((l.take j).drop i) := ba_ext (by
  simp [bs, ByteArray.data_extract, List.extract_eq_take_drop, List.drop_take])
theorem padded_h (A : AH) (hT : TabA A) (n w : Nat) (hw : 0 < w) (hw2 : w ≤ 100) (hn : n < 10 ^ w) (hn2 : n < 1000000000000) : CallA Tryd.prog 28 #[.int .i64 (n : Int), .int .i64 (w : Int)] A (fun u_ A_ => u_ = .string (bs (digs w n)) ∧ SubA A A_) := by
  refine callA_of_denA ⟨Tryd.prog, 28, Tryd.f28, 16, [0, 1, 4, 5], [], [], _⟩ (args := [_, _]) Tryd.func28 rfl (by kernel_rfl) Tryd.ntmps28 (by simp) (by kernel_rfl) ?_
  intro ν fr; have nuE := fr.nu
  have it := itoa_w A hT n (by omega) (by omega) A (SubA.refl _)
  have e1 : Lib.itoa (n : Int) = Lib.decDigits n := by unfold Lib.itoa; rw [if_neg (by omega)]; simp
  rw [e1] at it
  have hl := dec_len w n hw hn
  have w1 : IntKind.i64.wrap ((w : Int) - ((Lib.decDigits n).length : Int)) = ((w - (Lib.decDigits n).length : Nat) : Int) := by rw [w_i64 (by omega) (by omega)]; omega
  have m1 : (if (0 : Int) < ((w - (Lib.decDigits n).length : Nat) : Int) then ((w - (Lib.decDigits n).length : Nat) : Int) else 0) = ((w - (Lib.decDigits n).length : Nat) : Int) := by split <;> omega
  have rp := fun A => rep_v (w - (Lib.decDigits n).length) (by omega) A
  have sz2 : w - (Lib.decDigits n).length + (Lib.decDigits n).length ≤ 9223372036854775807 := by omega
  have sz : (bs (List.replicate (w - (Lib.decDigits n).length) 48)).size + (bs (Lib.decDigits n)).size ≤ 9223372036854775807 := by simp only [bs_size, List.length_replicate]; omega
  simp (maxDischargeDepth := 16) only [argE_nil, argE_cons, ↓vmD, vmV, vmStd, Nat.reduceMul, ↓reduceIte, Nat.reduceAdd, Nat.reduceSub, Nat.reduceEqDiff, Nat.reduceLT, Nat.reduceLeDiff, reduceCtorEq, Int.reduceToNat, Int.reduceLT, Int.reduceLE, Int.reduceEq, Int.reduceNeg, Int.reduceBEq, Int.reduceBNe, String.reduceEq, forall_const, ↓vmDA, vmVA, ↓vmQA, vmR, vmRA, ↓vmSA, vmSV, tyS, nuE, SubA.skip, SubA.refl, fr.2, it, w1, m1, rp, bs_app, pad_digs w n hw hn, bs_size, List.length_replicate, sz2]
theorem padded_w (A : AH) (hT : TabA A) (n w : Nat) (hw : 0 < w) (hw2 : w ≤ 100) (hn : n < 10 ^ w) (hn2 : n < 1000000000000) (B_ : AH) (hB_ : SubA A B_) : valA Tryd.prog 28 #[.int .i64 (n : Int), .int .i64 (w : Int)] B_ = some (.string (bs (digs w n))) := valA_eq (pureA_at (by kernel_rfl) (padded_h A hT n w hw hw2 hn hn2) hB_)
theorem padded_v (A : AH) (hT : TabA A) (n w : Nat) (hw : 0 < w) (hw2 : w ≤ 100) (hn : n < 10 ^ w) (hn2 : n < 1000000000000) : valA Tryd.prog 28 #[.int .i64 (n : Int), .int .i64 (w : Int)] A = some (.string (bs (digs w n))) := valA_eq (pureA_at (by kernel_rfl) (padded_h A hT n w hw hw2 hn hn2) (SubA.refl _))
theorem dig_sl : ∀ (d : Nat), d < 10 → (ByteArray.mk #[48, 49, 50, 51, 52, 53, 54, 55, 56, 57]).extract d (d + 1) = bs [UInt8.ofNat (48 + d)] := by decide
theorem digits03_h (n w : Nat) (hw2 : w ≤ 100) (hn2 : n < 1000000000000) : CallA Tryd.prog 30 #[.int .i64 (n : Int), .int .i64 (w : Int)] [] (fun u_ _ => u_ = .string (bs (digs w n))) := by
  refine callA_of_denA ⟨Tryd.prog, 30, Tryd.f30, 23, [0, 1, 4, 5, 6], [], [], _⟩ (args := [_, _]) Tryd.func30 rfl (by kernel_rfl) Tryd.ntmps30 (by simp) (by kernel_rfl) ?_
  intro ν fr; have nuE := fr.nu
  simp (maxDischargeDepth := 16) only [argE_nil, argE_cons, ↓vmD, vmV, vmStd, Nat.reduceMul, ↓reduceIte, Nat.reduceAdd, Nat.reduceSub, Nat.reduceEqDiff, Nat.reduceLT, Nat.reduceLeDiff, reduceCtorEq, Int.reduceToNat, Int.reduceLT, Int.reduceLE, Int.reduceEq, Int.reduceNeg, Int.reduceBEq, Int.reduceBNe, String.reduceEq, forall_const, ↓vmDA, vmVA, ↓vmQA, vmR, vmRA, ↓vmSA, vmSV, tyS, nuE, SubA.skip, SubA.refl, fr.2]
  obtain ⟨e, m, k, acc, he, hm, hk, ha, h3, hn3, hl⟩ : ∃ (e m k : Nat) (acc : List UInt8), e = 0 ∧ m = n ∧ acc = [] ∧ digs w n = digs k m ++ acc ∧ e + k = w ∧ m < 1000000000000 ∧ acc.length = e := ⟨0, n, w, [], rfl, rfl, rfl, by simp, by omega, hn2, rfl⟩
  rw [show (6, some (Value.int .i64 0)) = (6, some (Value.int .i64 (e : Int))) by rw [he]; rfl]
  rw [show (5, some (Value.string ⟨#[]⟩)) = (5, some (Value.string (bs acc))) by rw [hk]; rfl]
  rw [show (0, some (Value.int .i64 (n : Int))) = (0, some (Value.int .i64 (m : Int))) by rw [hm]]
  clear he hm hk nuE fr
  induction k generalizing e m acc with
  | zero =>
    have hlt : ((e : Int) < (w : Int)) = False := by simp; omega
    refine LoopA.intro (by kernel_rfl) ?_
    intro ν fr; have nuE := fr.nu
    simp (maxDischargeDepth := 16) only [argE_nil, argE_cons, ↓vmD, vmV, vmStd, Nat.reduceMul, ↓reduceIte, Nat.reduceAdd, Nat.reduceSub, Nat.reduceEqDiff, Nat.reduceLT, Nat.reduceLeDiff, reduceCtorEq, Int.reduceToNat, Int.reduceLT, Int.reduceLE, Int.reduceEq, Int.reduceNeg, Int.reduceBEq, Int.reduceBNe, String.reduceEq, forall_const, ↓vmDA, vmVA, ↓vmQA, vmR, vmRA, ↓vmSA, vmSV, tyS, nuE, SubA.skip, SubA.refl, fr.2, hlt, ha, digs]
  | succ k ih =>
    have hlt : ((e : Int) < (w : Int)) = True := by simp; omega
    have we : IntKind.i64.wrap ((e : Int) + 1) = ((e + 1 : Nat) : Int) := by rw [w_i64 (by omega) (by omega)]; omega
    have r1 : (m : Int).tmod 10 = ((m % 10 : Nat) : Int) := by rw [Int.tmod_eq_emod_of_nonneg (by omega)]; omega
    have r2 : IntKind.i64.wrap ((m : Int).tdiv 10) = ((m / 10 : Nat) : Int) := by rw [Int.tdiv_eq_ediv_of_nonneg (by omega), w_i64 (by omega) (by omega)]; omega
    have r3 : IntKind.i64.wrap (((m % 10 : Nat) : Int) + 1) = ((m % 10 + 1 : Nat) : Int) := by rw [w_i64 (by omega) (by omega)]; omega
    have r4 : (((m % 10 : Nat) : Int) ≤ ((m % 10 + 1 : Nat) : Int)) = True := by simp; omega
    have r5 : (((m % 10 + 1 : Nat) : Int) ≤ ((ByteArray.mk #[48, 49, 50, 51, 52, 53, 54, 55, 56, 57]).size : Int)) = True := by simp [ByteArray.size]; omega
    have ds := dig_sl (m % 10) (by omega)
    have s1 : 1 + acc.length ≤ 9223372036854775807 := by omega
    refine LoopA.intro (by kernel_rfl) ?_
    intro ν fr; have nuE := fr.nu
    simp (maxDischargeDepth := 16) only [argE_nil, argE_cons, ↓vmD, vmV, vmStd, Nat.reduceMul, ↓reduceIte, Nat.reduceAdd, Nat.reduceSub, Nat.reduceEqDiff, Nat.reduceLT, Nat.reduceLeDiff, reduceCtorEq, Int.reduceToNat, Int.reduceLT, Int.reduceLE, Int.reduceEq, Int.reduceNeg, Int.reduceBEq, Int.reduceBNe, String.reduceEq, forall_const, ↓vmDA, vmVA, ↓vmQA, vmR, vmRA, ↓vmSA, vmSV, tyS, nuE, SubA.skip, SubA.refl, fr.2, hlt, r1, r2, r3, r4, r5, ds, bs_app, bs_size, s1, we]
    exact LoopA.weak (ih (e + 1) (m / 10) (UInt8.ofNat (48 + m % 10) :: acc) (by rw [ha]; simp [digs]) (by omega) (by omega) (by simp; omega)) (by simp only [subE, get_cons, Nat.reduceEqDiff, ↓reduceIte, reduceCtorEq, Nat.reduceAdd, and_self, and_true]) (SubA.refl _)
theorem digits03_v (n w : Nat) (hw2 : w ≤ 100) (hn2 : n < 1000000000000) (A_ : AH) : valA Tryd.prog 30 #[.int .i64 (n : Int), .int .i64 (w : Int)] A_ = some (.string (bs (digs w n))) := valA_eq (pureA_of (by kernel_rfl) (digits03_h n w hw2 hn2))
def refO (d s n : Int) : Bool := decide (0 ≤ d) && (decide (d ≤ 99999) && (decide (0 ≤ s) && (decide (s ≤ 9) && (decide (1 ≤ n) && decide (n ≤ 999999)))))
def refL (d s n : Int) : List UInt8 := digs 5 d.toNat ++ digs 1 s.toNat ++ digs 6 n.toNat
def refV (d s n : Int) : Value := if refO d s n = true then .tuple #[.string (bs (refL d s n)), .int .i64 0] else .tuple #[.string ⟨#[]⟩, .int .i64 4]
theorem refO_out {d s n : Int} (h : refO d s n = true) : ∃ a b c : Nat, d = a ∧ s = b ∧ n = c ∧ a ≤ 99999 ∧ b ≤ 9 ∧ 1 ≤ c ∧ c ≤ 999999 := by
  simp only [refO, Bool.and_eq_true, decide_eq_true_eq] at h
  exact ⟨d.toNat, s.toNat, n.toNat, by omega, by omega, by omega, by omega, by omega, by omega, by omega⟩
theorem isDate03_h (d : Int) : CallA Tryd.prog 34 #[.int .i64 d] [] (fun u_ _ => u_ = .bool (decide (0 ≤ d) && decide (d ≤ 99999))) := by
  refine callA_of_denA ⟨Tryd.prog, 34, Tryd.f34, 9, [0, 2], [], [], _⟩ (args := [_]) Tryd.func34 rfl (by kernel_rfl) Tryd.ntmps34 (by simp) (by kernel_rfl) ?_
  intro ν fr; have nuE := fr.nu
  simp (maxDischargeDepth := 16) only [argE_nil, argE_cons, ↓vmD, vmV, vmStd, Nat.reduceMul, ↓reduceIte, Nat.reduceAdd, Nat.reduceSub, Nat.reduceEqDiff, Nat.reduceLT, Nat.reduceLeDiff, reduceCtorEq, Int.reduceToNat, Int.reduceLT, Int.reduceLE, Int.reduceEq, Int.reduceNeg, Int.reduceBEq, Int.reduceBNe, String.reduceEq, forall_const, ↓vmDA, vmVA, ↓vmQA, vmR, vmRA, ↓vmSA, vmSV, tyS, nuE, digits03_v]
  all_goals ((repeat' split) <;> (try simp_all) <;> (try omega))
theorem isDate03_v (d : Int) (A_ : AH) : valA Tryd.prog 34 #[.int .i64 d] A_ = some (.bool (decide (0 ≤ d) && decide (d ≤ 99999))) := valA_eq (pureA_of (by kernel_rfl) (isDate03_h d))
theorem refO_false {d s n : Int} (h : refO d s n = false) : d < 0 ∨ 99999 < d ∨ s < 0 ∨ 9 < s ∨ n < 1 ∨ 999999 < n := by
  simp only [refO, Bool.and_eq_false_iff, decide_eq_false_iff_not] at h
  omega
theorem reference_h (A : AH) (hT : TabA A) (d s n : Int) : CallA Tryd.prog 19 #[.int .i64 d, .int .i64 s, .int .i64 n] A (fun u_ A_ => u_ = refV d s n ∧ SubA A A_) := by
  refine callA_of_denA ⟨Tryd.prog, 19, Tryd.f19, 38, [0, 1, 2, 6, 7], [], [], _⟩ (args := [_, _, _]) Tryd.func19 rfl (by kernel_rfl) Tryd.ntmps19 (by simp) (by kernel_rfl) ?_
  intro ν fr; have nuE := fr.nu
  cases h : refO d s n with
  | true =>
    obtain ⟨a, b, c, rfl, rfl, rfl, h1, h2, h3, h4⟩ := refO_out h
    have p1 := show valA Tryd.prog 28 #[.int .i64 (a : Int), .int .i64 5] A = _ from padded_v A hT a 5 (by omega) (by omega) (by omega) (by omega)
    have p2 := show valA Tryd.prog 28 #[.int .i64 (b : Int), .int .i64 1] A = _ from padded_v A hT b 1 (by omega) (by omega) (by omega) (by omega)
    have p3 := show valA Tryd.prog 28 #[.int .i64 (c : Int), .int .i64 6] A = _ from padded_v A hT c 6 (by omega) (by omega) (by omega) (by omega)
    have e1 : ((a : Int) < 0) = False := by simp
    have e2 : ((99999 : Int) < (a : Int)) = False := by simp; omega
    have e3 : ((b : Int) < 0) = False := by simp
    have e4 : ((9 : Int) < (b : Int)) = False := by simp; omega
    have e5 : ((c : Int) < 1) = False := by simp; omega
    have e6 : ((999999 : Int) < (c : Int)) = False := by simp; omega
    simp (maxDischargeDepth := 16) only [argE_nil, argE_cons, ↓vmD, vmV, vmStd, Nat.reduceMul, ↓reduceIte, Nat.reduceAdd, Nat.reduceSub, Nat.reduceEqDiff, Nat.reduceLT, Nat.reduceLeDiff, reduceCtorEq, Int.reduceToNat, Int.reduceLT, Int.reduceLE, Int.reduceEq, Int.reduceNeg, Int.reduceBEq, Int.reduceBNe, String.reduceEq, forall_const, ↓vmDA, vmVA, ↓vmQA, vmR, vmRA, ↓vmSA, vmSV, tyS, nuE, SubA.skip, SubA.refl, fr.2, digits03_v, isDate03_v, e1, e2, e3, e4, e5, e6, p1, p2, p3, bs_app, bs_size, digs_len, refV, h, refL, List.length_append]
  | false =>
    have hv : refV d s n = .tuple #[.string ⟨#[]⟩, .int .i64 4] := by simp [refV, h]
    rw [hv]
    simp (maxDischargeDepth := 16) only [argE_nil, argE_cons, ↓vmD, vmV, vmStd, Nat.reduceMul, ↓reduceIte, Nat.reduceAdd, Nat.reduceSub, Nat.reduceEqDiff, Nat.reduceLT, Nat.reduceLeDiff, reduceCtorEq, Int.reduceToNat, Int.reduceLT, Int.reduceLE, Int.reduceEq, Int.reduceNeg, Int.reduceBEq, Int.reduceBNe, String.reduceEq, forall_const, ↓vmDA, vmVA, ↓vmQA, vmR, vmRA, ↓vmSA, vmSV, tyS, nuE, SubA.skip, SubA.refl, fr.2, digits03_v, isDate03_v]
    have := refO_false h
    all_goals ((repeat' split) <;> (try simp_all) <;> (try omega))
theorem reference_w (A : AH) (hT : TabA A) (d s n : Int) (B_ : AH) (hB_ : SubA A B_) : valA Tryd.prog 19 #[.int .i64 d, .int .i64 s, .int .i64 n] B_ = some (refV d s n) := valA_eq (pureA_at (by kernel_rfl) (reference_h A hT d s n) hB_)
theorem reference_v (A : AH) (hT : TabA A) (d s n : Int) : valA Tryd.prog 19 #[.int .i64 d, .int .i64 s, .int .i64 n] A = some (refV d s n) := valA_eq (pureA_at (by kernel_rfl) (reference_h A hT d s n) (SubA.refl _))
theorem rreference_h (d s n : Int) : CallA Tryd.prog 20 #[.int .i64 d, .int .i64 s, .int .i64 n] [] (fun u_ _ => u_ = refV d s n) := by
  refine callA_of_denA ⟨Tryd.prog, 20, Tryd.f20, 35, [0, 1, 2, 6, 7], [], [], _⟩ (args := [_, _, _]) Tryd.func20 rfl (by kernel_rfl) Tryd.ntmps20 (by simp) (by kernel_rfl) ?_
  intro ν fr; have nuE := fr.nu
  cases h : refO d s n with
  | true =>
    obtain ⟨a, b, c, rfl, rfl, rfl, h1, h2, h3, h4⟩ := refO_out h
    have p1 := fun A => show valA Tryd.prog 30 #[.int .i64 (a : Int), .int .i64 5] A = _ from digits03_v a 5 (by omega) (by omega) A
    have p2 := fun A => show valA Tryd.prog 30 #[.int .i64 (b : Int), .int .i64 1] A = _ from digits03_v b 1 (by omega) (by omega) A
    have p3 := fun A => show valA Tryd.prog 30 #[.int .i64 (c : Int), .int .i64 6] A = _ from digits03_v c 6 (by omega) (by omega) A
    have e1 : ((0 : Int) ≤ (a : Int)) = True := by simp
    have e2 : ((a : Int) ≤ (99999 : Int)) = True := by simp; omega
    have e3 : ((b : Int) < 0) = False := by simp
    have e4 : ((9 : Int) < (b : Int)) = False := by simp; omega
    have e5 : ((c : Int) < 1) = False := by simp; omega
    have e6 : ((999999 : Int) < (c : Int)) = False := by simp; omega
    simp (maxDischargeDepth := 16) only [argE_nil, argE_cons, ↓vmD, vmV, vmStd, Nat.reduceMul, ↓reduceIte, Nat.reduceAdd, Nat.reduceSub, Nat.reduceEqDiff, Nat.reduceLT, Nat.reduceLeDiff, reduceCtorEq, Int.reduceToNat, Int.reduceLT, Int.reduceLE, Int.reduceEq, Int.reduceNeg, Int.reduceBEq, Int.reduceBNe, String.reduceEq, forall_const, ↓vmDA, vmVA, ↓vmQA, vmR, vmRA, ↓vmSA, vmSV, tyS, nuE, digits03_v, isDate03_v, e1, e2, e3, e4, e5, e6, p1, p2, p3, bs_app, bs_size, digs_len, refV, h, refL, List.length_append]
  | false =>
    have hv : refV d s n = .tuple #[.string ⟨#[]⟩, .int .i64 4] := by simp [refV, h]
    rw [hv]
    simp (maxDischargeDepth := 16) only [argE_nil, argE_cons, ↓vmD, vmV, vmStd, Nat.reduceMul, ↓reduceIte, Nat.reduceAdd, Nat.reduceSub, Nat.reduceEqDiff, Nat.reduceLT, Nat.reduceLeDiff, reduceCtorEq, Int.reduceToNat, Int.reduceLT, Int.reduceLE, Int.reduceEq, Int.reduceNeg, Int.reduceBEq, Int.reduceBNe, String.reduceEq, forall_const, ↓vmDA, vmVA, ↓vmQA, vmR, vmRA, ↓vmSA, vmSV, tyS, nuE, digits03_v, isDate03_v]
    have := refO_false h
    all_goals ((repeat' split) <;> (try simp_all) <;> (try omega))
theorem rreference_v (d s n : Int) (A_ : AH) : valA Tryd.prog 20 #[.int .i64 d, .int .i64 s, .int .i64 n] A_ = some (refV d s n) := valA_eq (pureA_of (by kernel_rfl) (rreference_h d s n))
/-- The number that digits denote. -/
def dval (l : List UInt8) : Nat := l.foldl (fun n c => 10 * n + (c.toNat - 48)) 0
def digB (c : UInt8) : Bool := decide (48 ≤ c.toNat) && decide (c.toNat ≤ 57)
theorem dval_app (l : List UInt8) (c : UInt8) : dval (l ++ [c]) = 10 * dval l + (c.toNat - 48) := by simp [dval]
theorem dval_lt : ∀ (n : Nat) (l : List UInt8), l.length = n → l.all digB = true → dval l < 10 ^ n
  | 0, l, h, _ => by rw [List.eq_nil_of_length_eq_zero h]; simp [dval]
  | n + 1, l, h, ha => by
    have hne : l ≠ [] := by intro e; subst e; simp at h
    obtain ⟨l0, c, rfl⟩ : ∃ l0 c, l = l0 ++ [c] := ⟨l.dropLast, l.getLast hne, (List.dropLast_concat_getLast hne).symm⟩
    rw [dval_app]
    simp only [List.length_append, List.length_singleton, List.all_append, List.all_cons, List.all_nil, Bool.and_true, Bool.and_eq_true] at h ha
    have := dval_lt n l0 (by omega) ha.1
    have hc := ha.2
    simp only [digB, Bool.and_eq_true, decide_eq_true_eq] at hc
    rw [Nat.pow_succ]
    omega
theorem dval_digs : ∀ (w n : Nat), n < 10 ^ w → dval (digs w n) = n
  | 0, n, h => by simp at h; subst h; rfl
  | w + 1, n, h => by
    simp only [digs, dval_app]
    rw [dval_digs w (n / 10) (by rw [Nat.pow_succ] at h; omega)]
    have : (UInt8.ofNat (48 + n % 10)).toNat = 48 + n % 10 := by simp; omega
    omega
theorem digs_dval : ∀ (w : Nat) (l : List UInt8), l.length = w → l.all digB = true → digs w (dval l) = l
  | 0, l, h, _ => by rw [List.eq_nil_of_length_eq_zero h]; rfl
  | n + 1, l, h, ha => by
    have hne : l ≠ [] := by intro e; subst e; simp at h
    obtain ⟨l0, c, rfl⟩ : ∃ l0 c, l = l0 ++ [c] := ⟨l.dropLast, l.getLast hne, (List.dropLast_concat_getLast hne).symm⟩
    rw [dval_app]
    simp only [List.length_append, List.length_singleton, List.all_append, List.all_cons, List.all_nil, Bool.and_true, Bool.and_eq_true] at h ha
    have hc := ha.2
    simp only [digB, Bool.and_eq_true, decide_eq_true_eq] at hc
    simp only [digs]
    rw [show (10 * dval l0 + (c.toNat - 48)) / 10 = dval l0 by omega, digs_dval n l0 (by omega) ha.1]
    congr 2
    rw [show 48 + (10 * dval l0 + (c.toNat - 48)) % 10 = c.toNat by omega]
    simp
theorem digs_all : ∀ (w n : Nat), (digs w n).all digB = true
  | 0, _ => rfl
  | w + 1, n => by
    simp only [digs, List.all_append, digs_all w, List.all_cons, List.all_nil, Bool.and_true, Bool.true_and]
    have : (UInt8.ofNat (48 + n % 10)).toNat = 48 + n % 10 := by simp; omega
    simp [digB, this]; omega
theorem val_loop (n : Nat) (c : UInt8) (hc : digB c = true) (hn : n < 1000000000000000) : IntKind.i64.wrap (10 * (n : Int)) = ((10 * n : Nat) : Int) ∧ IntKind.i64.wrap ((n : Int) * 10) = ((10 * n : Nat) : Int) ∧ IntKind.u8.wrap ((c.toNat : Int) - 48) = ((c.toNat - 48 : Nat) : Int) ∧ IntKind.i64.wrap ((c.toNat - 48 : Nat) : Int) = ((c.toNat - 48 : Nat) : Int) ∧ IntKind.i64.wrap (((10 * n : Nat) : Int) + ((c.toNat - 48 : Nat) : Int)) = ((10 * n + (c.toNat - 48) : Nat) : Int) := by
  simp only [digB, Bool.and_eq_true, decide_eq_true_eq] at hc
  refine ⟨by rw [w_i64 (by omega) (by omega)]; omega, by rw [w_i64 (by omega) (by omega)]; omega, by rw [w_u8 (by omega) (by omega)]; omega, by rw [w_i64 (by omega) (by omega)], by rw [w_i64 (by omega) (by omega)]; omega⟩
theorem valueOf_h (l : List UInt8) (hl : l.length ≤ 12) (hd : l.all digB = true) : CallA Tryd.prog 35 #[.string (bs l)] [] (fun u_ _ => u_ = .int .i64 (dval l : Int)) := by
  refine callA_of_denA ⟨Tryd.prog, 35, Tryd.f35, 20, [0, 2, 3, 4, 6, 7], [], [], _⟩ (args := [_]) Tryd.func35 rfl (by kernel_rfl) Tryd.ntmps35 (by simp) (by kernel_rfl) ?_
  intro ν fr; have nuE := fr.nu
  simp (maxDischargeDepth := 16) only [argE_nil, argE_cons, ↓vmD, vmV, vmStd, Nat.reduceMul, ↓reduceIte, Nat.reduceAdd, Nat.reduceSub, Nat.reduceEqDiff, Nat.reduceLT, Nat.reduceLeDiff, reduceCtorEq, Int.reduceToNat, Int.reduceLT, Int.reduceLE, Int.reduceEq, Int.reduceNeg, Int.reduceBEq, Int.reduceBNe, String.reduceEq, forall_const, ↓vmDA, vmVA, ↓vmQA, vmR, vmRA, ↓vmSA, vmSV, tyS, nuE, digits03_v, isDate03_v, rreference_v, bs_size]
  obtain ⟨e, k, dn, he, hn, ha, h3⟩ : ∃ (e : Nat) (k dn : List UInt8), e = 0 ∧ dn = [] ∧ l = dn ++ k ∧ dn.length = e := ⟨0, l, [], rfl, rfl, rfl, rfl⟩
  rw [show (7, some (Value.int .i64 0)) = (7, some (Value.int .i64 (e : Int))) by rw [he]; rfl]
  rw [show (3, some (Value.int .i64 0)) = (3, some (Value.int .i64 (dval dn : Int))) by rw [hn]; rfl]
  clear he hn nuE fr
  induction k generalizing e dn with
  | nil =>
    have hle : l.length = e := by rw [ha]; simp [h3]
    have hlt : ((e : Int) < (l.length : Int)) = False := by simp; omega
    have hd2 : dn = l := by rw [ha]; simp
    refine LoopA.intro (by kernel_rfl) ?_
    intro ν fr; have nuE := fr.nu
    simp (maxDischargeDepth := 16) only [argE_nil, argE_cons, ↓vmD, vmV, vmStd, Nat.reduceMul, ↓reduceIte, Nat.reduceAdd, Nat.reduceSub, Nat.reduceEqDiff, Nat.reduceLT, Nat.reduceLeDiff, reduceCtorEq, Int.reduceToNat, Int.reduceLT, Int.reduceLE, Int.reduceEq, Int.reduceNeg, Int.reduceBEq, Int.reduceBNe, String.reduceEq, forall_const, ↓vmDA, vmVA, ↓vmQA, vmR, vmRA, ↓vmSA, vmSV, tyS, nuE, digits03_v, isDate03_v, rreference_v, bs_size, hlt, hd2]
  | cons c k ih =>
    have hle : e < l.length := by rw [ha]; simp; omega
    have hlt : ((e : Int) < (l.length : Int)) = True := by simp; omega
    have we : IntKind.i64.wrap ((e : Int) + 1) = ((e + 1 : Nat) : Int) := by rw [w_i64 (by omega) (by omega)]; omega
    have hc : l[e]? = some c := by rw [ha, List.getElem?_append_right (by omega), h3]; simp
    have hd0 := hd
    rw [ha] at hd0
    simp only [List.all_append, List.all_cons, Bool.and_eq_true] at hd0
    have hb := dval_lt dn.length dn rfl hd0.1
    have hb2 : dval dn < 1000000000000000 := Nat.lt_of_lt_of_le hb (Nat.le_trans (Nat.pow_le_pow_right (by omega) (show dn.length ≤ 12 by omega)) (by decide))
    have vl := val_loop (dval dn) c hd0.2.1 hb2
    refine LoopA.intro (by kernel_rfl) ?_
    intro ν fr; have nuE := fr.nu
    simp (maxDischargeDepth := 16) only [argE_nil, argE_cons, ↓vmD, vmV, vmStd, Nat.reduceMul, ↓reduceIte, Nat.reduceAdd, Nat.reduceSub, Nat.reduceEqDiff, Nat.reduceLT, Nat.reduceLeDiff, reduceCtorEq, Int.reduceToNat, Int.reduceLT, Int.reduceLE, Int.reduceEq, Int.reduceNeg, Int.reduceBEq, Int.reduceBNe, String.reduceEq, forall_const, ↓vmDA, vmVA, ↓vmQA, vmR, vmRA, ↓vmSA, vmSV, tyS, nuE, digits03_v, isDate03_v, rreference_v, bs_size, hlt, bs_at, hc, vl, we]
    exact LoopA.weak (ih (e + 1) (dn ++ [c]) (by rw [ha]; simp) (by simp; omega)) (by simp only [subE, get_cons, Nat.reduceEqDiff, ↓reduceIte, reduceCtorEq, Nat.reduceAdd, and_self, and_true, dval_app]) (SubA.refl _)
theorem valueOf_v (l : List UInt8) (hl : l.length ≤ 12) (hd : l.all digB = true) (A_ : AH) : valA Tryd.prog 35 #[.string (bs l)] A_ = some (.int .i64 (dval l : Int)) := valA_eq (pureA_of (by kernel_rfl) (valueOf_h l hl hd))
theorem rvalue_h (l : List UInt8) (hl : l.length ≤ 12) (hd : l.all digB = true) : CallA Tryd.prog 36 #[.string (bs l)] [] (fun u_ _ => u_ = .int .i64 (dval l : Int)) := by
  refine callA_of_denA ⟨Tryd.prog, 36, Tryd.f36, 20, [0, 2, 3, 4], [], [], _⟩ (args := [_]) Tryd.func36 rfl (by kernel_rfl) Tryd.ntmps36 (by simp) (by kernel_rfl) ?_
  intro ν fr; have nuE := fr.nu
  simp (maxDischargeDepth := 16) only [argE_nil, argE_cons, ↓vmD, vmV, vmStd, Nat.reduceMul, ↓reduceIte, Nat.reduceAdd, Nat.reduceSub, Nat.reduceEqDiff, Nat.reduceLT, Nat.reduceLeDiff, reduceCtorEq, Int.reduceToNat, Int.reduceLT, Int.reduceLE, Int.reduceEq, Int.reduceNeg, Int.reduceBEq, Int.reduceBNe, String.reduceEq, forall_const, ↓vmDA, vmVA, ↓vmQA, vmR, vmRA, ↓vmSA, vmSV, tyS, nuE, digits03_v, isDate03_v, rreference_v, valueOf_v, bs_size]
  obtain ⟨e, k, dn, he, hn, ha, h3⟩ : ∃ (e : Nat) (k dn : List UInt8), e = 0 ∧ dn = [] ∧ l = dn ++ k ∧ dn.length = e := ⟨0, l, [], rfl, rfl, rfl, rfl⟩
  rw [show (4, some (Value.int .i64 0)) = (4, some (Value.int .i64 (e : Int))) by rw [he]; rfl]
  rw [show (3, some (Value.int .i64 0)) = (3, some (Value.int .i64 (dval dn : Int))) by rw [hn]; rfl]
  clear he hn nuE fr
  induction k generalizing e dn with
  | nil =>
    have hle : l.length = e := by rw [ha]; simp [h3]
    have hlt : ((e : Int) < (l.length : Int)) = False := by simp; omega
    have hd2 : dn = l := by rw [ha]; simp
    refine LoopA.intro (by kernel_rfl) ?_
    intro ν fr; have nuE := fr.nu
    simp (maxDischargeDepth := 16) only [argE_nil, argE_cons, ↓vmD, vmV, vmStd, Nat.reduceMul, ↓reduceIte, Nat.reduceAdd, Nat.reduceSub, Nat.reduceEqDiff, Nat.reduceLT, Nat.reduceLeDiff, reduceCtorEq, Int.reduceToNat, Int.reduceLT, Int.reduceLE, Int.reduceEq, Int.reduceNeg, Int.reduceBEq, Int.reduceBNe, String.reduceEq, forall_const, ↓vmDA, vmVA, ↓vmQA, vmR, vmRA, ↓vmSA, vmSV, tyS, nuE, digits03_v, isDate03_v, rreference_v, valueOf_v, bs_size, hlt, hd2]
  | cons c k ih =>
    have hle : e < l.length := by rw [ha]; simp; omega
    have hlt : ((e : Int) < (l.length : Int)) = True := by simp; omega
    have we : IntKind.i64.wrap ((e : Int) + 1) = ((e + 1 : Nat) : Int) := by rw [w_i64 (by omega) (by omega)]; omega
    have hc : l[e]? = some c := by rw [ha, List.getElem?_append_right (by omega), h3]; simp
    have hd0 := hd
    rw [ha] at hd0
    simp only [List.all_append, List.all_cons, Bool.and_eq_true] at hd0
    have hb := dval_lt dn.length dn rfl hd0.1
    have hb2 : dval dn < 1000000000000000 := Nat.lt_of_lt_of_le hb (Nat.le_trans (Nat.pow_le_pow_right (by omega) (show dn.length ≤ 12 by omega)) (by decide))
    have vl := val_loop (dval dn) c hd0.2.1 hb2
    refine LoopA.intro (by kernel_rfl) ?_
    intro ν fr; have nuE := fr.nu
    simp (maxDischargeDepth := 16) only [argE_nil, argE_cons, ↓vmD, vmV, vmStd, Nat.reduceMul, ↓reduceIte, Nat.reduceAdd, Nat.reduceSub, Nat.reduceEqDiff, Nat.reduceLT, Nat.reduceLeDiff, reduceCtorEq, Int.reduceToNat, Int.reduceLT, Int.reduceLE, Int.reduceEq, Int.reduceNeg, Int.reduceBEq, Int.reduceBNe, String.reduceEq, forall_const, ↓vmDA, vmVA, ↓vmQA, vmR, vmRA, ↓vmSA, vmSV, tyS, nuE, digits03_v, isDate03_v, rreference_v, valueOf_v, bs_size, hlt, bs_at, hc, vl, we]
    exact LoopA.weak (ih (e + 1) (dn ++ [c]) (by rw [ha]; simp) (by simp; omega)) (by simp only [subE, get_cons, Nat.reduceEqDiff, ↓reduceIte, reduceCtorEq, Nat.reduceAdd, and_self, and_true, dval_app]) (SubA.refl _)
theorem rvalue_v (l : List UInt8) (hl : l.length ≤ 12) (hd : l.all digB = true) (A_ : AH) : valA Tryd.prog 36 #[.string (bs l)] A_ = some (.int .i64 (dval l : Int)) := valA_eq (pureA_of (by kernel_rfl) (rvalue_h l hl hd))
def splV (l : List UInt8) : Value := if l.length = 12 then if l.all digB = true then if dval (l.drop 6) = 0 then .tuple #[.int .i64 0, .int .i64 0, .int .i64 0, .int .i64 4] else .tuple #[.int .i64 (dval (l.take 5) : Int), .int .i64 (dval ((l.take 6).drop 5) : Int), .int .i64 (dval (l.drop 6) : Int), .int .i64 0] else .tuple #[.int .i64 0, .int .i64 0, .int .i64 0, .int .i64 2] else .tuple #[.int .i64 0, .int .i64 0, .int .i64 0, .int .i64 2]
theorem split_h (l : List UInt8) (hl : l.length ≤ 1000000) : CallA Tryd.prog 21 #[.string (bs l)] [] (fun u_ _ => u_ = splV l) := by
  refine callA_of_denA ⟨Tryd.prog, 21, Tryd.f21, 38, [0, 2, 3, 4, 5, 6, 11, 12], [], [(12, .q false)], _⟩ (args := [_]) Tryd.func21 rfl (by kernel_rfl) Tryd.ntmps21 (by simp) (by kernel_rfl) ?_
  intro ν fr; have nuE := fr.nu
  by_cases h12 : l.length = 12
  · have q : ((l.length : Int) != 12) = false := by simp; omega
    simp (maxDischargeDepth := 16) only [argE_nil, argE_cons, ↓vmD, vmV, vmStd, Nat.reduceMul, ↓reduceIte, Nat.reduceAdd, Nat.reduceSub, Nat.reduceEqDiff, Nat.reduceLT, Nat.reduceLeDiff, reduceCtorEq, Int.reduceToNat, Int.reduceLT, Int.reduceLE, Int.reduceEq, Int.reduceNeg, Int.reduceBEq, Int.reduceBNe, String.reduceEq, forall_const, ↓vmDA, vmVA, ↓vmQA, vmR, vmRA, ↓vmSA, vmSV, tyS, nuE, digits03_v, isDate03_v, rreference_v, valueOf_v, rvalue_v, bs_size, q]
    obtain ⟨e, k, dn, he, ha, h3, hd⟩ : ∃ (e : Nat) (k dn : List UInt8), e = 0 ∧ l = dn ++ k ∧ dn.length = e ∧ dn.all digB = true := ⟨0, l, [], rfl, rfl, rfl, rfl⟩
    rw [show (12, some (Value.int .i64 0)) = (12, some (Value.int .i64 (e : Int))) by rw [he]; rfl]
    clear he nuE fr
    induction k generalizing e dn with
    | nil =>
      have hle : l.length = e := by rw [ha]; simp [h3]
      have hlt : ((e : Int) < 12) = False := by simp; omega
      have hd2 : dn = l := by rw [ha]; simp
      rw [hd2] at hd
      have a1 : (l.drop 6).all digB = true := List.all_eq_true.2 fun x hx => List.all_eq_true.1 hd x (List.mem_of_mem_drop hx)
      have a2 : (l.take 5).all digB = true := List.all_eq_true.2 fun x hx => List.all_eq_true.1 hd x (List.mem_of_mem_take hx)
      have a3 : ((l.take 6).drop 5).all digB = true := List.all_eq_true.2 fun x hx => List.all_eq_true.1 hd x (List.mem_of_mem_take (List.mem_of_mem_drop hx))
      have t12 : l.take 12 = l := by rw [← h12]; exact List.take_length
      have v1 := fun A => valueOf_v (l.drop 6) (by simp; omega) a1 A
      have v2 := fun A => valueOf_v (l.take 5) (by simp; omega) a2 A
      have v3 := fun A => valueOf_v ((l.take 6).drop 5) (by simp; omega) a3 A
      have b1 : ((6 : Int) ≤ (l.length : Int)) = True := by simp; omega
      have b2 : ((5 : Int) ≤ (l.length : Int)) = True := by simp; omega
      refine LoopA.intro (by kernel_rfl) ?_
      intro ν fr; have nuE := fr.nu
      by_cases hz : dval (l.drop 6) = 0
      · have z : (((dval (l.drop 6) : Nat) : Int) == 0) = true := by rw [hz]; rfl
        simp (maxDischargeDepth := 16) only [argE_nil, argE_cons, ↓vmD, vmV, vmStd, Nat.reduceMul, ↓reduceIte, Nat.reduceAdd, Nat.reduceSub, Nat.reduceEqDiff, Nat.reduceLT, Nat.reduceLeDiff, reduceCtorEq, Int.reduceToNat, Int.reduceLT, Int.reduceLE, Int.reduceEq, Int.reduceNeg, Int.reduceBEq, Int.reduceBNe, String.reduceEq, forall_const, ↓vmDA, vmVA, ↓vmQA, vmR, vmRA, ↓vmSA, vmSV, tyS, nuE, digits03_v, isDate03_v, rreference_v, valueOf_v, rvalue_v, bs_size, hlt, bs_ext, t12, v1, v2, v3, b1, b2, z, splV, h12, hd, hz]
      · have z : (((dval (l.drop 6) : Nat) : Int) == 0) = false := by simp; omega
        simp (maxDischargeDepth := 16) only [argE_nil, argE_cons, ↓vmD, vmV, vmStd, Nat.reduceMul, ↓reduceIte, Nat.reduceAdd, Nat.reduceSub, Nat.reduceEqDiff, Nat.reduceLT, Nat.reduceLeDiff, reduceCtorEq, Int.reduceToNat, Int.reduceLT, Int.reduceLE, Int.reduceEq, Int.reduceNeg, Int.reduceBEq, Int.reduceBNe, String.reduceEq, forall_const, ↓vmDA, vmVA, ↓vmQA, vmR, vmRA, ↓vmSA, vmSV, tyS, nuE, digits03_v, isDate03_v, rreference_v, valueOf_v, rvalue_v, bs_size, hlt, bs_ext, t12, v1, v2, v3, b1, b2, z, splV, h12, hd, hz]
    | cons c k ih =>
      have hle : e < l.length := by rw [ha]; simp; omega
      have hlt : ((e : Int) < (l.length : Int)) = True := by simp; omega
      have we : IntKind.i64.wrap ((e : Int) + 1) = ((e + 1 : Nat) : Int) := by rw [w_i64 (by omega) (by omega)]; omega
      have hc : l[e]? = some c := by rw [ha, List.getElem?_append_right (by omega), h3]; simp
      refine LoopA.intro (by kernel_rfl) ?_
      intro ν fr; have nuE := fr.nu
      by_cases hb : digB c = true
      · have hb2 := hb
        simp only [digB, Bool.and_eq_true, decide_eq_true_eq] at hb2
        have c1 : ((c.toNat : Int) < 48) = False := by simp; omega
        have c2 : ((57 : Int) < (c.toNat : Int)) = False := by simp; omega
        simp (maxDischargeDepth := 16) only [argE_nil, argE_cons, ↓vmD, vmV, vmStd, Nat.reduceMul, ↓reduceIte, Nat.reduceAdd, Nat.reduceSub, Nat.reduceEqDiff, Nat.reduceLT, Nat.reduceLeDiff, reduceCtorEq, Int.reduceToNat, Int.reduceLT, Int.reduceLE, Int.reduceEq, Int.reduceNeg, Int.reduceBEq, Int.reduceBNe, String.reduceEq, forall_const, ↓vmDA, vmVA, ↓vmQA, vmR, vmRA, ↓vmSA, vmSV, tyS, nuE, digits03_v, isDate03_v, rreference_v, valueOf_v, rvalue_v, bs_size, hlt, bs_at, hc, c1, c2, we]
        exact LoopA.weak (ih (e + 1) (dn ++ [c]) (by rw [ha]; simp) (by simp; omega) (by simp [hd, hb])) (by simp only [subE, get_cons, Nat.reduceEqDiff, ↓reduceIte, reduceCtorEq, Nat.reduceAdd, and_self, and_true]) (SubA.refl _)
      · have hv : splV l = .tuple #[.int .i64 0, .int .i64 0, .int .i64 0, .int .i64 2] := by
          have : l.all digB = false := by rw [ha]; simp [hb]
          simp [splV, h12, this]
        rw [hv]
        have hb2 : c.toNat < 48 ∨ 57 < c.toNat := by
          simp only [digB, Bool.and_eq_true, decide_eq_true_eq] at hb
          omega
        by_cases c0 : c.toNat < 48
        · have c1 : ((c.toNat : Int) < 48) = True := by simp; omega
          simp (maxDischargeDepth := 16) only [argE_nil, argE_cons, ↓vmD, vmV, vmStd, Nat.reduceMul, ↓reduceIte, Nat.reduceAdd, Nat.reduceSub, Nat.reduceEqDiff, Nat.reduceLT, Nat.reduceLeDiff, reduceCtorEq, Int.reduceToNat, Int.reduceLT, Int.reduceLE, Int.reduceEq, Int.reduceNeg, Int.reduceBEq, Int.reduceBNe, String.reduceEq, forall_const, ↓vmDA, vmVA, ↓vmQA, vmR, vmRA, ↓vmSA, vmSV, tyS, nuE, digits03_v, isDate03_v, rreference_v, valueOf_v, rvalue_v, bs_size, hlt, bs_at, hc, c1]
        · have c1 : ((c.toNat : Int) < 48) = False := by simp; omega
          have c2 : ((57 : Int) < (c.toNat : Int)) = True := by simp; omega
          simp (maxDischargeDepth := 16) only [argE_nil, argE_cons, ↓vmD, vmV, vmStd, Nat.reduceMul, ↓reduceIte, Nat.reduceAdd, Nat.reduceSub, Nat.reduceEqDiff, Nat.reduceLT, Nat.reduceLeDiff, reduceCtorEq, Int.reduceToNat, Int.reduceLT, Int.reduceLE, Int.reduceEq, Int.reduceNeg, Int.reduceBEq, Int.reduceBNe, String.reduceEq, forall_const, ↓vmDA, vmVA, ↓vmQA, vmR, vmRA, ↓vmSA, vmSV, tyS, nuE, digits03_v, isDate03_v, rreference_v, valueOf_v, rvalue_v, bs_size, hlt, bs_at, hc, c1, c2]
  · have q : ((l.length : Int) != 12) = true := by simp; omega
    simp (maxDischargeDepth := 16) only [argE_nil, argE_cons, ↓vmD, vmV, vmStd, Nat.reduceMul, ↓reduceIte, Nat.reduceAdd, Nat.reduceSub, Nat.reduceEqDiff, Nat.reduceLT, Nat.reduceLeDiff, reduceCtorEq, Int.reduceToNat, Int.reduceLT, Int.reduceLE, Int.reduceEq, Int.reduceNeg, Int.reduceBEq, Int.reduceBNe, String.reduceEq, forall_const, ↓vmDA, vmVA, ↓vmQA, vmR, vmRA, ↓vmSA, vmSV, tyS, nuE, digits03_v, isDate03_v, rreference_v, valueOf_v, rvalue_v, bs_size, q, splV, h12]
theorem split_v (l : List UInt8) (hl : l.length ≤ 1000000) (A_ : AH) : valA Tryd.prog 21 #[.string (bs l)] A_ = some (splV l) := valA_eq (pureA_of (by kernel_rfl) (split_h l hl))
theorem rsplit_h (l : List UInt8) (hl : l.length ≤ 1000000) : CallA Tryd.prog 22 #[.string (bs l)] [] (fun u_ _ => u_ = splV l) := by
  refine callA_of_denA ⟨Tryd.prog, 22, Tryd.f22, 37, [0, 2, 3, 4, 5, 6], [], [(10, .q false)], _⟩ (args := [_]) Tryd.func22 rfl (by kernel_rfl) Tryd.ntmps22 (by simp) (by kernel_rfl) ?_
  intro ν fr; have nuE := fr.nu
  by_cases h12 : l.length = 12
  · have q : ((l.length : Int) != 12) = false := by simp; omega
    simp (maxDischargeDepth := 16) only [argE_nil, argE_cons, ↓vmD, vmV, vmStd, Nat.reduceMul, ↓reduceIte, Nat.reduceAdd, Nat.reduceSub, Nat.reduceEqDiff, Nat.reduceLT, Nat.reduceLeDiff, reduceCtorEq, Int.reduceToNat, Int.reduceLT, Int.reduceLE, Int.reduceEq, Int.reduceNeg, Int.reduceBEq, Int.reduceBNe, String.reduceEq, forall_const, ↓vmDA, vmVA, ↓vmQA, vmR, vmRA, ↓vmSA, vmSV, tyS, nuE, digits03_v, isDate03_v, rreference_v, valueOf_v, rvalue_v, split_v, bs_size, q]
    obtain ⟨e, k, dn, he, ha, h3, hd⟩ : ∃ (e : Nat) (k dn : List UInt8), e = 0 ∧ l = dn ++ k ∧ dn.length = e ∧ dn.all digB = true := ⟨0, l, [], rfl, rfl, rfl, rfl⟩
    rw [show (6, some (Value.int .i64 0)) = (6, some (Value.int .i64 (e : Int))) by rw [he]; rfl]
    clear he nuE fr
    induction k generalizing e dn with
    | nil =>
      have hle : l.length = e := by rw [ha]; simp [h3]
      have hlt : ((e : Int) < 12) = False := by simp; omega
      have hd2 : dn = l := by rw [ha]; simp
      rw [hd2] at hd
      have a1 : (l.drop 6).all digB = true := List.all_eq_true.2 fun x hx => List.all_eq_true.1 hd x (List.mem_of_mem_drop hx)
      have a2 : (l.take 5).all digB = true := List.all_eq_true.2 fun x hx => List.all_eq_true.1 hd x (List.mem_of_mem_take hx)
      have a3 : ((l.take 6).drop 5).all digB = true := List.all_eq_true.2 fun x hx => List.all_eq_true.1 hd x (List.mem_of_mem_take (List.mem_of_mem_drop hx))
      have t12 : l.take 12 = l := by rw [← h12]; exact List.take_length
      have v1 := fun A => rvalue_v (l.drop 6) (by simp; omega) a1 A
      have v2 := fun A => rvalue_v (l.take 5) (by simp; omega) a2 A
      have v3 := fun A => rvalue_v ((l.take 6).drop 5) (by simp; omega) a3 A
      have b1 : ((6 : Int) ≤ (l.length : Int)) = True := by simp; omega
      have b2 : ((5 : Int) ≤ (l.length : Int)) = True := by simp; omega
      refine LoopA.intro (by kernel_rfl) ?_
      intro ν fr; have nuE := fr.nu
      by_cases hz : dval (l.drop 6) = 0
      · have z : (((dval (l.drop 6) : Nat) : Int) == 0) = true := by rw [hz]; rfl
        simp (maxDischargeDepth := 16) only [argE_nil, argE_cons, ↓vmD, vmV, vmStd, Nat.reduceMul, ↓reduceIte, Nat.reduceAdd, Nat.reduceSub, Nat.reduceEqDiff, Nat.reduceLT, Nat.reduceLeDiff, reduceCtorEq, Int.reduceToNat, Int.reduceLT, Int.reduceLE, Int.reduceEq, Int.reduceNeg, Int.reduceBEq, Int.reduceBNe, String.reduceEq, forall_const, ↓vmDA, vmVA, ↓vmQA, vmR, vmRA, ↓vmSA, vmSV, tyS, nuE, digits03_v, isDate03_v, rreference_v, valueOf_v, rvalue_v, split_v, bs_size, hlt, bs_ext, t12, v1, v2, v3, b1, b2, z, splV, h12, hd, hz]
      · have z : (((dval (l.drop 6) : Nat) : Int) == 0) = false := by simp; omega
        simp (maxDischargeDepth := 16) only [argE_nil, argE_cons, ↓vmD, vmV, vmStd, Nat.reduceMul, ↓reduceIte, Nat.reduceAdd, Nat.reduceSub, Nat.reduceEqDiff, Nat.reduceLT, Nat.reduceLeDiff, reduceCtorEq, Int.reduceToNat, Int.reduceLT, Int.reduceLE, Int.reduceEq, Int.reduceNeg, Int.reduceBEq, Int.reduceBNe, String.reduceEq, forall_const, ↓vmDA, vmVA, ↓vmQA, vmR, vmRA, ↓vmSA, vmSV, tyS, nuE, digits03_v, isDate03_v, rreference_v, valueOf_v, rvalue_v, split_v, bs_size, hlt, bs_ext, t12, v1, v2, v3, b1, b2, z, splV, h12, hd, hz]
    | cons c k ih =>
      have hle : e < l.length := by rw [ha]; simp; omega
      have hlt : ((e : Int) < 12) = True := by simp; omega
      have we : IntKind.i64.wrap ((e : Int) + 1) = ((e + 1 : Nat) : Int) := by rw [w_i64 (by omega) (by omega)]; omega
      have hc : l[e]? = some c := by rw [ha, List.getElem?_append_right (by omega), h3]; simp
      refine LoopA.intro (by kernel_rfl) ?_
      intro ν fr; have nuE := fr.nu
      by_cases hb : digB c = true
      · have hb2 := hb
        simp only [digB, Bool.and_eq_true, decide_eq_true_eq] at hb2
        have c1 : ((c.toNat : Int) < 48) = False := by simp; omega
        have c2 : ((57 : Int) < (c.toNat : Int)) = False := by simp; omega
        simp (maxDischargeDepth := 16) only [argE_nil, argE_cons, ↓vmD, vmV, vmStd, Nat.reduceMul, ↓reduceIte, Nat.reduceAdd, Nat.reduceSub, Nat.reduceEqDiff, Nat.reduceLT, Nat.reduceLeDiff, reduceCtorEq, Int.reduceToNat, Int.reduceLT, Int.reduceLE, Int.reduceEq, Int.reduceNeg, Int.reduceBEq, Int.reduceBNe, String.reduceEq, forall_const, ↓vmDA, vmVA, ↓vmQA, vmR, vmRA, ↓vmSA, vmSV, tyS, nuE, digits03_v, isDate03_v, rreference_v, valueOf_v, rvalue_v, split_v, bs_size, hlt, bs_at, hc, c1, c2, we]
        exact LoopA.weak (ih (e + 1) (dn ++ [c]) (by rw [ha]; simp) (by simp; omega) (by simp [hd, hb])) (by simp only [subE, get_cons, Nat.reduceEqDiff, ↓reduceIte, reduceCtorEq, Nat.reduceAdd, and_self, and_true]) (SubA.refl _)
      · have hv : splV l = .tuple #[.int .i64 0, .int .i64 0, .int .i64 0, .int .i64 2] := by
          have : l.all digB = false := by rw [ha]; simp [hb]
          simp [splV, h12, this]
        rw [hv]
        have hb2 : c.toNat < 48 ∨ 57 < c.toNat := by
          simp only [digB, Bool.and_eq_true, decide_eq_true_eq] at hb
          omega
        by_cases c0 : c.toNat < 48
        · have c1 : ((c.toNat : Int) < 48) = True := by simp; omega
          simp (maxDischargeDepth := 16) only [argE_nil, argE_cons, ↓vmD, vmV, vmStd, Nat.reduceMul, ↓reduceIte, Nat.reduceAdd, Nat.reduceSub, Nat.reduceEqDiff, Nat.reduceLT, Nat.reduceLeDiff, reduceCtorEq, Int.reduceToNat, Int.reduceLT, Int.reduceLE, Int.reduceEq, Int.reduceNeg, Int.reduceBEq, Int.reduceBNe, String.reduceEq, forall_const, ↓vmDA, vmVA, ↓vmQA, vmR, vmRA, ↓vmSA, vmSV, tyS, nuE, digits03_v, isDate03_v, rreference_v, valueOf_v, rvalue_v, split_v, bs_size, hlt, bs_at, hc, c1]
        · have c1 : ((c.toNat : Int) < 48) = False := by simp; omega
          have c2 : ((57 : Int) < (c.toNat : Int)) = True := by simp; omega
          simp (maxDischargeDepth := 16) only [argE_nil, argE_cons, ↓vmD, vmV, vmStd, Nat.reduceMul, ↓reduceIte, Nat.reduceAdd, Nat.reduceSub, Nat.reduceEqDiff, Nat.reduceLT, Nat.reduceLeDiff, reduceCtorEq, Int.reduceToNat, Int.reduceLT, Int.reduceLE, Int.reduceEq, Int.reduceNeg, Int.reduceBEq, Int.reduceBNe, String.reduceEq, forall_const, ↓vmDA, vmVA, ↓vmQA, vmR, vmRA, ↓vmSA, vmSV, tyS, nuE, digits03_v, isDate03_v, rreference_v, valueOf_v, rvalue_v, split_v, bs_size, hlt, bs_at, hc, c1, c2]
  · have q : ((l.length : Int) != 12) = true := by simp; omega
    simp (maxDischargeDepth := 16) only [argE_nil, argE_cons, ↓vmD, vmV, vmStd, Nat.reduceMul, ↓reduceIte, Nat.reduceAdd, Nat.reduceSub, Nat.reduceEqDiff, Nat.reduceLT, Nat.reduceLeDiff, reduceCtorEq, Int.reduceToNat, Int.reduceLT, Int.reduceLE, Int.reduceEq, Int.reduceNeg, Int.reduceBEq, Int.reduceBNe, String.reduceEq, forall_const, ↓vmDA, vmVA, ↓vmQA, vmR, vmRA, ↓vmSA, vmSV, tyS, nuE, digits03_v, isDate03_v, rreference_v, valueOf_v, rvalue_v, split_v, bs_size, q, splV, h12]
theorem rsplit_v (l : List UInt8) (hl : l.length ≤ 1000000) (A_ : AH) : valA Tryd.prog 22 #[.string (bs l)] A_ = some (splV l) := valA_eq (pureA_of (by kernel_rfl) (rsplit_h l hl))
end Go.Proofs.YthmkhmgmoflmkaaDoor
