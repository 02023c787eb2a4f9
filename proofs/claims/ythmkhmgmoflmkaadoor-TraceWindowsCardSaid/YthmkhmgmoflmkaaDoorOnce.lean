/-
TraceOnce: the walk.
Conditions: none.
-/
import Derived.Test.YthmkhmgmoflmkaaDoorRefs
namespace Go.Proofs.YthmkhmgmoflmkaaDoor
open Go.Vm
set_option linter.unusedSimpArgs false
set_option linter.unusedVariables false
set_option maxHeartbeats 2000000
set_option maxRecDepth 20000
theorem enc_ascii (n : Nat) (h : n < 128) : Utf8.encode (n : Int) = bs [UInt8.ofNat n] := by
  unfold Utf8.encode
  have hv : Utf8.valid (n : Int) = true := by simp [Utf8.valid]; omega
  simp only [hv, if_true, Int.toNat_natCast]
  rw [if_pos (by omega)]
  rfl
def otherK (i : Nat) : ByteArray := bs ([111, 116, 104, 101, 114] ++ [UInt8.ofNat (65 + i % 26)] ++ [UInt8.ofNat (65 + i / 26)])
theorem other_inj {i j : Nat} (hi : i < 256) (hj : j < 256) (h : otherK i = otherK j) : i = j := by
  have := bs_inj h
  simp only [List.cons_append, List.nil_append, List.cons.injEq, true_and, and_true] at this
  obtain ⟨h1, h2⟩ := this
  have h1 := congrArg UInt8.toNat h1
  have h2 := congrArg UInt8.toNat h2
  simp at h1 h2
  omega
theorem other_key (i : Nat) : otherK i ≠ ⟨#[107, 101, 121]⟩ := by
  intro h
  have := congrArg ByteArray.size h
  simp [otherK, bs_size] at this
  exact absurd this (by decide)
def LL (a : Int) (m : Nat) : List En := ⟨⟨#[107, 101, 121]⟩, ⟨#[102, 105, 114, 115, 116]⟩, a⟩ :: (List.range m).map fun j => ⟨otherK j, ⟨#[120]⟩, a⟩
theorem LL_len (a : Int) (m : Nat) : (LL a m).length = m + 1 := by simp [LL]
theorem other_not (a : Int) (m : Nat) (h : m < 256) : otherK m ∉ keysL (LL a m) := by
  simp only [LL, keysL, List.map_cons, List.mem_cons, not_or, List.map_map, List.mem_map, List.mem_range]
  refine ⟨other_key m, ?_⟩
  rintro ⟨j, hj, e⟩
  have := other_inj (i := j) (j := m) (by omega) h e
  omega
theorem seen_other (H a : Int) (m : Nat) (h : m < 255) : seenL H (otherK m) ⟨#[120]⟩ a (LL a m) = LL a (m + 1) := by
  have hg : getE (otherK m) (LL a m) = none := by unfold getE; rw [posS_of_not (other_not a m (by omega))]
  have hr : remL (otherK m) (LL a m) = LL a m := by unfold remL; rw [posS_of_not (other_not a m (by omega))]
  have ht : trimL (LL a m) = LL a m := by unfold trimL; rw [if_neg (by rw [LL_len]; omega)]
  unfold seenL
  rw [hg]
  simp only [keptE]
  rw [hr, ht]
  simp [LL, List.range_succ]
theorem get_key (a : Int) (m : Nat) : getE ⟨#[107, 101, 121]⟩ (LL a m) = some ⟨⟨#[107, 101, 121]⟩, ⟨#[102, 105, 114, 115, 116]⟩, a⟩ := by simp [getE, LL, keysL, posS]
theorem rem_key (a : Int) (m : Nat) : remL ⟨#[107, 101, 121]⟩ (LL a m) = (LL a m).tail := by simp [remL, LL, keysL, posS]
def L2 (a t : Int) (m : Nat) : List En := (LL a m).tail ++ [⟨⟨#[107, 101, 121]⟩, ⟨#[115, 101, 99, 111, 110, 100]⟩, t⟩]
theorem get_key2 (a t : Int) (m : Nat) : getE ⟨#[107, 101, 121]⟩ (L2 a t m) = some ⟨⟨#[107, 101, 121]⟩, ⟨#[115, 101, 99, 111, 110, 100]⟩, t⟩ := by
  have hn : ∀ (l : List En) (x : En), x.key ∉ keysL l → getE x.key (l ++ [x]) = some x := by
    intro l x hx
    have : posS x.key (keysL (l ++ [x])) = some l.length := by
      induction l with
      | nil => simp [keysL, posS]
      | cons y l ih =>
        simp only [keysL, List.map_cons, List.mem_cons, not_or] at hx
        have := ih hx.2
        simp only [keysL, List.cons_append, List.map_cons, posS] at this ⊢
        rw [if_neg (fun e => hx.1 e.symm), this]
        rfl
    unfold getE
    rw [this]
    simp
  exact hn _ ⟨⟨#[107, 101, 121]⟩, ⟨#[115, 101, 99, 111, 110, 100]⟩, t⟩ (by
    simp only [LL, List.tail_cons, keysL, List.map_map, List.mem_map, List.mem_range]
    rintro ⟨j, hj, e⟩
    exact other_key j e)
theorem u64_diff (a k : Int) (h0 : 0 ≤ k) (h1 : k ≤ 65535) : IntKind.u64.wrap (IntKind.u64.wrap (a + k) - IntKind.u64.wrap a) = k := by
  have e : ∀ n, IntKind.u64.wrap n = n % 18446744073709551616 := fun n => by simp [IntKind.wrap, IntKind.signed, IntKind.bits]
  rw [e, e, e]
  omega
theorem rem_once {H a k : Int} (hH : 1 ≤ H ∧ H ≤ 1099511627776) (h0 : 0 ≤ k) (h1 : k ≤ 65535) : remB H a (a + k) = decide (k < H) := by
  have e : ∀ n, IntKind.u64.wrap n = n % 18446744073709551616 := fun n => by simp [IntKind.wrap, IntKind.signed, IntKind.bits]
  unfold remB
  rw [u64_diff a k h0 h1]
  have : IntKind.u64.wrap H = H := by rw [e]; omega
  rw [this]
  by_cases hk : k = 0
  · subst hk
    simp
    omega
  · have : ¬ a + k ≤ a := by omega
    simp [this]
theorem newWn_h (H : Int) (h : H < 1 ∨ 1099511627776 < H) : CallA Tryd.prog 11 #[.int .i64 H] [] (fun u_ _ => u_ = .tuple #[.pointer none, .int .i64 4]) := by
  refine callA_of_denA ⟨Tryd.prog, 11, Tryd.f11, 14, [0, 2, 3], [], [], _⟩ (args := [_]) Tryd.func11 rfl (by kernel_rfl) Tryd.ntmps11 (by simp) (by kernel_rfl) ?_
  intro ν fr; have nuE := fr.nu
  simp (maxDischargeDepth := 16) only [argE_nil, argE_cons, ↓vmD, vmV, vmStd, Nat.reduceMul, ↓reduceIte, Nat.reduceAdd, Nat.reduceSub, Nat.reduceEqDiff, Nat.reduceLT, Nat.reduceLeDiff, reduceCtorEq, Int.reduceToNat, Int.reduceLT, Int.reduceLE, Int.reduceEq, Int.reduceNeg, Int.reduceBEq, Int.reduceBNe, String.reduceEq, forall_const, ↓vmDA, vmVA, ↓vmQA, vmR, vmRA, ↓vmSA, vmSV, tyS, nuE, digits03_v, isDate03_v, rreference_v, valueOf_v, rvalue_v, split_v, rsplit_v]
  all_goals ((repeat' split) <;> (try simp_all) <;> (try omega))
theorem newWn_v (H : Int) (h : H < 1 ∨ 1099511627776 < H) (A_ : AH) : valA Tryd.prog 11 #[.int .i64 H] A_ = some (.tuple #[.pointer none, .int .i64 4]) := valA_eq (pureA_of (by kernel_rfl) (newWn_h H h))
theorem onceLaw_h (A : AH) (hT : TabA A) (H a : Int) (k m : Nat) (hk : k ≤ 65535) (hm : m ≤ 255) : CallA Tryd.prog 4 #[.int .i64 H, .int .i64 a, .int .u16 (k : Int), .int .u8 (m : Int)] A (fun u_ A_ => u_ = .bool true ∧ SubA A A_) := by
  refine callA_of_denA ⟨Tryd.prog, 4, Tryd.f4, 123, [0, 1, 2, 3, 8, 9, 10, 12, 13, 14, 15, 16, 17], [11, 12], [], _⟩ (args := [_, _, _, _]) Tryd.func4 rfl (by kernel_rfl) Tryd.ntmps4 (by simp) (by kernel_rfl) ?_
  intro ν fr; have nuE := fr.nu
  have aw := awake12_w A hT
  by_cases hH : 1 ≤ H ∧ H ≤ 1099511627776
  · simp (maxDischargeDepth := 16) only [argE_nil, argE_cons, ↓vmD, vmV, vmStd, Nat.reduceMul, ↓reduceIte, Nat.reduceAdd, Nat.reduceSub, Nat.reduceEqDiff, Nat.reduceLT, Nat.reduceLeDiff, reduceCtorEq, Int.reduceToNat, Int.reduceLT, Int.reduceLE, Int.reduceEq, Int.reduceNeg, Int.reduceBEq, Int.reduceBNe, String.reduceEq, forall_const, ↓vmDA, vmVA, ↓vmQA, vmR, vmRA, ↓vmSA, vmSV, tyS, nuE, SubA.skip, SubA.refl, fr.2, digits03_v, isDate03_v, rreference_v, valueOf_v, rvalue_v, split_v, rsplit_v, newWn_v]
    refine CallA.use (newW_h H hH) (SubA.nil _) (fun v D h b hb => absurd rfl hb) A (SubA.refl _) (Dis.nil _) ?_
    rintro u D ⟨wb, rfl, E1, hE1, hs1⟩ dD
    refine ⟨E1, hs1, ?_⟩
    have d1 := dD.subl hs1
    intro ν1 fr1
    have fr := fr1
    have nuE := fr.nu
    by_cases ha : a < -1099511627776
    · have awE := aw (E1 ++ A) d1.right
      simp (maxDischargeDepth := 16) only [argE_nil, argE_cons, ↓vmD, vmV, vmStd, Nat.reduceMul, ↓reduceIte, Nat.reduceAdd, Nat.reduceSub, Nat.reduceEqDiff, Nat.reduceLT, Nat.reduceLeDiff, reduceCtorEq, Int.reduceToNat, Int.reduceLT, Int.reduceLE, Int.reduceEq, Int.reduceNeg, Int.reduceBEq, Int.reduceBNe, String.reduceEq, forall_const, ↓vmDA, vmVA, ↓vmQA, vmR, vmRA, ↓vmSA, vmSV, tyS, nuE, digits03_v, isDate03_v, rreference_v, valueOf_v, rvalue_v, split_v, rsplit_v, newWn_v, ha, awE]
      exact d1.right
    by_cases ha2 : 1099511627776 < a
    · have awE := aw (E1 ++ A) d1.right
      simp (maxDischargeDepth := 16) only [argE_nil, argE_cons, ↓vmD, vmV, vmStd, Nat.reduceMul, ↓reduceIte, Nat.reduceAdd, Nat.reduceSub, Nat.reduceEqDiff, Nat.reduceLT, Nat.reduceLeDiff, reduceCtorEq, Int.reduceToNat, Int.reduceLT, Int.reduceLE, Int.reduceEq, Int.reduceNeg, Int.reduceBEq, Int.reduceBNe, String.reduceEq, forall_const, ↓vmDA, vmVA, ↓vmQA, vmR, vmRA, ↓vmSA, vmSV, tyS, nuE, digits03_v, isDate03_v, rreference_v, valueOf_v, rvalue_v, split_v, rsplit_v, newWn_v, ha, ha2, awE]
      exact d1.right
    simp (maxDischargeDepth := 16) only [argE_nil, argE_cons, ↓vmD, vmV, vmStd, Nat.reduceMul, ↓reduceIte, Nat.reduceAdd, Nat.reduceSub, Nat.reduceEqDiff, Nat.reduceLT, Nat.reduceLeDiff, reduceCtorEq, Int.reduceToNat, Int.reduceLT, Int.reduceLE, Int.reduceEq, Int.reduceNeg, Int.reduceBEq, Int.reduceBNe, String.reduceEq, forall_const, ↓vmDA, vmVA, ↓vmQA, vmR, vmRA, ↓vmSA, vmSV, tyS, nuE, digits03_v, isDate03_v, rreference_v, valueOf_v, rvalue_v, split_v, rsplit_v, newWn_v, ha, ha2]
    refine WinE.use (seenW_h E1 wb H [] hE1 a ⟨#[107, 101, 121]⟩ ⟨#[102, 105, 114, 115, 116]⟩) (SubA.left _ _) d1.right d1 ?_
    intro E2 hE2 d2
    rw [show seenL H ⟨#[107, 101, 121]⟩ ⟨#[102, 105, 114, 115, 116]⟩ a [] = LL a 0 by kernel_rfl] at hE2
    rw [show seenV H ⟨#[107, 101, 121]⟩ a [] = .tuple #[.string ⟨#[]⟩, .bool false] by kernel_rfl]
    intro ν2 fr2
    have fr := fr2
    have nuE := fr.nu
    simp (maxDischargeDepth := 16) only [argE_nil, argE_cons, ↓vmD, vmV, vmStd, Nat.reduceMul, ↓reduceIte, Nat.reduceAdd, Nat.reduceSub, Nat.reduceEqDiff, Nat.reduceLT, Nat.reduceLeDiff, reduceCtorEq, Int.reduceToNat, Int.reduceLT, Int.reduceLE, Int.reduceEq, Int.reduceNeg, Int.reduceBEq, Int.reduceBNe, String.reduceEq, forall_const, ↓vmDA, vmVA, ↓vmQA, vmR, vmRA, ↓vmSA, vmSV, tyS, nuE, digits03_v, isDate03_v, rreference_v, valueOf_v, rvalue_v, split_v, rsplit_v, newWn_v]
    obtain ⟨e, j, he, hj, hW⟩ : ∃ (e j : Nat), e = 0 ∧ e + j = m ∧ WinE E2 wb H (LL a e) := ⟨0, m, rfl, by omega, hE2⟩
    rw [show (13, some (Value.int .i64 0)) = (13, some (Value.int .i64 (e : Int))) by rw [he]; rfl]
    clear he nuE fr fr2 fr1 hE2
    have wm : IntKind.i64.wrap (m : Int) = (m : Int) := w_i64 (by omega) (by omega)
    induction j generalizing e E2 with
    | succ j ih =>
      have hlt : ((e : Int) < (m : Int)) = True := by simp; omega
      have we : IntKind.i64.wrap ((e : Int) + 1) = ((e + 1 : Nat) : Int) := by rw [w_i64 (by omega) (by omega)]; omega
      have q1 : (e : Int).tmod 26 = ((e % 26 : Nat) : Int) := by rw [Int.tmod_eq_emod_of_nonneg (by omega)]; omega
      have q2 : IntKind.i64.wrap ((e : Int).tdiv 26) = ((e / 26 : Nat) : Int) := by rw [Int.tdiv_eq_ediv_of_nonneg (by omega), w_i64 (by omega) (by omega)]; omega
      have q3 : IntKind.i64.wrap (65 + ((e % 26 : Nat) : Int)) = ((65 + e % 26 : Nat) : Int) := by rw [w_i64 (by omega) (by omega)]; omega
      have q4 : IntKind.i64.wrap (65 + ((e / 26 : Nat) : Int)) = ((65 + e / 26 : Nat) : Int) := by rw [w_i64 (by omega) (by omega)]; omega
      have w32 : ∀ x : Nat, x < 1000 → IntKind.i32.wrap (x : Int) = (x : Int) := fun x hx => by simp [IntKind.wrap, IntKind.signed, IntKind.bits]; omega
      have q5 := w32 (65 + e % 26) (by omega)
      have q6 := w32 (65 + e / 26) (by omega)
      have q7 := enc_ascii (65 + e % 26) (by omega)
      have q8 := enc_ascii (65 + e / 26) (by omega)
      have e5 : (ByteArray.mk #[111, 116, 104, 101, 114]) = bs [111, 116, 104, 101, 114] := rfl
      refine LoopA.intro (by kernel_rfl) ?_
      intro ν fr; have nuE := fr.nu
      simp (maxDischargeDepth := 16) only [argE_nil, argE_cons, ↓vmD, vmV, vmStd, Nat.reduceMul, ↓reduceIte, Nat.reduceAdd, Nat.reduceSub, Nat.reduceEqDiff, Nat.reduceLT, Nat.reduceLeDiff, reduceCtorEq, Int.reduceToNat, Int.reduceLT, Int.reduceLE, Int.reduceEq, Int.reduceNeg, Int.reduceBEq, Int.reduceBNe, String.reduceEq, forall_const, ↓vmDA, vmVA, ↓vmQA, vmR, vmRA, ↓vmSA, vmSV, tyS, nuE, digits03_v, isDate03_v, rreference_v, valueOf_v, rvalue_v, split_v, rsplit_v, newWn_v, hlt, wm, q1, q2, q3, q4, q5, q6, q7, q8, e5, bs_app, bs_size]
      refine WinE.use (seenW_h E2 wb H _ hW a (otherK e) ⟨#[120]⟩) (SubA.left _ _) d2.right d2 ?_
      intro E3 hE3 d3
      rw [seen_other H a e (by omega)] at hE3
      intro ν2 fr2
      have fr := fr2
      have nuE := fr.nu
      simp (maxDischargeDepth := 16) only [argE_nil, argE_cons, ↓vmD, vmV, vmStd, Nat.reduceMul, ↓reduceIte, Nat.reduceAdd, Nat.reduceSub, Nat.reduceEqDiff, Nat.reduceLT, Nat.reduceLeDiff, reduceCtorEq, Int.reduceToNat, Int.reduceLT, Int.reduceLE, Int.reduceEq, Int.reduceNeg, Int.reduceBEq, Int.reduceBNe, String.reduceEq, forall_const, ↓vmDA, vmVA, ↓vmQA, vmR, vmRA, ↓vmSA, vmSV, tyS, nuE, digits03_v, isDate03_v, rreference_v, valueOf_v, rvalue_v, split_v, rsplit_v, newWn_v, we]
      exact LoopA.weak (ih E3 d3 (e + 1) (by omega) hE3) (by simp only [subE, get_cons, Nat.reduceEqDiff, ↓reduceIte, reduceCtorEq, Nat.reduceAdd, and_self, and_true]) (SubA.refl _)
    | zero =>
      have hem : e = m := by omega
      subst hem
      have hlt : ((e : Int) < (e : Int)) = False := by simp
      have w16 : IntKind.i64.wrap (k : Int) = (k : Int) := w_i64 (by omega) (by omega)
      have wt : IntKind.i64.wrap (a + (k : Int)) = a + (k : Int) := w_i64 (by omega) (by omega)
      have rm := rem_once (a := a) (k := (k : Int)) hH (by omega) (by omega)
      refine LoopA.intro (by kernel_rfl) ?_
      intro ν fr; have nuE := fr.nu
      simp (maxDischargeDepth := 16) only [argE_nil, argE_cons, ↓vmD, vmV, vmStd, Nat.reduceMul, ↓reduceIte, Nat.reduceAdd, Nat.reduceSub, Nat.reduceEqDiff, Nat.reduceLT, Nat.reduceLeDiff, reduceCtorEq, Int.reduceToNat, Int.reduceLT, Int.reduceLE, Int.reduceEq, Int.reduceNeg, Int.reduceBEq, Int.reduceBNe, String.reduceEq, forall_const, ↓vmDA, vmVA, ↓vmQA, vmR, vmRA, ↓vmSA, vmSV, tyS, nuE, digits03_v, isDate03_v, rreference_v, valueOf_v, rvalue_v, split_v, rsplit_v, newWn_v, hlt, wm, w16, wt]
      refine WinE.use (seenW_h E2 wb H _ hW (a + (k : Int)) ⟨#[107, 101, 121]⟩ ⟨#[115, 101, 99, 111, 110, 100]⟩) (SubA.left _ _) d2.right d2 ?_
      intro E3 hE3 d3
      by_cases hkH : (k : Int) < H
      · have ke : keptE H (a + (k : Int)) (getE ⟨#[107, 101, 121]⟩ (LL a e)) = some ⟨⟨#[107, 101, 121]⟩, ⟨#[102, 105, 114, 115, 116]⟩, a⟩ := by rw [get_key]; simp [keptE, rm, hkH]
        have v1 : seenV H ⟨#[107, 101, 121]⟩ (a + (k : Int)) (LL a e) = .tuple #[.string ⟨#[102, 105, 114, 115, 116]⟩, .bool true] := by unfold seenV; rw [ke]
        have l1 : seenL H ⟨#[107, 101, 121]⟩ ⟨#[115, 101, 99, 111, 110, 100]⟩ (a + (k : Int)) (LL a e) = LL a e := by unfold seenL; rw [ke]
        rw [l1] at hE3
        rw [v1]
        intro ν2 fr2
        have fr := fr2
        have nuE := fr.nu
        have h1 : ((k : Int) < H) = True := eq_true hkH
        have h2 : (H ≤ (k : Int)) = False := eq_false (by omega)
        simp (maxDischargeDepth := 16) only [argE_nil, argE_cons, ↓vmD, vmV, vmStd, Nat.reduceMul, ↓reduceIte, Nat.reduceAdd, Nat.reduceSub, Nat.reduceEqDiff, Nat.reduceLT, Nat.reduceLeDiff, reduceCtorEq, Int.reduceToNat, Int.reduceLT, Int.reduceLE, Int.reduceEq, Int.reduceNeg, Int.reduceBEq, Int.reduceBNe, String.reduceEq, forall_const, ↓vmDA, vmVA, ↓vmQA, vmR, vmRA, ↓vmSA, vmSV, tyS, nuE, digits03_v, isDate03_v, rreference_v, valueOf_v, rvalue_v, split_v, rsplit_v, newWn_v, w16, h1]
        refine WinE.use (seenW_h E3 wb H _ hE3 (a + (k : Int)) ⟨#[107, 101, 121]⟩ ⟨#[116, 104, 105, 114, 100]⟩) (SubA.left _ _) d3.right d3 ?_
        intro E4 hE4 d4
        rw [v1]
        intro ν3 fr3
        have fr := fr3
        have nuE := fr.nu
        have awE := aw (E4 ++ A) d4.right
        simp (maxDischargeDepth := 16) only [argE_nil, argE_cons, ↓vmD, vmV, vmStd, Nat.reduceMul, ↓reduceIte, Nat.reduceAdd, Nat.reduceSub, Nat.reduceEqDiff, Nat.reduceLT, Nat.reduceLeDiff, reduceCtorEq, Int.reduceToNat, Int.reduceLT, Int.reduceLE, Int.reduceEq, Int.reduceNeg, Int.reduceBEq, Int.reduceBNe, String.reduceEq, forall_const, ↓vmDA, vmVA, ↓vmQA, vmR, vmRA, ↓vmSA, vmSV, tyS, nuE, digits03_v, isDate03_v, rreference_v, valueOf_v, rvalue_v, split_v, rsplit_v, newWn_v, w16, h2, awE]
        exact d4.right
      · have ke : keptE H (a + (k : Int)) (getE ⟨#[107, 101, 121]⟩ (LL a e)) = none := by rw [get_key]; simp [keptE, rm, hkH]
        have v1 : seenV H ⟨#[107, 101, 121]⟩ (a + (k : Int)) (LL a e) = .tuple #[.string ⟨#[]⟩, .bool false] := by unfold seenV; rw [ke]
        have l1 : seenL H ⟨#[107, 101, 121]⟩ ⟨#[115, 101, 99, 111, 110, 100]⟩ (a + (k : Int)) (LL a e) = L2 a (a + (k : Int)) e := by
          unfold seenL
          rw [ke]
          simp only
          rw [rem_key]
          unfold trimL
          rw [if_neg (by rw [List.length_tail, LL_len]; omega)]
          rfl
        rw [l1] at hE3
        rw [v1]
        intro ν2 fr2
        have fr := fr2
        have nuE := fr.nu
        have h1 : ((k : Int) < H) = False := eq_false hkH
        have h2 : (H ≤ (k : Int)) = True := eq_true (by omega)
        have ke2 : keptE H (a + (k : Int)) (getE ⟨#[107, 101, 121]⟩ (L2 a (a + (k : Int)) e)) = some ⟨⟨#[107, 101, 121]⟩, ⟨#[115, 101, 99, 111, 110, 100]⟩, a + (k : Int)⟩ := by rw [get_key2]; simp [keptE, remB]
        have v2 : seenV H ⟨#[107, 101, 121]⟩ (a + (k : Int)) (L2 a (a + (k : Int)) e) = .tuple #[.string ⟨#[115, 101, 99, 111, 110, 100]⟩, .bool true] := by unfold seenV; rw [ke2]
        simp (maxDischargeDepth := 16) only [argE_nil, argE_cons, ↓vmD, vmV, vmStd, Nat.reduceMul, ↓reduceIte, Nat.reduceAdd, Nat.reduceSub, Nat.reduceEqDiff, Nat.reduceLT, Nat.reduceLeDiff, reduceCtorEq, Int.reduceToNat, Int.reduceLT, Int.reduceLE, Int.reduceEq, Int.reduceNeg, Int.reduceBEq, Int.reduceBNe, String.reduceEq, forall_const, ↓vmDA, vmVA, ↓vmQA, vmR, vmRA, ↓vmSA, vmSV, tyS, nuE, digits03_v, isDate03_v, rreference_v, valueOf_v, rvalue_v, split_v, rsplit_v, newWn_v, w16, h1]
        refine WinE.use (seenW_h E3 wb H _ hE3 (a + (k : Int)) ⟨#[107, 101, 121]⟩ ⟨#[116, 104, 105, 114, 100]⟩) (SubA.left _ _) d3.right d3 ?_
        intro E4 hE4 d4
        rw [v2]
        intro ν3 fr3
        have fr := fr3
        have nuE := fr.nu
        have awE := aw (E4 ++ A) d4.right
        simp (maxDischargeDepth := 16) only [argE_nil, argE_cons, ↓vmD, vmV, vmStd, Nat.reduceMul, ↓reduceIte, Nat.reduceAdd, Nat.reduceSub, Nat.reduceEqDiff, Nat.reduceLT, Nat.reduceLeDiff, reduceCtorEq, Int.reduceToNat, Int.reduceLT, Int.reduceLE, Int.reduceEq, Int.reduceNeg, Int.reduceBEq, Int.reduceBNe, String.reduceEq, forall_const, ↓vmDA, vmVA, ↓vmQA, vmR, vmRA, ↓vmSA, vmSV, tyS, nuE, digits03_v, isDate03_v, rreference_v, valueOf_v, rvalue_v, split_v, rsplit_v, newWn_v, w16, h2, awE]
        exact d4.right
  · have hH2 : H < 1 ∨ 1099511627776 < H := by omega
    simp (maxDischargeDepth := 16) only [argE_nil, argE_cons, ↓vmD, vmV, vmStd, Nat.reduceMul, ↓reduceIte, Nat.reduceAdd, Nat.reduceSub, Nat.reduceEqDiff, Nat.reduceLT, Nat.reduceLeDiff, reduceCtorEq, Int.reduceToNat, Int.reduceLT, Int.reduceLE, Int.reduceEq, Int.reduceNeg, Int.reduceBEq, Int.reduceBNe, String.reduceEq, forall_const, ↓vmDA, vmVA, ↓vmQA, vmR, vmRA, ↓vmSA, vmSV, tyS, nuE, SubA.skip, SubA.refl, fr.2, digits03_v, isDate03_v, rreference_v, valueOf_v, rvalue_v, split_v, rsplit_v, newWn_v]
    refine CallA.of_pure (valA_out (newWn_v H hH2 _)) ?_
    intro ν1 fr1
    have fr := fr1
    have nuE := fr.nu
    simp (maxDischargeDepth := 16) only [argE_nil, argE_cons, ↓vmD, vmV, vmStd, Nat.reduceMul, ↓reduceIte, Nat.reduceAdd, Nat.reduceSub, Nat.reduceEqDiff, Nat.reduceLT, Nat.reduceLeDiff, reduceCtorEq, Int.reduceToNat, Int.reduceLT, Int.reduceLE, Int.reduceEq, Int.reduceNeg, Int.reduceBEq, Int.reduceBNe, String.reduceEq, forall_const, ↓vmDA, vmVA, ↓vmQA, vmR, vmRA, ↓vmSA, vmSV, tyS, nuE, SubA.skip, SubA.refl, fr.2, digits03_v, isDate03_v, rreference_v, valueOf_v, rvalue_v, split_v, rsplit_v, newWn_v, aw]
theorem onceLaw_w (A : AH) (hT : TabA A) (H a : Int) (k m : Nat) (hk : k ≤ 65535) (hm : m ≤ 255) (B_ : AH) (hB_ : SubA A B_) : valA Tryd.prog 4 #[.int .i64 H, .int .i64 a, .int .u16 (k : Int), .int .u8 (m : Int)] B_ = some (.bool true) := valA_eq (pureA_at (by kernel_rfl) (onceLaw_h A hT H a k m hk hm) hB_)
theorem onceLaw_v (A : AH) (hT : TabA A) (H a : Int) (k m : Nat) (hk : k ≤ 65535) (hm : m ≤ 255) : valA Tryd.prog 4 #[.int .i64 H, .int .i64 a, .int .u16 (k : Int), .int .u8 (m : Int)] A = some (.bool true) := valA_eq (pureA_at (by kernel_rfl) (onceLaw_h A hT H a k m hk hm) (SubA.refl _))
theorem once_walk (w : World) (ht : Lib.TabIs Tryd.prog w "internal/strconv.uint64pow10" .u64 Lib.pow10Tab) (H : Int) (wH : (Lit.int .i64 H).wf = true) (a : Int) (wa : (Lit.int .i64 a).wf = true) (k : Int) (wk : (Lit.int .u16 k).wf = true) (m : Int) (wm : (Lit.int .u8 m).wf = true) :
    CallsH Tryd.prog 4 #[.int .i64 H, .int .i64 a, .int .u16 k, .int .u8 m] w.heap fun e h' => e = .returned (.bool true) ∧ Grew w.heap h' := by
  obtain ⟨A, hA, hT⟩ := TabA.of ht
  simp [Lit.wf, IntKind.min, IntKind.max, IntKind.bits, IntKind.signed] at wk wm
  obtain ⟨k, rfl⟩ := Int.eq_ofNat_of_zero_le (show 0 ≤ k by omega)
  obtain ⟨m, rfl⟩ := Int.eq_ofNat_of_zero_le (show 0 ≤ m by omega)
  exact callsH_of_pure (onceLaw_v A hT H a k m (by omega) (by omega)) (by kernel_rfl) hA
end Go.Proofs.YthmkhmgmoflmkaaDoor
