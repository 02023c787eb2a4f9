/-
TraceWindows: the walk.
Conditions: none.
-/
import Derived.Test.YthmkhmgmoflmkaaDoorPForg
import Derived.Test.YthmkhmgmoflmkaaDoorOnce
import Derived.Test.YthmkhmgmoflmkaaDoorVmAR
namespace Go.Proofs.YthmkhmgmoflmkaaDoor
open Go.Vm
set_option linter.unusedSimpArgs false
set_option linter.unusedVariables false
set_option maxHeartbeats 2000000
set_option maxRecDepth 20000
theorem rnewW_h (H : Int) (hH : 1 ≤ H ∧ H ≤ 1099511627776) : CallA Tryd.prog 13 #[.int .i64 H] [] (fun u_ A_ => ∃ rb, u_ = .tuple #[.pointer (some ⟨rb, 0, none⟩), .int .i64 0] ∧ ∃ E, RWin E rb H [] ∧ SubA E A_) := by
  refine callA_of_denA ⟨Tryd.prog, 13, Tryd.f13, 13, [0, 2, 3], [], [], _⟩ (args := [_]) Tryd.func13 rfl (by kernel_rfl) Tryd.ntmps13 (by simp) (by kernel_rfl) ?_
  intro ν fr; have nuE := fr.nu
  have c1 : (H < 1) = False := eq_false (by omega)
  have c2 : ((1099511627776 : Int) < H) = False := eq_false (by omega)
  simp (maxDischargeDepth := 16) only [argE_nil, argE_cons, ↓vmD, vmV, vmStd, Nat.reduceMul, ↓reduceIte, Nat.reduceAdd, Nat.reduceSub, Nat.reduceEqDiff, Nat.reduceLT, Nat.reduceLeDiff, reduceCtorEq, Int.reduceToNat, Int.reduceLT, Int.reduceLE, Int.reduceEq, Int.reduceNeg, Int.reduceBEq, Int.reduceBNe, String.reduceEq, forall_const, ↓vmDA, vmVA, ↓vmQA, vmR, vmRA, ↓vmSA, vmSV, tyS, nuE, digits03_v, isDate03_v, rreference_v, valueOf_v, rvalue_v, split_v, rsplit_v, newWn_v, c1, c2]
  exact ⟨_, rfl, [(_, _)], ⟨none, 0, [], rfl, StR.nil, rfl, by simp [keysL], by simp⟩, SubE.sub ⟨by simp (maxDischargeDepth := 16) only [argE_nil, argE_cons, ↓vmD, vmV, vmStd, Nat.reduceMul, ↓reduceIte, Nat.reduceAdd, Nat.reduceSub, Nat.reduceEqDiff, Nat.reduceLT, Nat.reduceLeDiff, reduceCtorEq, Int.reduceToNat, Int.reduceLT, Int.reduceLE, Int.reduceEq, Int.reduceNeg, Int.reduceBEq, Int.reduceBNe, String.reduceEq, forall_const, ↓vmDA, vmVA, ↓vmQA, vmR, vmRA, ↓vmSA, vmSV, tyS, nuE, digits03_v, isDate03_v, rreference_v, valueOf_v, rvalue_v, split_v, rsplit_v, newWn_v], trivial⟩⟩

theorem rnewWn_h (H : Int) (h : H < 1 ∨ 1099511627776 < H) : CallA Tryd.prog 13 #[.int .i64 H] [] (fun u_ _ => u_ = .tuple #[.pointer none, .int .i64 4]) := by
  refine callA_of_denA ⟨Tryd.prog, 13, Tryd.f13, 13, [0, 2, 3], [], [], _⟩ (args := [_]) Tryd.func13 rfl (by kernel_rfl) Tryd.ntmps13 (by simp) (by kernel_rfl) ?_
  intro ν fr; have nuE := fr.nu
  simp (maxDischargeDepth := 16) only [argE_nil, argE_cons, ↓vmD, vmV, vmStd, Nat.reduceMul, ↓reduceIte, Nat.reduceAdd, Nat.reduceSub, Nat.reduceEqDiff, Nat.reduceLT, Nat.reduceLeDiff, reduceCtorEq, Int.reduceToNat, Int.reduceLT, Int.reduceLE, Int.reduceEq, Int.reduceNeg, Int.reduceBEq, Int.reduceBNe, String.reduceEq, forall_const, ↓vmDA, vmVA, ↓vmQA, vmR, vmRA, ↓vmSA, vmSV, tyS, nuE, digits03_v, isDate03_v, rreference_v, valueOf_v, rvalue_v, split_v, rsplit_v, newWn_v]
  all_goals ((repeat' split) <;> (try simp_all) <;> (try omega))
theorem rnewWn_v (H : Int) (h : H < 1 ∨ 1099511627776 < H) (A_ : AH) : valA Tryd.prog 13 #[.int .i64 H] A_ = some (.tuple #[.pointer none, .int .i64 4]) := valA_eq (pureA_of (by kernel_rfl) (rnewWn_h H h))
theorem rlenW_h (E : AH) (rb : Nat) (H : Int) (L : List En) (hE : RWin E rb H L) : CallA Tryd.prog 18 #[.pointer (some ⟨rb, 0, none⟩)] E (fun u_ A_ => u_ = .int .i64 (L.length : Int) ∧ SubA E A_) := by
  refine callA_of_denA ⟨Tryd.prog, 18, Tryd.f18, 10, [0, 2], [], [], _⟩ (args := [_]) Tryd.func18 rfl (by kernel_rfl) Tryd.ntmps18 (by simp) (by kernel_rfl) ?_
  intro ν fr; have nuE := fr.nu
  obtain ⟨p, cap, Br, rfl, hS, hr0, hnd, hl⟩ := hE
  simp (maxDischargeDepth := 16) only [argE_nil, argE_cons, ↓vmD, vmV, vmStd, Nat.reduceMul, ↓reduceIte, Nat.reduceAdd, Nat.reduceSub, Nat.reduceEqDiff, Nat.reduceLT, Nat.reduceLeDiff, reduceCtorEq, Int.reduceToNat, Int.reduceLT, Int.reduceLE, Int.reduceEq, Int.reduceNeg, Int.reduceBEq, Int.reduceBNe, String.reduceEq, forall_const, ↓vmDA, vmVA, ↓vmQA, vmR, vmRA, ↓vmSA, vmSV, tyS, nuE, SubA.skip, SubA.refl, fr.2, digits03_v, isDate03_v, rreference_v, valueOf_v, rvalue_v, split_v, rsplit_v, newWn_v, rnewWn_v]
theorem rlenW_w (E : AH) (rb : Nat) (H : Int) (L : List En) (hE : RWin E rb H L) (B_ : AH) (hB_ : SubA E B_) : valA Tryd.prog 18 #[.pointer (some ⟨rb, 0, none⟩)] B_ = some (.int .i64 (L.length : Int)) := valA_eq (pureA_at (by kernel_rfl) (rlenW_h E rb H L hE) hB_)
theorem rlenW_v (E : AH) (rb : Nat) (H : Int) (L : List En) (hE : RWin E rb H L) : valA Tryd.prog 18 #[.pointer (some ⟨rb, 0, none⟩)] E = some (.int .i64 (L.length : Int)) := valA_eq (pureA_at (by kernel_rfl) (rlenW_h E rb H L hE) (SubA.refl _))
theorem seenN_h (a : Int) (k v : ByteArray) : CallA Tryd.prog 12 #[.pointer none, .int .i64 a, .string k, .string v] [] (fun u_ _ => u_ = .tuple #[.string ⟨#[]⟩, .bool false]) := by
  refine callA_of_denA ⟨Tryd.prog, 12, Tryd.f12, 76, [0, 1, 2, 3, 8, 9, 10, 11], [], [], _⟩ (args := [_, _, _, _]) Tryd.func12 rfl (by kernel_rfl) Tryd.ntmps12 (by simp) (by kernel_rfl) ?_
  intro ν fr; have nuE := fr.nu
  simp (maxDischargeDepth := 16) only [argE_nil, argE_cons, ↓vmD, vmV, vmStd, Nat.reduceMul, ↓reduceIte, Nat.reduceAdd, Nat.reduceSub, Nat.reduceEqDiff, Nat.reduceLT, Nat.reduceLeDiff, reduceCtorEq, Int.reduceToNat, Int.reduceLT, Int.reduceLE, Int.reduceEq, Int.reduceNeg, Int.reduceBEq, Int.reduceBNe, String.reduceEq, forall_const, ↓vmDA, vmVA, ↓vmQA, vmR, vmRA, ↓vmSA, vmSV, tyS, nuE, digits03_v, isDate03_v, rreference_v, valueOf_v, rvalue_v, split_v, rsplit_v, newWn_v, rnewWn_v]
theorem seenN_v (a : Int) (k v : ByteArray) (A_ : AH) : valA Tryd.prog 12 #[.pointer none, .int .i64 a, .string k, .string v] A_ = some (.tuple #[.string ⟨#[]⟩, .bool false]) := valA_eq (pureA_of (by kernel_rfl) (seenN_h a k v))
theorem forgetN_h (a : Int) : CallA Tryd.prog 14 #[.pointer none, .int .i64 a] [] (fun u_ _ => u_ = .int .i64 0) := by
  refine callA_of_denA ⟨Tryd.prog, 14, Tryd.f14, 58, [0, 1, 4, 5, 7, 8, 20, 21, 22], [], [], _⟩ (args := [_, _]) Tryd.func14 rfl (by kernel_rfl) Tryd.ntmps14 (by simp) (by kernel_rfl) ?_
  intro ν fr; have nuE := fr.nu
  simp (maxDischargeDepth := 16) only [argE_nil, argE_cons, ↓vmD, vmV, vmStd, Nat.reduceMul, ↓reduceIte, Nat.reduceAdd, Nat.reduceSub, Nat.reduceEqDiff, Nat.reduceLT, Nat.reduceLeDiff, reduceCtorEq, Int.reduceToNat, Int.reduceLT, Int.reduceLE, Int.reduceEq, Int.reduceNeg, Int.reduceBEq, Int.reduceBNe, String.reduceEq, forall_const, ↓vmDA, vmVA, ↓vmQA, vmR, vmRA, ↓vmSA, vmSV, tyS, nuE, digits03_v, isDate03_v, rreference_v, valueOf_v, rvalue_v, split_v, rsplit_v, newWn_v, rnewWn_v, seenN_v]
theorem forgetN_v (a : Int) (A_ : AH) : valA Tryd.prog 14 #[.pointer none, .int .i64 a] A_ = some (.int .i64 0) := valA_eq (pureA_of (by kernel_rfl) (forgetN_h a))
theorem lenN_h : CallA Tryd.prog 17 #[.pointer none] [] (fun u_ _ => u_ = .int .i64 0) := by
  refine callA_of_denA ⟨Tryd.prog, 17, Tryd.f17, 10, [0, 2], [], [], _⟩ (args := [_]) Tryd.func17 rfl (by kernel_rfl) Tryd.ntmps17 (by simp) (by kernel_rfl) ?_
  intro ν fr; have nuE := fr.nu
  simp (maxDischargeDepth := 16) only [argE_nil, argE_cons, ↓vmD, vmV, vmStd, Nat.reduceMul, ↓reduceIte, Nat.reduceAdd, Nat.reduceSub, Nat.reduceEqDiff, Nat.reduceLT, Nat.reduceLeDiff, reduceCtorEq, Int.reduceToNat, Int.reduceLT, Int.reduceLE, Int.reduceEq, Int.reduceNeg, Int.reduceBEq, Int.reduceBNe, String.reduceEq, forall_const, ↓vmDA, vmVA, ↓vmQA, vmR, vmRA, ↓vmSA, vmSV, tyS, nuE, digits03_v, isDate03_v, rreference_v, valueOf_v, rvalue_v, split_v, rsplit_v, newWn_v, rnewWn_v, seenN_v, forgetN_v]
theorem lenN_v (A_ : AH) : valA Tryd.prog 17 #[.pointer none] A_ = some (.int .i64 0) := valA_eq (pureA_of (by kernel_rfl) (lenN_h ))
theorem RWin.use {E X A : AH} {P : Program} {g : FuncId} {args : Array Value} {K : Value → AH → Prop} {u0 : Value} {wb : Nat} {H : Int} {L' : List En}
    (hc : CallA P g args E fun u A' => u = u0 ∧ ∃ E', RWin E' wb H L' ∧ SubA E' A' ∧ ∀ b, Vm.look E b ≠ none → Vm.look A' b ≠ none) (hs : SubA E A) (hX : SubA X A) (hd : Dis E X)
    (hk : ∀ E', RWin E' wb H L' → Dis E' X → K u0 (E' ++ X)) : CallA P g args A K :=
  CallA.use hc hs (fun v D h b hb => h.2.choose_spec.2.2 b hb) X hX hd (by
    rintro v D ⟨rfl, E', h1, h2, h3⟩ dD
    exact ⟨E', h2, hk E' h1 (dD.subl h2)⟩)
theorem seenV_form (H : Int) (key : ByteArray) (t : Int) (L : List En) : ∃ s b, seenV H key t L = .tuple #[.string s, .bool b] := by
  unfold seenV
  split <;> exact ⟨_, _, rfl⟩
structure Ask where
  tm : Int
  key : ByteArray
  val : ByteArray
  fg : Bool
def askC (x : Ask) : List Value := [.int .i64 x.tm, .string x.key, .string x.val, .bool x.fg]
theorem ask_len (x : Ask) : (askC x).length = 4 := rfl
theorem ask_agg (x : Ask) : Value.agg (askC x).toArray = .agg #[.int .i64 x.tm, .string x.key, .string x.val, .bool x.fg] := rfl
theorem winsLaw_h (A : AH) (hT : TabA A) (H : Int) (L : List Ask) (p : Option Addr) (cap : Nat) (hL : StR askC 4 A p L) : CallA Tryd.prog 5 #[.int .i64 H, .slice p L.length cap] A (fun u_ A_ => u_ = .bool true ∧ SubA A A_) := by
  refine callA_of_denA ⟨Tryd.prog, 5, Tryd.f5, 137, [0, 1, 4, 5, 6, 7, 8, 9, 10, 11, 12, 13, 14, 15, 16, 17], [11, 13, 12, 16, 14, 15, 17, 18], [], _⟩ (args := [_, _]) Tryd.func5 rfl (by kernel_rfl) Tryd.ntmps5 (by simp) (by kernel_rfl) ?_
  intro ν fr; have nuE := fr.nu
  have aw := awake12_w A hT
  by_cases hl : 400 < L.length
  · have h1 : ((400 : Int) < (L.length : Int)) = True := eq_true (by omega)
    simp (maxDischargeDepth := 16) only [argE_nil, argE_cons, ↓vmD, vmV, vmStd, Nat.reduceMul, ↓reduceIte, Nat.reduceAdd, Nat.reduceSub, Nat.reduceEqDiff, Nat.reduceLT, Nat.reduceLeDiff, reduceCtorEq, Int.reduceToNat, Int.reduceLT, Int.reduceLE, Int.reduceEq, Int.reduceNeg, Int.reduceBEq, Int.reduceBNe, String.reduceEq, forall_const, ↓vmDA, vmVA, ↓vmQA, vmR, vmRA, ↓vmSA, vmSV, tyS, nuE, SubA.skip, SubA.refl, fr.2, digits03_v, isDate03_v, rreference_v, valueOf_v, rvalue_v, split_v, rsplit_v, newWn_v, rnewWn_v, seenN_v, forgetN_v, lenN_v, h1, aw]
  have h1 : ((400 : Int) < (L.length : Int)) = False := eq_false (by omega)
  by_cases hH : 1 ≤ H ∧ H ≤ 1099511627776
  · simp (maxDischargeDepth := 16) only [argE_nil, argE_cons, ↓vmD, vmV, vmStd, Nat.reduceMul, ↓reduceIte, Nat.reduceAdd, Nat.reduceSub, Nat.reduceEqDiff, Nat.reduceLT, Nat.reduceLeDiff, reduceCtorEq, Int.reduceToNat, Int.reduceLT, Int.reduceLE, Int.reduceEq, Int.reduceNeg, Int.reduceBEq, Int.reduceBNe, String.reduceEq, forall_const, ↓vmDA, vmVA, ↓vmQA, vmR, vmRA, ↓vmSA, vmSV, tyS, nuE, SubA.skip, SubA.refl, fr.2, digits03_v, isDate03_v, rreference_v, valueOf_v, rvalue_v, split_v, rsplit_v, newWn_v, rnewWn_v, seenN_v, forgetN_v, lenN_v, h1]
    refine CallA.use (newW_h H hH) (SubA.nil _) (fun v D h b hb => absurd rfl hb) A (SubA.refl _) (Dis.nil _) ?_
    rintro u D ⟨wb, rfl, E1, hE1, hs1⟩ dD
    refine ⟨E1, hs1, ?_⟩
    have d1 := dD.subl hs1
    intro ν1 fr1
    have fr := fr1
    have nuE := fr.nu
    simp (maxDischargeDepth := 16) only [argE_nil, argE_cons, ↓vmD, vmV, vmStd, Nat.reduceMul, ↓reduceIte, Nat.reduceAdd, Nat.reduceSub, Nat.reduceEqDiff, Nat.reduceLT, Nat.reduceLeDiff, reduceCtorEq, Int.reduceToNat, Int.reduceLT, Int.reduceLE, Int.reduceEq, Int.reduceNeg, Int.reduceBEq, Int.reduceBNe, String.reduceEq, forall_const, ↓vmDA, vmVA, ↓vmQA, vmR, vmRA, ↓vmSA, vmSV, tyS, nuE, digits03_v, isDate03_v, rreference_v, valueOf_v, rvalue_v, split_v, rsplit_v, newWn_v, rnewWn_v, seenN_v, forgetN_v, lenN_v]
    clear fr nuE fr1
    refine CallA.use (rnewW_h H hH) (SubA.nil _) (fun v D h b hb => absurd rfl hb) (E1 ++ A) (SubA.refl _) (Dis.nil _) ?_
    rintro u D ⟨rb, rfl, R1, hR1, hs2⟩ dD2
    refine ⟨R1, hs2, ?_⟩
    have d2 := dD2.subl hs2
    intro ν2 fr2
    have fr := fr2
    have nuE := fr.nu
    simp (maxDischargeDepth := 16) only [argE_nil, argE_cons, ↓vmD, vmV, vmStd, Nat.reduceMul, ↓reduceIte, Nat.reduceAdd, Nat.reduceSub, Nat.reduceEqDiff, Nat.reduceLT, Nat.reduceLeDiff, reduceCtorEq, Int.reduceToNat, Int.reduceLT, Int.reduceLE, Int.reduceEq, Int.reduceNeg, Int.reduceBEq, Int.reduceBNe, String.reduceEq, forall_const, ↓vmDA, vmVA, ↓vmQA, vmR, vmRA, ↓vmSA, vmSV, tyS, nuE, digits03_v, isDate03_v, rreference_v, valueOf_v, rvalue_v, split_v, rsplit_v, newWn_v, rnewWn_v, seenN_v, forgetN_v, lenN_v]
    obtain ⟨e, l, M, he, h3, hE, hR⟩ : ∃ (e : Nat) (l : List Ask) (M : List En), e = 0 ∧ l = L.drop e ∧ WinE E1 wb H M ∧ RWin R1 rb H M := ⟨0, L, [], rfl, by simp, hE1, hR1⟩
    rw [show (9, some (Value.int .i64 0)) = (9, some (Value.int .i64 (e : Int))) by rw [he]; rfl]
    have sp : Sep [R1, E1, A] := Sep.cons d2 (Sep.cons d1 (Sep.one A))
    clear he nuE fr fr2 hE1 hR1 dD dD2 d2 d1 hs1 hs2
    induction l generalizing e M E1 R1 with
    | nil =>
      have hle := drop_nil h3
      have hlt : ((e : Int) < (L.length : Int)) = False := by simp; omega
      have sA : SubA A (R1 ++ (E1 ++ A)) := sp.subs [2] rfl
      refine LoopA.intro (by kernel_rfl) ?_
      intro ν fr; have nuE := fr.nu
      have awE := aw _ sA
      simp (maxDischargeDepth := 16) only [argE_nil, argE_cons, ↓vmD, vmV, vmStd, Nat.reduceMul, ↓reduceIte, Nat.reduceAdd, Nat.reduceSub, Nat.reduceEqDiff, Nat.reduceLT, Nat.reduceLeDiff, reduceCtorEq, Int.reduceToNat, Int.reduceLT, Int.reduceLE, Int.reduceEq, Int.reduceNeg, Int.reduceBEq, Int.reduceBNe, String.reduceEq, forall_const, ↓vmDA, vmVA, ↓vmQA, vmR, vmRA, ↓vmSA, vmSV, tyS, nuE, digits03_v, isDate03_v, rreference_v, valueOf_v, rvalue_v, split_v, rsplit_v, newWn_v, rnewWn_v, seenN_v, forgetN_v, lenN_v, hlt]
      refine CallA.of_pure (valA_out (seenN_v 0 ⟨#[97]⟩ ⟨#[98]⟩ _)) ?_
      intro νa fra
      have fr := fra
      have nuE := fr.nu
      simp (maxDischargeDepth := 16) only [argE_nil, argE_cons, ↓vmD, vmV, vmStd, Nat.reduceMul, ↓reduceIte, Nat.reduceAdd, Nat.reduceSub, Nat.reduceEqDiff, Nat.reduceLT, Nat.reduceLeDiff, reduceCtorEq, Int.reduceToNat, Int.reduceLT, Int.reduceLE, Int.reduceEq, Int.reduceNeg, Int.reduceBEq, Int.reduceBNe, String.reduceEq, forall_const, ↓vmDA, vmVA, ↓vmQA, vmR, vmRA, ↓vmSA, vmSV, tyS, nuE, digits03_v, isDate03_v, rreference_v, valueOf_v, rvalue_v, split_v, rsplit_v, newWn_v, rnewWn_v, seenN_v, forgetN_v, lenN_v]
      refine CallA.of_pure (valA_out (forgetN_v 0 _)) ?_
      intro νb frb
      have fr := frb
      have nuE := fr.nu
      simp (maxDischargeDepth := 16) only [argE_nil, argE_cons, ↓vmD, vmV, vmStd, Nat.reduceMul, ↓reduceIte, Nat.reduceAdd, Nat.reduceSub, Nat.reduceEqDiff, Nat.reduceLT, Nat.reduceLeDiff, reduceCtorEq, Int.reduceToNat, Int.reduceLT, Int.reduceLE, Int.reduceEq, Int.reduceNeg, Int.reduceBEq, Int.reduceBNe, String.reduceEq, forall_const, ↓vmDA, vmVA, ↓vmQA, vmR, vmRA, ↓vmSA, vmSV, tyS, nuE, digits03_v, isDate03_v, rreference_v, valueOf_v, rvalue_v, split_v, rsplit_v, newWn_v, rnewWn_v, seenN_v, forgetN_v, lenN_v]
      refine CallA.of_pure (valA_out (lenN_v _)) ?_
      intro νc frc
      have fr := frc
      have nuE := fr.nu
      simp (maxDischargeDepth := 16) only [argE_nil, argE_cons, ↓vmD, vmV, vmStd, Nat.reduceMul, ↓reduceIte, Nat.reduceAdd, Nat.reduceSub, Nat.reduceEqDiff, Nat.reduceLT, Nat.reduceLeDiff, reduceCtorEq, Int.reduceToNat, Int.reduceLT, Int.reduceLE, Int.reduceEq, Int.reduceNeg, Int.reduceBEq, Int.reduceBNe, String.reduceEq, forall_const, ↓vmDA, vmVA, ↓vmQA, vmR, vmRA, ↓vmSA, vmSV, tyS, nuE, digits03_v, isDate03_v, rreference_v, valueOf_v, rvalue_v, split_v, rsplit_v, newWn_v, rnewWn_v, seenN_v, forgetN_v, lenN_v, awE]
      exact sA
    | cons x l ih =>
      obtain ⟨ha, hl2, h3'⟩ := drop_some h3
      have hlt : ((e : Int) < (L.length : Int)) = True := by simp; omega
      have we : IntKind.i64.wrap ((e : Int) + 1) = ((e + 1 : Nat) : Int) := by rw [w_i64 (by omega) (by omega)]; omega
      obtain ⟨bk, off, cs, ty, fr0, hp0, hbk, hc, hcc⟩ := hL.at ha
      subst hp0
      have sA : SubA A (R1 ++ (E1 ++ A)) := sp.subs [2] rfl
      have lb := sA _ _ hbk
      refine LoopA.intro (by kernel_rfl) ?_
      intro ν fr; have nuE := fr.nu
      have hr0 : Vm.look (R1 ++ (E1 ++ A)) (ν 0) = none := fr.2 0
      have awE := fun o => aw _ (SubA.skip (o := o) (sA.none hr0) sA)
      by_cases hk : 50 < x.key.size
      · have k1 : ((50 : Int) < (x.key.size : Int)) = True := eq_true (by omega)
        simp (maxDischargeDepth := 16) only [argE_nil, argE_cons, ↓vmD, vmV, vmStd, Nat.reduceMul, ↓reduceIte, Nat.reduceAdd, Nat.reduceSub, Nat.reduceEqDiff, Nat.reduceLT, Nat.reduceLeDiff, reduceCtorEq, Int.reduceToNat, Int.reduceLT, Int.reduceLE, Int.reduceEq, Int.reduceNeg, Int.reduceBEq, Int.reduceBNe, String.reduceEq, forall_const, ↓vmDA, vmVA, ↓vmQA, vmR, vmRA, ↓vmSA, vmSV, tyS, nuE, digits03_v, isDate03_v, rreference_v, valueOf_v, rvalue_v, split_v, rsplit_v, newWn_v, rnewWn_v, seenN_v, forgetN_v, lenN_v, hlt, lb, hc, ask_agg, awE, k1]
        exact SubA.skip (sA.none hr0) sA
      have k1 : ((50 : Int) < (x.key.size : Int)) = False := eq_false (by omega)
      by_cases hv : 50 < x.val.size
      · have k2 : ((50 : Int) < (x.val.size : Int)) = True := eq_true (by omega)
        simp (maxDischargeDepth := 16) only [argE_nil, argE_cons, ↓vmD, vmV, vmStd, Nat.reduceMul, ↓reduceIte, Nat.reduceAdd, Nat.reduceSub, Nat.reduceEqDiff, Nat.reduceLT, Nat.reduceLeDiff, reduceCtorEq, Int.reduceToNat, Int.reduceLT, Int.reduceLE, Int.reduceEq, Int.reduceNeg, Int.reduceBEq, Int.reduceBNe, String.reduceEq, forall_const, ↓vmDA, vmVA, ↓vmQA, vmR, vmRA, ↓vmSA, vmSV, tyS, nuE, digits03_v, isDate03_v, rreference_v, valueOf_v, rvalue_v, split_v, rsplit_v, newWn_v, rnewWn_v, seenN_v, forgetN_v, lenN_v, hlt, lb, hc, ask_agg, awE, k1, k2]
        exact SubA.skip (sA.none hr0) sA
      have k2 : ((50 : Int) < (x.val.size : Int)) = False := eq_false (by omega)
      have sp0 : ∀ q, Sep [[(ν 0, q)], R1, E1, A] := fun q => Sep.fresh (l := [R1, E1, A]) hr0 q sp
      cases hf : x.fg with
      | true =>
        simp (maxDischargeDepth := 16) only [argE_nil, argE_cons, ↓vmD, vmV, vmStd, Nat.reduceMul, ↓reduceIte, Nat.reduceAdd, Nat.reduceSub, Nat.reduceEqDiff, Nat.reduceLT, Nat.reduceLeDiff, reduceCtorEq, Int.reduceToNat, Int.reduceLT, Int.reduceLE, Int.reduceEq, Int.reduceNeg, Int.reduceBEq, Int.reduceBNe, String.reduceEq, forall_const, ↓vmDA, vmVA, ↓vmQA, vmR, vmRA, ↓vmSA, vmSV, tyS, nuE, digits03_v, isDate03_v, rreference_v, valueOf_v, rvalue_v, split_v, rsplit_v, newWn_v, rnewWn_v, seenN_v, forgetN_v, lenN_v, hlt, lb, hc, ask_agg, k1, k2, hf]
        refine MeantA.plan [(0,0),(1,0),(2,0),(4,0),(5,0),(6,0),(3,0),(7,1),(8,0)] [(ν 0, (Obj.cells #[.int .i64 x.tm, .string x.key, .string x.val, .bool true] 43))] (SubA.left _ _) (by kernel_rfl) (by kernel_rfl) (by kernel_rfl) (by kernel_rfl) (by kernel_rfl) (by kernel_rfl) ?_
        intro ν1 fr1
        have fr := fr1
        have nuE := fr.nu
        simp (maxDischargeDepth := 16) only [argE_nil, argE_cons, ↓vmD, vmV, vmStd, Nat.reduceMul, ↓reduceIte, Nat.reduceAdd, Nat.reduceSub, Nat.reduceEqDiff, Nat.reduceLT, Nat.reduceLeDiff, reduceCtorEq, Int.reduceToNat, Int.reduceLT, Int.reduceLE, Int.reduceEq, Int.reduceNeg, Int.reduceBEq, Int.reduceBNe, String.reduceEq, forall_const, ↓vmDA, vmVA, ↓vmQA, vmR, vmRA, ↓vmSA, vmSV, tyS, nuE, digits03_v, isDate03_v, rreference_v, valueOf_v, rvalue_v, split_v, rsplit_v, newWn_v, rnewWn_v, seenN_v, forgetN_v, lenN_v]
        refine WinE.use (forgetW_h E1 wb H M hE x.tm) ((sp0 _).subs [2] rfl) ((sp0 _).subs [0, 1, 3] rfl) ((sp0 _).pick [2, 0, 1, 3] rfl rfl).dis ?_
        intro E2 hE2 dE2
        simp only [cat, pick, at_, List.cons_append, List.nil_append] at dE2 ⊢
        have sp1 : Sep [E2, [(ν 0, (Obj.cells #[.int .i64 x.tm, .string x.key, .string x.val, .bool true] 43))], R1, A] := Sep.cons dE2 ((sp0 _).pick [0, 1, 3] rfl rfl)
        have lq : Vm.look (E2 ++ ((ν 0, (Obj.cells #[.int .i64 x.tm, .string x.key, .string x.val, .bool true] 43)) :: (R1 ++ A))) (ν 0) = some (Obj.cells #[.int .i64 x.tm, .string x.key, .string x.val, .bool true] 43) := sp1.sub [(ν 0, (Obj.cells #[.int .i64 x.tm, .string x.key, .string x.val, .bool true] 43))] (by simp) _ _ (by simp [Vm.look])
        intro ν1 fr1
        have fr := fr1
        have nuE := fr.nu
        simp (maxDischargeDepth := 16) only [argE_nil, argE_cons, ↓vmD, vmV, vmStd, Nat.reduceMul, ↓reduceIte, Nat.reduceAdd, Nat.reduceSub, Nat.reduceEqDiff, Nat.reduceLT, Nat.reduceLeDiff, reduceCtorEq, Int.reduceToNat, Int.reduceLT, Int.reduceLE, Int.reduceEq, Int.reduceNeg, Int.reduceBEq, Int.reduceBNe, String.reduceEq, forall_const, ↓vmDA, vmVA, ↓vmQA, vmR, vmRA, ↓vmSA, vmSV, tyS, nuE, digits03_v, isDate03_v, rreference_v, valueOf_v, rvalue_v, split_v, rsplit_v, newWn_v, rnewWn_v, seenN_v, forgetN_v, lenN_v, lq]
        refine RWin.use (rforgetW_h R1 rb H M hR x.tm) (sp1.subs [2] rfl) (sp1.subs [1, 0, 3] rfl) (sp1.pick [2, 1, 0, 3] rfl rfl).dis ?_
        intro R2 hR2 dR2
        simp only [cat, pick, at_, List.cons_append, List.nil_append] at dR2 ⊢
        have sp2 : Sep [R2, [(ν 0, (Obj.cells #[.int .i64 x.tm, .string x.key, .string x.val, .bool true] 43))], E2, A] := Sep.cons dR2 (sp1.pick [1, 0, 3] rfl rfl)
        intro ν2 fr2
        have fr := fr2
        have nuE := fr.nu
        have lq2 : Vm.look (R2 ++ ((ν 0, (Obj.cells #[.int .i64 x.tm, .string x.key, .string x.val, .bool true] 43)) :: (E2 ++ A))) (ν 0) = some (Obj.cells #[.int .i64 x.tm, .string x.key, .string x.val, .bool true] 43) := sp2.sub [(ν 0, (Obj.cells #[.int .i64 x.tm, .string x.key, .string x.val, .bool true] 43))] (by simp) _ _ (by simp [Vm.look])
        simp (maxDischargeDepth := 16) only [argE_nil, argE_cons, ↓vmD, vmV, vmStd, Nat.reduceMul, ↓reduceIte, Nat.reduceAdd, Nat.reduceSub, Nat.reduceEqDiff, Nat.reduceLT, Nat.reduceLeDiff, reduceCtorEq, Int.reduceToNat, Int.reduceLT, Int.reduceLE, Int.reduceEq, Int.reduceNeg, Int.reduceBEq, Int.reduceBNe, String.reduceEq, forall_const, ↓vmDA, vmVA, ↓vmQA, vmR, vmRA, ↓vmSA, vmSV, tyS, nuE, digits03_v, isDate03_v, rreference_v, valueOf_v, rvalue_v, split_v, rsplit_v, newWn_v, rnewWn_v, seenN_v, forgetN_v, lenN_v, lq2, BEq.rfl, bne_self_eq_false]
        refine CallA.of_pure (valA_out (lenW_w E2 wb H _ hE2 _ (sp2.subs [2] rfl))) ?_
        intro ν3 fr3
        have fr := fr3
        have nuE := fr.nu
        simp (maxDischargeDepth := 16) only [argE_nil, argE_cons, ↓vmD, vmV, vmStd, Nat.reduceMul, ↓reduceIte, Nat.reduceAdd, Nat.reduceSub, Nat.reduceEqDiff, Nat.reduceLT, Nat.reduceLeDiff, reduceCtorEq, Int.reduceToNat, Int.reduceLT, Int.reduceLE, Int.reduceEq, Int.reduceNeg, Int.reduceBEq, Int.reduceBNe, String.reduceEq, forall_const, ↓vmDA, vmVA, ↓vmQA, vmR, vmRA, ↓vmSA, vmSV, tyS, nuE, digits03_v, isDate03_v, rreference_v, valueOf_v, rvalue_v, split_v, rsplit_v, newWn_v, rnewWn_v, seenN_v, forgetN_v, lenN_v]
        refine CallA.of_pure (valA_out (rlenW_w R2 rb H _ hR2 _ (sp2.subs [0] rfl))) ?_
        intro ν4 fr4
        have fr := fr4
        have nuE := fr.nu
        simp (maxDischargeDepth := 16) only [argE_nil, argE_cons, ↓vmD, vmV, vmStd, Nat.reduceMul, ↓reduceIte, Nat.reduceAdd, Nat.reduceSub, Nat.reduceEqDiff, Nat.reduceLT, Nat.reduceLeDiff, reduceCtorEq, Int.reduceToNat, Int.reduceLT, Int.reduceLE, Int.reduceEq, Int.reduceNeg, Int.reduceBEq, Int.reduceBNe, String.reduceEq, forall_const, ↓vmDA, vmVA, ↓vmQA, vmR, vmRA, ↓vmSA, vmSV, tyS, nuE, digits03_v, isDate03_v, rreference_v, valueOf_v, rvalue_v, split_v, rsplit_v, newWn_v, rnewWn_v, seenN_v, forgetN_v, lenN_v, we]
        exact LoopA.weak (ih (E1 := E2) (R1 := R2) (e := e + 1) (M := _) (h3 := h3') (hE := hE2) (hR := hR2) (sp := sp2.pick [0, 2, 3] rfl rfl)) (by simp only [subE, get_cons, Nat.reduceEqDiff, ↓reduceIte, reduceCtorEq, Nat.reduceAdd, and_self, and_true]) (sp2.subs [0, 2, 3] rfl)
      | false =>
        obtain ⟨vs, vb, hsv⟩ := seenV_form H x.key x.tm M
        simp (maxDischargeDepth := 16) only [argE_nil, argE_cons, ↓vmD, vmV, vmStd, Nat.reduceMul, ↓reduceIte, Nat.reduceAdd, Nat.reduceSub, Nat.reduceEqDiff, Nat.reduceLT, Nat.reduceLeDiff, reduceCtorEq, Int.reduceToNat, Int.reduceLT, Int.reduceLE, Int.reduceEq, Int.reduceNeg, Int.reduceBEq, Int.reduceBNe, String.reduceEq, forall_const, ↓vmDA, vmVA, ↓vmQA, vmR, vmRA, ↓vmSA, vmSV, tyS, nuE, digits03_v, isDate03_v, rreference_v, valueOf_v, rvalue_v, split_v, rsplit_v, newWn_v, rnewWn_v, seenN_v, forgetN_v, lenN_v, hlt, lb, hc, ask_agg, k1, k2, hf]
        refine WinE.use (seenW_h E1 wb H M hE x.tm x.key x.val) ((sp0 _).subs [2] rfl) ((sp0 _).subs [0, 1, 3] rfl) ((sp0 _).pick [2, 0, 1, 3] rfl rfl).dis ?_
        intro E2 hE2 dE2
        simp only [cat, pick, at_, List.cons_append, List.nil_append] at dE2 ⊢
        rw [hsv]
        have sp1 : Sep [E2, [(ν 0, (Obj.cells #[.int .i64 x.tm, .string x.key, .string x.val, .bool false] 43))], R1, A] := Sep.cons dE2 ((sp0 _).pick [0, 1, 3] rfl rfl)
        have lq : Vm.look (E2 ++ ((ν 0, (Obj.cells #[.int .i64 x.tm, .string x.key, .string x.val, .bool false] 43)) :: (R1 ++ A))) (ν 0) = some (Obj.cells #[.int .i64 x.tm, .string x.key, .string x.val, .bool false] 43) := sp1.sub [(ν 0, (Obj.cells #[.int .i64 x.tm, .string x.key, .string x.val, .bool false] 43))] (by simp) _ _ (by simp [Vm.look])
        intro ν1 fr1
        have fr := fr1
        have nuE := fr.nu
        simp (maxDischargeDepth := 16) only [argE_nil, argE_cons, ↓vmD, vmV, vmStd, Nat.reduceMul, ↓reduceIte, Nat.reduceAdd, Nat.reduceSub, Nat.reduceEqDiff, Nat.reduceLT, Nat.reduceLeDiff, reduceCtorEq, Int.reduceToNat, Int.reduceLT, Int.reduceLE, Int.reduceEq, Int.reduceNeg, Int.reduceBEq, Int.reduceBNe, String.reduceEq, forall_const, ↓vmDA, vmVA, ↓vmQA, vmR, vmRA, ↓vmSA, vmSV, tyS, nuE, digits03_v, isDate03_v, rreference_v, valueOf_v, rvalue_v, split_v, rsplit_v, newWn_v, rnewWn_v, seenN_v, forgetN_v, lenN_v, lq]
        refine RWin.use (rseenW_h R1 rb H M hR x.tm x.key x.val) (sp1.subs [2] rfl) (sp1.subs [1, 0, 3] rfl) (sp1.pick [2, 1, 0, 3] rfl rfl).dis ?_
        intro R2 hR2 dR2
        simp only [cat, pick, at_, List.cons_append, List.nil_append] at dR2 ⊢
        rw [hsv]
        have sp2 : Sep [R2, [(ν 0, (Obj.cells #[.int .i64 x.tm, .string x.key, .string x.val, .bool false] 43))], E2, A] := Sep.cons dR2 (sp1.pick [1, 0, 3] rfl rfl)
        intro ν2 fr2
        have fr := fr2
        have nuE := fr.nu
        have lq2 : Vm.look (R2 ++ ((ν 0, (Obj.cells #[.int .i64 x.tm, .string x.key, .string x.val, .bool false] 43)) :: (E2 ++ A))) (ν 0) = some (Obj.cells #[.int .i64 x.tm, .string x.key, .string x.val, .bool false] 43) := sp2.sub [(ν 0, (Obj.cells #[.int .i64 x.tm, .string x.key, .string x.val, .bool false] 43))] (by simp) _ _ (by simp [Vm.look])
        simp (maxDischargeDepth := 16) only [argE_nil, argE_cons, ↓vmD, vmV, vmStd, Nat.reduceMul, ↓reduceIte, Nat.reduceAdd, Nat.reduceSub, Nat.reduceEqDiff, Nat.reduceLT, Nat.reduceLeDiff, reduceCtorEq, Int.reduceToNat, Int.reduceLT, Int.reduceLE, Int.reduceEq, Int.reduceNeg, Int.reduceBEq, Int.reduceBNe, String.reduceEq, forall_const, ↓vmDA, vmVA, ↓vmQA, vmR, vmRA, ↓vmSA, vmSV, tyS, nuE, digits03_v, isDate03_v, rreference_v, valueOf_v, rvalue_v, split_v, rsplit_v, newWn_v, rnewWn_v, seenN_v, forgetN_v, lenN_v, lq2, BEq.rfl, bne_self_eq_false]
        refine CallA.of_pure (valA_out (lenW_w E2 wb H _ hE2 _ (sp2.subs [2] rfl))) ?_
        intro ν3 fr3
        have fr := fr3
        have nuE := fr.nu
        simp (maxDischargeDepth := 16) only [argE_nil, argE_cons, ↓vmD, vmV, vmStd, Nat.reduceMul, ↓reduceIte, Nat.reduceAdd, Nat.reduceSub, Nat.reduceEqDiff, Nat.reduceLT, Nat.reduceLeDiff, reduceCtorEq, Int.reduceToNat, Int.reduceLT, Int.reduceLE, Int.reduceEq, Int.reduceNeg, Int.reduceBEq, Int.reduceBNe, String.reduceEq, forall_const, ↓vmDA, vmVA, ↓vmQA, vmR, vmRA, ↓vmSA, vmSV, tyS, nuE, digits03_v, isDate03_v, rreference_v, valueOf_v, rvalue_v, split_v, rsplit_v, newWn_v, rnewWn_v, seenN_v, forgetN_v, lenN_v]
        refine CallA.of_pure (valA_out (rlenW_w R2 rb H _ hR2 _ (sp2.subs [0] rfl))) ?_
        intro ν4 fr4
        have fr := fr4
        have nuE := fr.nu
        simp (maxDischargeDepth := 16) only [argE_nil, argE_cons, ↓vmD, vmV, vmStd, Nat.reduceMul, ↓reduceIte, Nat.reduceAdd, Nat.reduceSub, Nat.reduceEqDiff, Nat.reduceLT, Nat.reduceLeDiff, reduceCtorEq, Int.reduceToNat, Int.reduceLT, Int.reduceLE, Int.reduceEq, Int.reduceNeg, Int.reduceBEq, Int.reduceBNe, String.reduceEq, forall_const, ↓vmDA, vmVA, ↓vmQA, vmR, vmRA, ↓vmSA, vmSV, tyS, nuE, digits03_v, isDate03_v, rreference_v, valueOf_v, rvalue_v, split_v, rsplit_v, newWn_v, rnewWn_v, seenN_v, forgetN_v, lenN_v, we]
        exact LoopA.weak (ih (E1 := E2) (R1 := R2) (e := e + 1) (M := _) (h3 := h3') (hE := hE2) (hR := hR2) (sp := sp2.pick [0, 2, 3] rfl rfl)) (by simp only [subE, get_cons, Nat.reduceEqDiff, ↓reduceIte, reduceCtorEq, Nat.reduceAdd, and_self, and_true]) (sp2.subs [0, 2, 3] rfl)
  · have hH2 : H < 1 ∨ 1099511627776 < H := by omega
    simp (maxDischargeDepth := 16) only [argE_nil, argE_cons, ↓vmD, vmV, vmStd, Nat.reduceMul, ↓reduceIte, Nat.reduceAdd, Nat.reduceSub, Nat.reduceEqDiff, Nat.reduceLT, Nat.reduceLeDiff, reduceCtorEq, Int.reduceToNat, Int.reduceLT, Int.reduceLE, Int.reduceEq, Int.reduceNeg, Int.reduceBEq, Int.reduceBNe, String.reduceEq, forall_const, ↓vmDA, vmVA, ↓vmQA, vmR, vmRA, ↓vmSA, vmSV, tyS, nuE, SubA.skip, SubA.refl, fr.2, digits03_v, isDate03_v, rreference_v, valueOf_v, rvalue_v, split_v, rsplit_v, newWn_v, rnewWn_v, seenN_v, forgetN_v, lenN_v, h1]
    refine CallA.of_pure (valA_out (newWn_v H hH2 _)) ?_
    intro ν1 fr1
    have fr := fr1
    have nuE := fr.nu
    simp (maxDischargeDepth := 16) only [argE_nil, argE_cons, ↓vmD, vmV, vmStd, Nat.reduceMul, ↓reduceIte, Nat.reduceAdd, Nat.reduceSub, Nat.reduceEqDiff, Nat.reduceLT, Nat.reduceLeDiff, reduceCtorEq, Int.reduceToNat, Int.reduceLT, Int.reduceLE, Int.reduceEq, Int.reduceNeg, Int.reduceBEq, Int.reduceBNe, String.reduceEq, forall_const, ↓vmDA, vmVA, ↓vmQA, vmR, vmRA, ↓vmSA, vmSV, tyS, nuE, SubA.skip, SubA.refl, fr.2, digits03_v, isDate03_v, rreference_v, valueOf_v, rvalue_v, split_v, rsplit_v, newWn_v, rnewWn_v, seenN_v, forgetN_v, lenN_v]
    refine CallA.of_pure (valA_out (rnewWn_v H hH2 _)) ?_
    intro ν2 fr2
    have fr := fr2
    have nuE := fr.nu
    simp (maxDischargeDepth := 16) only [argE_nil, argE_cons, ↓vmD, vmV, vmStd, Nat.reduceMul, ↓reduceIte, Nat.reduceAdd, Nat.reduceSub, Nat.reduceEqDiff, Nat.reduceLT, Nat.reduceLeDiff, reduceCtorEq, Int.reduceToNat, Int.reduceLT, Int.reduceLE, Int.reduceEq, Int.reduceNeg, Int.reduceBEq, Int.reduceBNe, String.reduceEq, forall_const, ↓vmDA, vmVA, ↓vmQA, vmR, vmRA, ↓vmSA, vmSV, tyS, nuE, SubA.skip, SubA.refl, fr.2, digits03_v, isDate03_v, rreference_v, valueOf_v, rvalue_v, split_v, rsplit_v, newWn_v, rnewWn_v, seenN_v, forgetN_v, lenN_v]
    refine LoopA.intro (by kernel_rfl) ?_
    intro ν fr; have nuE := fr.nu
    simp (maxDischargeDepth := 16) only [argE_nil, argE_cons, ↓vmD, vmV, vmStd, Nat.reduceMul, ↓reduceIte, Nat.reduceAdd, Nat.reduceSub, Nat.reduceEqDiff, Nat.reduceLT, Nat.reduceLeDiff, reduceCtorEq, Int.reduceToNat, Int.reduceLT, Int.reduceLE, Int.reduceEq, Int.reduceNeg, Int.reduceBEq, Int.reduceBNe, String.reduceEq, forall_const, ↓vmDA, vmVA, ↓vmQA, vmR, vmRA, ↓vmSA, vmSV, tyS, nuE, digits03_v, isDate03_v, rreference_v, valueOf_v, rvalue_v, split_v, rsplit_v, newWn_v, rnewWn_v, seenN_v, forgetN_v, lenN_v]
    refine CallA.of_pure (valA_out (seenN_v 0 ⟨#[97]⟩ ⟨#[98]⟩ _)) ?_
    intro νa fra
    have fr := fra
    have nuE := fr.nu
    simp (maxDischargeDepth := 16) only [argE_nil, argE_cons, ↓vmD, vmV, vmStd, Nat.reduceMul, ↓reduceIte, Nat.reduceAdd, Nat.reduceSub, Nat.reduceEqDiff, Nat.reduceLT, Nat.reduceLeDiff, reduceCtorEq, Int.reduceToNat, Int.reduceLT, Int.reduceLE, Int.reduceEq, Int.reduceNeg, Int.reduceBEq, Int.reduceBNe, String.reduceEq, forall_const, ↓vmDA, vmVA, ↓vmQA, vmR, vmRA, ↓vmSA, vmSV, tyS, nuE, digits03_v, isDate03_v, rreference_v, valueOf_v, rvalue_v, split_v, rsplit_v, newWn_v, rnewWn_v, seenN_v, forgetN_v, lenN_v]
    refine CallA.of_pure (valA_out (forgetN_v 0 _)) ?_
    intro νb frb
    have fr := frb
    have nuE := fr.nu
    simp (maxDischargeDepth := 16) only [argE_nil, argE_cons, ↓vmD, vmV, vmStd, Nat.reduceMul, ↓reduceIte, Nat.reduceAdd, Nat.reduceSub, Nat.reduceEqDiff, Nat.reduceLT, Nat.reduceLeDiff, reduceCtorEq, Int.reduceToNat, Int.reduceLT, Int.reduceLE, Int.reduceEq, Int.reduceNeg, Int.reduceBEq, Int.reduceBNe, String.reduceEq, forall_const, ↓vmDA, vmVA, ↓vmQA, vmR, vmRA, ↓vmSA, vmSV, tyS, nuE, digits03_v, isDate03_v, rreference_v, valueOf_v, rvalue_v, split_v, rsplit_v, newWn_v, rnewWn_v, seenN_v, forgetN_v, lenN_v]
    refine CallA.of_pure (valA_out (lenN_v _)) ?_
    intro νc frc
    have fr := frc
    have nuE := fr.nu
    simp (maxDischargeDepth := 16) only [argE_nil, argE_cons, ↓vmD, vmV, vmStd, Nat.reduceMul, ↓reduceIte, Nat.reduceAdd, Nat.reduceSub, Nat.reduceEqDiff, Nat.reduceLT, Nat.reduceLeDiff, reduceCtorEq, Int.reduceToNat, Int.reduceLT, Int.reduceLE, Int.reduceEq, Int.reduceNeg, Int.reduceBEq, Int.reduceBNe, String.reduceEq, forall_const, ↓vmDA, vmVA, ↓vmQA, vmR, vmRA, ↓vmSA, vmSV, tyS, nuE, SubA.skip, SubA.refl, fr.2, digits03_v, isDate03_v, rreference_v, valueOf_v, rvalue_v, split_v, rsplit_v, newWn_v, rnewWn_v, seenN_v, forgetN_v, lenN_v, aw]
theorem winsLaw_w (A : AH) (hT : TabA A) (H : Int) (L : List Ask) (p : Option Addr) (cap : Nat) (hL : StR askC 4 A p L) (B_ : AH) (hB_ : SubA A B_) : valA Tryd.prog 5 #[.int .i64 H, .slice p L.length cap] B_ = some (.bool true) := valA_eq (pureA_at (by kernel_rfl) (winsLaw_h A hT H L p cap hL) hB_)
theorem winsLaw_v (A : AH) (hT : TabA A) (H : Int) (L : List Ask) (p : Option Addr) (cap : Nat) (hL : StR askC 4 A p L) : valA Tryd.prog 5 #[.int .i64 H, .slice p L.length cap] A = some (.bool true) := valA_eq (pureA_at (by kernel_rfl) (winsLaw_h A hT H L p cap hL) (SubA.refl _))
theorem fitsQ {h : Heap} {a : Array Value} (w : Fits h (.st 4 [(0, 1, .int .i64), (1, 1, .str), (2, 1, .str), (3, 1, .bool)]) a.toList) : ∃ t k v f, a = #[.int .i64 t, .string k, .string v, .bool f] := by
  obtain ⟨l⟩ := a
  simp only [Fits, FitsL] at w
  obtain ⟨hl, w⟩ := w
  match l, hl with
  | [x0, x1, x2, x3], _ =>
    simp only [List.drop_succ_cons, List.drop_zero, List.take_succ_cons, List.take_zero, List.cons.injEq, and_true, List.length_cons, List.length_nil, true_and] at w
    obtain ⟨⟨_, rfl, _⟩, ⟨_, rfl, _⟩, ⟨_, rfl, _⟩, ⟨_, rfl⟩⟩ := w
    exact ⟨_, _, _, _, rfl⟩
theorem decQ {h : Heap} (es : List Value) (hl : es.length = 4) (hf : Fits h (.st 4 [(0, 1, .int .i64), (1, 1, .str), (2, 1, .str), (3, 1, .bool)]) es) : ∃ x, askC x = es := by
  obtain ⟨t, k, v, f, e⟩ := fitsQ (a := es.toArray) hf
  exact ⟨⟨t, k, v, f⟩, (congrArg Array.toList e).symm⟩
theorem wins_walk (w : World) (ht : Lib.TabIs Tryd.prog w "internal/strconv.uint64pow10" .u64 Lib.pow10Tab) (d : Int) (wd : (Lit.int .i64 d).wf = true) (a1 : Option Addr) (len1 cap1 : Nat) (w1 : Vm.Fits w.heap (.sl 4 (.st 4 [(0, 1, .int .i64), (1, 1, .str), (2, 1, .str), (3, 1, .bool)])) [.slice a1 len1 cap1]) :
    CallsH Tryd.prog 5 #[.int .i64 d, .slice a1 len1 cap1] w.heap fun e h' => e = .returned (.bool true) ∧ Grew w.heap h' := by
  obtain ⟨B, hB, hT⟩ := TabA.of ht
  obtain ⟨p, cap, L, e1, _, _, _, A, hA, hL⟩ := list_fits askC (v := .slice a1 len1 cap1) (by decide) decQ w1 (by intro c hc; cases hc)
  cases e1
  exact callsH_of_pure (winsLaw_v (A ++ B) (hT.mono (sat_sub hA hB)) d L _ _ (hL.mono (SubA.left _ _))) (by kernel_rfl) (hA.both hB)
end Go.Proofs.YthmkhmgmoflmkaaDoor
