/-
Positions of two banks: New, Move, Net.
Conditions: none.
-/
import Derived.Test.YtiholbpchhifiaaGreatDoorTpd
import Derived.Test.YtiholbpchhifiaaGreatDoorMp
import Derived.Test.YtiholbpchhifiaaGreatDoorDsn
namespace Go.Proofs.YtiholbpchhifiaaGreatDoor
open Go.Vm
set_option linter.unusedSimpArgs false
set_option linter.unusedVariables false
set_option maxHeartbeats 4000000
set_option maxRecDepth 20000
theorem vbPsn : type_of% (And.intro @slIndexByte_v (And.intro @indexByte_v (And.intro @indexRune_v (And.intro @containsRune_v (And.intro @classOf_v (And.intro @isWordByte_v (And.intro @wordAt_v (And.intro @isName_v (And.intro @possible_v (And.intro @days_v (And.intro @due_v (And.intro @evName_v (And.intro @evCheck_v (And.intro @dNext_v (And.intro @recId_v (And.intro @moneyCur_v (And.intro @inTotal_v (And.intro @exCard_v (And.intro @recCheck_v (And.intro @holder_v (And.intro @foll_v (@dspId_v)))))))))))))))))))))) := And.intro @slIndexByte_v (And.intro @indexByte_v (And.intro @indexRune_v (And.intro @containsRune_v (And.intro @classOf_v (And.intro @isWordByte_v (And.intro @wordAt_v (And.intro @isName_v (And.intro @possible_v (And.intro @days_v (And.intro @due_v (And.intro @evName_v (And.intro @evCheck_v (And.intro @dNext_v (And.intro @recId_v (And.intro @moneyCur_v (And.intro @inTotal_v (And.intro @exCard_v (And.intro @recCheck_v (And.intro @holder_v (And.intro @foll_v (@dspId_v)))))))))))))))))))))
def rowA (n : Int) : Array Value := #[.int .i64 n, .int .i64 (-n), .int .i64 0, .int .i64 0, .int .i64 0, .int .i64 0, .int .i64 0, .int .i64 0, .int .i64 0, .int .i64 0, .int .i64 0, .int .i64 0, .int .i64 0, .int .i64 0, .int .i64 0, .int .i64 0]
def rowM (n : Int) : SMap := if n = 0 then [] else [(bs eurT, .agg (rowA n))]
def bkB (pp : Option Addr) (cap mb : Nat) : Obj := .cells #[.slice pp 2 cap, .map (some mb)] 77
/-- A book in memory. -/
def BkP (E : AH) (bb : Nat) (n : Int) : Prop := ∃ (mb cap : Nat) (pp : Option Addr) (B : AH) (es : Array MapEntry) (cl : Nat), E = cat [[(bb, bkB pp cap mb)], [(mb, .map es cl)], B] ∧ Sep [[(bb, bkB pp cap mb)], [(mb, .map es cl)], B] ∧ TxR B pp cap [homeT, shopT] ∧ MapIs es (rowM n)
theorem und_row : Tryz.prog.underlying 75 = some (.map 9 93) := by kernel_rfl
theorem und_str : Tryz.prog.underlying 9 = some .string := by kernel_rfl
theorem zro_row : zro Tryz.prog 93 = some (.agg (rowA 0)) := by kernel_rfl
theorem ixA {P : Program} {t e : TypeId} {len : Nat} {b : Bool} (hu : P.underlying t = some (.array len e)) (hs : shp P e = some (b, 1)) (a : Addr) (k : IntKind) (n : Int) (K : Value → Prop) : ixaW P t (.pointer (some a)) (.int k n) K = need (0 ≤ n ∧ n < (len : Int)) (K (.pointer (some (a.add (n.toNat * 1))))) := by
  simp only [ixaW, hu, hs, bnd]
theorem ixR (a : Addr) (k : IntKind) (n : Int) (K : Value → Prop) : ixaW Tryz.prog 93 (.pointer (some a)) (.int k n) K = need (0 ≤ n ∧ n < 16) (K (.pointer (some (a.add (n.toNat * 1))))) := ixA (e := 2) (b := false) (by kernel_rfl) (by kernel_rfl) a k n K
theorem row_look (n : Int) : (lookM (rowM n) (bs eurT)).getD (.agg (rowA 0)) = .agg (rowA n) := by
  unfold rowM
  by_cases h : n = 0
  · rw [if_pos h, lookM_nil, h]; rfl
  · rw [if_neg h, lookM_cons, if_pos rfl]; rfl
theorem row_upd (n m : Int) : updM (rowM n) (bs eurT) (.agg (rowA m)) = [(bs eurT, .agg (rowA m))] := by
  unfold rowM
  by_cases h : n = 0
  · rw [if_pos h, updM_nil]
  · rw [if_neg h, updM_cons, if_pos rfl]
theorem row_del (m : Int) : delM [(bs eurT, .agg (rowA m))] (bs eurT) = [] := by
  rw [delM_cons, if_pos rfl]
theorem isNaN_h (s : ByteArray) : CallA Tryz.prog 83 #[.string s] [] (fun u_ _ => u_ = .bool false) := by
  refine callA_of_denA ⟨Tryz.prog, 83, Tryz.f83, 6, [0, 2], [], [], _⟩ (args := [_]) Tryz.func83 rfl (by kernel_rfl) Tryz.ntmps83 (by simp) (by kernel_rfl) ?_
  intro ν fr; have nuE := fr.nu
  simp (maxDischargeDepth := 16) only [argE_nil, argE_cons, ↓vmD, vmV, vmStd, Nat.reduceMul, ↓reduceIte, Nat.reduceAdd, Nat.reduceSub, Nat.reduceEqDiff, Nat.reduceLT, Nat.reduceLeDiff, reduceCtorEq, Int.reduceToNat, Int.reduceLT, Int.reduceLE, Int.reduceEq, Int.reduceNeg, Int.reduceBEq, Int.reduceBNe, String.reduceEq, forall_const, ↓vmDA, vmVA, ↓vmQA, vmR, vmRA, ↓vmSA, vmSV, tyS, nuE, SubA.skip, SubA.refl, fr.2, vbPsn, beq_self_eq_true]
theorem isNaN_v (s : ByteArray) (A_ : AH) : valA Tryz.prog 83 #[.string s] A_ = some (.bool false) := valA_eq (pureA_of (by kernel_rfl) (isNaN_h s))
theorem isLess_h : CallA Tryz.prog 67 #[.string (bs shopT), .string (bs homeT)] [] (fun u_ _ => u_ = .bool false) := by
  refine callA_of_denA ⟨Tryz.prog, 67, Tryz.f67, 17, [0, 1, 4], [], [], _⟩ (args := [_, _]) Tryz.func67 rfl (by kernel_rfl) Tryz.ntmps67 (by simp) (by kernel_rfl) ?_
  intro ν fr; have nuE := fr.nu
  have e1 : Op.bytesLess (bs shopT).toList (bs homeT).toList = false := by decide +kernel
  simp (maxDischargeDepth := 16) only [argE_nil, argE_cons, ↓vmD, vmV, vmStd, Nat.reduceMul, ↓reduceIte, Nat.reduceAdd, Nat.reduceSub, Nat.reduceEqDiff, Nat.reduceLT, Nat.reduceLeDiff, reduceCtorEq, Int.reduceToNat, Int.reduceLT, Int.reduceLE, Int.reduceEq, Int.reduceNeg, Int.reduceBEq, Int.reduceBNe, String.reduceEq, forall_const, ↓vmDA, vmVA, ↓vmQA, vmR, vmRA, ↓vmSA, vmSV, tyS, nuE, SubA.skip, SubA.refl, fr.2, vbPsn, isNaN_v, e1]
theorem isLess_v (A_ : AH) : valA Tryz.prog 67 #[.string (bs shopT), .string (bs homeT)] A_ = some (.bool false) := valA_eq (pureA_of (by kernel_rfl) (isLess_h ))
theorem two_at {A : AH} {p : Option Addr} {cap : Nat} (hT : TxR A p cap [homeT, shopT]) : ∃ bk off cs ty fr0, p = some ⟨bk, off, none⟩ ∧ Vm.look A bk = some (.cells cs ty fr0) ∧ cs[off]? = some (.string (bs homeT)) ∧ cs[off + 1]? = some (.string (bs shopT)) := by
  obtain ⟨bk, off, cs, ty, fr0, hp0, hbk, hcr, hcc⟩ := hT.1.at (i := 0) rfl
  obtain ⟨bk1, off1, cs1, ty1, fr1, hp1, hbk1, hcr1, hcc1⟩ := hT.1.at (i := 1) rfl
  rw [hp0] at hp1
  cases hp1
  rw [hbk] at hbk1
  cases hbk1
  exact ⟨bk, off, cs, ty, fr0, hp0, hbk, hcc 0 _ rfl, hcc1 0 _ rfl⟩
theorem insSort_h (A : AH) (p : Option Addr) (cap : Nat) (hT : TxR A p cap [homeT, shopT]) : CallA Tryz.prog 61 #[.slice p 2 cap, .int .i64 0, .int .i64 2] A (fun u_ A_ => u_ = .tuple #[] ∧ SubA A A_) := by
  refine callA_of_denA ⟨Tryz.prog, 61, Tryz.f61, 49, [0, 1, 2, 6, 7], [], [(4, .q false), (6, .p [(0, 0), (1, 0), (2, 0), (3, 0), (4, 0), (5, 0), (6, 0), (7, 0), (8, 0), (9, 0), (10, 0), (11, 0), (12, 0), (13, 0), (14, 0), (15, 2), (16, 0), (17, 2)])], _⟩ (args := [_, _, _]) Tryz.func61 rfl (by kernel_rfl) Tryz.ntmps61 (by simp) (by kernel_rfl) ?_
  intro ν fr; have nuE := fr.nu
  obtain ⟨bk, off, cs, ty, fr0, rfl, hbk, h0, h1⟩ := two_at hT
  have wa : IntKind.i64.wrap (0 + 1) = 1 := by decide
  have wb : IntKind.i64.wrap (1 - 1) = 0 := by decide
  have wc : IntKind.i64.wrap (1 + 1) = 2 := by decide
  simp (maxDischargeDepth := 16) only [argE_nil, argE_cons, ↓vmD, vmV, vmStd, Nat.reduceMul, ↓reduceIte, Nat.reduceAdd, Nat.reduceSub, Nat.reduceEqDiff, Nat.reduceLT, Nat.reduceLeDiff, reduceCtorEq, Int.reduceToNat, Int.reduceLT, Int.reduceLE, Int.reduceEq, Int.reduceNeg, Int.reduceBEq, Int.reduceBNe, String.reduceEq, forall_const, ↓vmDA, vmVA, ↓vmQA, vmR, vmRA, ↓vmSA, vmSV, tyS, nuE, SubA.skip, SubA.refl, fr.2, vbPsn, isNaN_v, isLess_v, wa]
  clear nuE fr
  refine LoopA.intro (by kernel_rfl) ?_
  intro ν fr; have nuE := fr.nu
  simp (maxDischargeDepth := 16) only [argE_nil, argE_cons, ↓vmD, vmV, vmStd, Nat.reduceMul, ↓reduceIte, Nat.reduceAdd, Nat.reduceSub, Nat.reduceEqDiff, Nat.reduceLT, Nat.reduceLeDiff, reduceCtorEq, Int.reduceToNat, Int.reduceLT, Int.reduceLE, Int.reduceEq, Int.reduceNeg, Int.reduceBEq, Int.reduceBNe, String.reduceEq, forall_const, ↓vmDA, vmVA, ↓vmQA, vmR, vmRA, ↓vmSA, vmSV, tyS, nuE, SubA.skip, SubA.refl, fr.2, vbPsn, isNaN_v, isLess_v]
  clear nuE fr
  refine LoopA.intro (by kernel_rfl) ?_
  intro ν fr; have nuE := fr.nu
  simp (maxDischargeDepth := 16) only [argE_nil, argE_cons, ↓vmD, vmV, vmStd, Nat.reduceMul, ↓reduceIte, Nat.reduceAdd, Nat.reduceSub, Nat.reduceEqDiff, Nat.reduceLT, Nat.reduceLeDiff, reduceCtorEq, Int.reduceToNat, Int.reduceLT, Int.reduceLE, Int.reduceEq, Int.reduceNeg, Int.reduceBEq, Int.reduceBNe, String.reduceEq, forall_const, ↓vmDA, vmVA, ↓vmQA, vmR, vmRA, ↓vmSA, vmSV, tyS, nuE, SubA.skip, SubA.refl, fr.2, vbPsn, isNaN_v, isLess_v, hbk, h0, h1, wa, wb, wc]
  clear nuE fr
  refine LoopA.intro (by kernel_rfl) ?_
  intro ν fr; have nuE := fr.nu
  simp (maxDischargeDepth := 16) only [argE_nil, argE_cons, ↓vmD, vmV, vmStd, Nat.reduceMul, ↓reduceIte, Nat.reduceAdd, Nat.reduceSub, Nat.reduceEqDiff, Nat.reduceLT, Nat.reduceLeDiff, reduceCtorEq, Int.reduceToNat, Int.reduceLT, Int.reduceLE, Int.reduceEq, Int.reduceNeg, Int.reduceBEq, Int.reduceBNe, String.reduceEq, forall_const, ↓vmDA, vmVA, ↓vmQA, vmR, vmRA, ↓vmSA, vmSV, tyS, nuE, SubA.skip, SubA.refl, fr.2, vbPsn, isNaN_v, isLess_v]
  rfl
theorem insSort_w (A : AH) (p : Option Addr) (cap : Nat) (hT : TxR A p cap [homeT, shopT]) (B_ : AH) (hB_ : SubA A B_) : valA Tryz.prog 61 #[.slice p 2 cap, .int .i64 0, .int .i64 2] B_ = some (.tuple #[]) := valA_eq (pureA_at (by kernel_rfl) (insSort_h A p cap hT) hB_)
theorem insSort_v (A : AH) (p : Option Addr) (cap : Nat) (hT : TxR A p cap [homeT, shopT]) : valA Tryz.prog 61 #[.slice p 2 cap, .int .i64 0, .int .i64 2] A = some (.tuple #[]) := valA_eq (pureA_at (by kernel_rfl) (insSort_h A p cap hT) (SubA.refl _))
theorem len2_h : CallA Tryz.prog 71 #[.int .u64 2] [] (fun u_ _ => u_ = .int .i64 2) := by
  refine callA_of_denA ⟨Tryz.prog, 71, Tryz.f71, 25, [0, 2], [], [], _⟩ (args := [_]) Tryz.func71 rfl (by kernel_rfl) Tryz.ntmps71 (by simp) (by kernel_rfl) ?_
  intro ν fr; have nuE := fr.nu
  have wa : IntKind.u8.wrap 2 = 2 := by decide
  have wb : IntKind.i64.wrap (0 + IntKind.i64.wrap ((UInt8.toNat 2 : Nat) : Int)) = 2 := by decide
  simp (maxDischargeDepth := 16) only [argE_nil, argE_cons, ↓vmD, vmV, vmStd, Nat.reduceMul, ↓reduceIte, Nat.reduceAdd, Nat.reduceSub, Nat.reduceEqDiff, Nat.reduceLT, Nat.reduceLeDiff, reduceCtorEq, Int.reduceToNat, Int.reduceLT, Int.reduceLE, Int.reduceEq, Int.reduceNeg, Int.reduceBEq, Int.reduceBNe, String.reduceEq, forall_const, ↓vmDA, vmVA, ↓vmQA, vmR, vmRA, ↓vmSA, vmSV, tyS, nuE, SubA.skip, SubA.refl, fr.2, vbPsn, isNaN_v, isLess_v, wa, wb]
theorem len2_v (A_ : AH) : valA Tryz.prog 71 #[.int .u64 2] A_ = some (.int .i64 2) := valA_eq (pureA_of (by kernel_rfl) (len2_h ))
theorem lenB2_h : CallA Tryz.prog 45 #[.int .u64 2] [] (fun u_ _ => u_ = .int .i64 2) := by
  refine callA_of_denA ⟨Tryz.prog, 45, Tryz.f45, 8, [0, 2], [], [], _⟩ (args := [_]) Tryz.func45 rfl (by kernel_rfl) Tryz.ntmps45 (by simp) (by kernel_rfl) ?_
  intro ν fr; have nuE := fr.nu
  simp (maxDischargeDepth := 16) only [argE_nil, argE_cons, ↓vmD, vmV, vmStd, Nat.reduceMul, ↓reduceIte, Nat.reduceAdd, Nat.reduceSub, Nat.reduceEqDiff, Nat.reduceLT, Nat.reduceLeDiff, reduceCtorEq, Int.reduceToNat, Int.reduceLT, Int.reduceLE, Int.reduceEq, Int.reduceNeg, Int.reduceBEq, Int.reduceBNe, String.reduceEq, forall_const, ↓vmDA, vmVA, ↓vmQA, vmR, vmRA, ↓vmSA, vmSV, tyS, nuE, SubA.skip, SubA.refl, fr.2, vbPsn, isNaN_v, isLess_v, len2_v]
theorem lenB2_v (A_ : AH) : valA Tryz.prog 45 #[.int .u64 2] A_ = some (.int .i64 2) := valA_eq (pureA_of (by kernel_rfl) (lenB2_h ))
theorem pdq2_h (A : AH) (p : Option Addr) (cap : Nat) (hT : TxR A p cap [homeT, shopT]) (l : Int) : CallA Tryz.prog 44 #[.slice p 2 cap, .int .i64 0, .int .i64 2, .int .i64 l] A (fun u_ A_ => u_ = .tuple #[] ∧ SubA A A_) := by
  refine callA_of_denA ⟨Tryz.prog, 44, Tryz.f44, 134, [0, 1, 2, 3, 8, 9, 10, 11, 12, 13, 14, 15, 16, 17, 18], [], [(17, .q false)], _⟩ (args := [_, _, _, _]) Tryz.func44 rfl (by kernel_rfl) Tryz.ntmps44 (by simp) (by kernel_rfl) ?_
  intro ν fr; have nuE := fr.nu
  have e := insSort_w A p cap hT A (SubA.refl A)
  have wa : IntKind.i64.wrap (2 - 0) = 2 := by decide
  simp (maxDischargeDepth := 16) only [argE_nil, argE_cons, ↓vmD, vmV, vmStd, Nat.reduceMul, ↓reduceIte, Nat.reduceAdd, Nat.reduceSub, Nat.reduceEqDiff, Nat.reduceLT, Nat.reduceLeDiff, reduceCtorEq, Int.reduceToNat, Int.reduceLT, Int.reduceLE, Int.reduceEq, Int.reduceNeg, Int.reduceBEq, Int.reduceBNe, String.reduceEq, forall_const, ↓vmDA, vmVA, ↓vmQA, vmR, vmRA, ↓vmSA, vmSV, tyS, nuE, SubA.skip, SubA.refl, fr.2, vbPsn, isNaN_v, isLess_v, len2_v, lenB2_v]
  clear nuE fr
  refine LoopA.intro (by kernel_rfl) ?_
  intro ν fr; have nuE := fr.nu
  simp (maxDischargeDepth := 16) only [argE_nil, argE_cons, ↓vmD, vmV, vmStd, Nat.reduceMul, ↓reduceIte, Nat.reduceAdd, Nat.reduceSub, Nat.reduceEqDiff, Nat.reduceLT, Nat.reduceLeDiff, reduceCtorEq, Int.reduceToNat, Int.reduceLT, Int.reduceLE, Int.reduceEq, Int.reduceNeg, Int.reduceBEq, Int.reduceBNe, String.reduceEq, forall_const, ↓vmDA, vmVA, ↓vmQA, vmR, vmRA, ↓vmSA, vmSV, tyS, nuE, SubA.skip, SubA.refl, fr.2, vbPsn, isNaN_v, isLess_v, len2_v, lenB2_v, e, wa]
  rfl
theorem pdq2_w (A : AH) (p : Option Addr) (cap : Nat) (hT : TxR A p cap [homeT, shopT]) (l : Int) (B_ : AH) (hB_ : SubA A B_) : valA Tryz.prog 44 #[.slice p 2 cap, .int .i64 0, .int .i64 2, .int .i64 l] B_ = some (.tuple #[]) := valA_eq (pureA_at (by kernel_rfl) (pdq2_h A p cap hT l) hB_)
theorem pdq2_v (A : AH) (p : Option Addr) (cap : Nat) (hT : TxR A p cap [homeT, shopT]) (l : Int) : valA Tryz.prog 44 #[.slice p 2 cap, .int .i64 0, .int .i64 2, .int .i64 l] A = some (.tuple #[]) := valA_eq (pureA_at (by kernel_rfl) (pdq2_h A p cap hT l) (SubA.refl _))
theorem sort2_h (A : AH) (p : Option Addr) (cap : Nat) (hT : TxR A p cap [homeT, shopT]) : CallA Tryz.prog 25 #[.slice p 2 cap] A (fun u_ A_ => u_ = .tuple #[] ∧ SubA A A_) := by
  refine callA_of_denA ⟨Tryz.prog, 25, Tryz.f25, 11, [0, 2], [], [], _⟩ (args := [_]) Tryz.func25 rfl (by kernel_rfl) Tryz.ntmps25 (by simp) (by kernel_rfl) ?_
  intro ν fr; have nuE := fr.nu
  have e := fun l => pdq2_w A p cap hT l A (SubA.refl A)
  have wu : IntKind.u64.wrap 2 = 2 := by decide
  simp (maxDischargeDepth := 16) only [argE_nil, argE_cons, ↓vmD, vmV, vmStd, Nat.reduceMul, ↓reduceIte, Nat.reduceAdd, Nat.reduceSub, Nat.reduceEqDiff, Nat.reduceLT, Nat.reduceLeDiff, reduceCtorEq, Int.reduceToNat, Int.reduceLT, Int.reduceLE, Int.reduceEq, Int.reduceNeg, Int.reduceBEq, Int.reduceBNe, String.reduceEq, forall_const, ↓vmDA, vmVA, ↓vmQA, vmR, vmRA, ↓vmSA, vmSV, tyS, nuE, SubA.skip, SubA.refl, fr.2, vbPsn, isNaN_v, isLess_v, len2_v, lenB2_v, e, wu]
  rfl
theorem sort2_w (A : AH) (p : Option Addr) (cap : Nat) (hT : TxR A p cap [homeT, shopT]) (B_ : AH) (hB_ : SubA A B_) : valA Tryz.prog 25 #[.slice p 2 cap] B_ = some (.tuple #[]) := valA_eq (pureA_at (by kernel_rfl) (sort2_h A p cap hT) hB_)
theorem sort2_v (A : AH) (p : Option Addr) (cap : Nat) (hT : TxR A p cap [homeT, shopT]) : valA Tryz.prog 25 #[.slice p 2 cap] A = some (.tuple #[]) := valA_eq (pureA_at (by kernel_rfl) (sort2_h A p cap hT) (SubA.refl _))
theorem _root_.Go.Vm.Sep.hd {b : Nat} {o : Obj} {l : List AH} (h : Sep ([(b, o)] :: l)) : Vm.look (cat l) b = none := (Sep.dis h).symm b (by simp [Vm.look])
theorem own_one {v' : Value} {B' : AH} {T : List Txt} {t : Txt} (ho' : OwnZ 9 1 v' B' (T.length + 1) (T.flatMap strC ++ strC t)) : OwnL strC 1 9 v' B' (T ++ [t]) := by
  unfold OwnL
  rw [List.length_append, List.flatMap_append]
  simpa using ho'
theorem posNew_h (A : AH) (p : Option Addr) (cap : Nat) (hT : TxR A p cap [homeT, shopT]) : CallA Tryz.prog 8 #[.slice p 2 cap] A (fun u_ A_ => ∃ v B, u_ = v ∧ (∃ bb, v = .tuple #[.pointer (some ⟨bb, 0, none⟩), .int .i64 0] ∧ BkP B bb 0) ∧ Dis B A ∧ SubA (B ++ A) A_) := by
  refine callA_of_denA ⟨Tryz.prog, 8, Tryz.f8, 45, [0, 2, 3, 4, 6, 13, 14, 15], [], [], _⟩ (args := [_]) Tryz.func8 rfl (by kernel_rfl) Tryz.ntmps8 (by simp) (by kernel_rfl) ?_
  intro ν fr; have nuE := fr.nu
  obtain ⟨bk, off, cs, ty, fr0, rfl, hbk, h0, h1⟩ := two_at hT
  have nh : nameF (bs homeT) = true := by decide +kernel
  have ns : nameF (bs shopT) = true := by decide +kernel
  have wa : IntKind.i64.wrap (0 + 1) = 1 := by decide
  have wc : IntKind.i64.wrap (1 + 1) = 2 := by decide
  obtain ⟨m00, _⟩ := look_ne (fr.2 0) hbk
  obtain ⟨m10, _⟩ := look_ne (fr.2 1) hbk
  have w0 : Vm.look A (ν 0) = none := fr.2 0
  have w1 : Vm.look A (ν 1) = none := fr.2 1
  simp (maxDischargeDepth := 16) only [argE_nil, argE_cons, ↓vmD, vmV, vmStd, Nat.reduceMul, ↓reduceIte, Nat.reduceAdd, Nat.reduceSub, Nat.reduceEqDiff, Nat.reduceLT, Nat.reduceLeDiff, reduceCtorEq, Int.reduceToNat, Int.reduceLT, Int.reduceLE, Int.reduceEq, Int.reduceNeg, Int.reduceBEq, Int.reduceBNe, String.reduceEq, forall_const, ↓vmDA, vmVA, ↓vmQA, vmR, vmRA, ↓vmSA, vmSV, tyS, nuE, SubA.skip, SubA.refl, fr.2, vbPsn, isNaN_v, isLess_v, len2_v, lenB2_v]
  have dst_ : ((ν 0 = ν 1) = False) ∧ ((ν 1 = ν 0) = False) := (by simp [nuE]); generalize ν 0 = mb at dst_  m00 m10 w0 w1 ⊢; generalize ν 1 = bb at dst_  m00 m10 w0 w1 ⊢
  clear nuE fr
  have sp : Sep [[(bb, Obj.cells #[.slice none 0 0, .map (some mb)] 77)], [(mb, .map #[] 0)], A] := Sep.fresh (by simp only [cat, List.cons_append, List.nil_append, List.append_nil, Vm.look, dst_, if_false]; exact w1) _ (Sep.fresh (by simpa [cat] using w0) _ (Sep.one A))
  have c0 := containsS_v A [] none 0 homeT TxR.nil
  refine LoopA.intro (by kernel_rfl) ?_
  intro ν fr; have nuE := And.intro (fr.mem (b := bb) (by simp)) (And.intro (fr.mem (b := mb) (by simp)) (And.intro dst_ fr.nu))
  have c1 := fun B => containsS_w [] [] none 0 homeT TxR.nil B (SubA.nil B)
  simp only [List.length_nil] at c1
  have dn : decide (homeT ∈ ([] : List Txt)) = false := by decide
  rw [dn] at c1
  simp (maxDischargeDepth := 16) only [argE_nil, argE_cons, ↓vmD, vmV, vmStd, Nat.reduceMul, ↓reduceIte, Nat.reduceAdd, Nat.reduceSub, Nat.reduceEqDiff, Nat.reduceLT, Nat.reduceLeDiff, reduceCtorEq, Int.reduceToNat, Int.reduceLT, Int.reduceLE, Int.reduceEq, Int.reduceNeg, Int.reduceBEq, Int.reduceBNe, String.reduceEq, forall_const, ↓vmDA, vmVA, ↓vmQA, vmR, vmRA, ↓vmSA, vmSV, tyS, nuE, SubA.skip, SubA.refl, fr.2, vbPsn, isNaN_v, isLess_v, len2_v, lenB2_v, m00, m10, hbk, h0, nh, c1, sc_s1]
  have f0 : Vm.look (cat [[(bb, Obj.cells #[.slice none 0 0, .map (some mb)] 77)], [(mb, .map #[] 0)], A]) (ν 0) = none := by simpa only [cat, List.cons_append, List.nil_append] using fr.2 0
  have sF : ∀ X o, SubA X (cat [[(bb, Obj.cells #[.slice none 0 0, .map (some mb)] 77)], [(mb, .map #[] 0)], A]) → SubA X ((ν 0, o) :: cat [[(bb, Obj.cells #[.slice none 0 0, .map (some mb)] 77)], [(mb, .map #[] 0)], A]) := fun X o h => SubA.trans h (SubA.fresh f0 (SubA.refl _))
  refine RunA.use ?_
  refine append_src (m := 1) (news := strC homeT) (B := []) slc37 zro9 rfl (by decide) (OwnL.nil strC 1 9) (SubA.nil _) (.inr ⟨ν 0, 0, rfl, by simp (maxDischargeDepth := 16) only [argE_nil, argE_cons, ↓vmD, vmV, vmStd, Nat.reduceMul, ↓reduceIte, Nat.reduceAdd, Nat.reduceSub, Nat.reduceEqDiff, Nat.reduceLT, Nat.reduceLeDiff, reduceCtorEq, Int.reduceToNat, Int.reduceLT, Int.reduceLE, Int.reduceEq, Int.reduceNeg, Int.reduceBEq, Int.reduceBNe, String.reduceEq, forall_const, ↓vmDA, vmVA, ↓vmQA, vmR, vmRA, ↓vmSA, vmSV, tyS, nuE, SubA.skip, SubA.refl, fr.2, vbPsn, isNaN_v, isLess_v, len2_v, lenB2_v, strC]⟩) (str_one _) (by simp [maxLen]) (by simp) ?_
  intro v1 B1 ho' hb'
  have ho1 := own_one (T := []) ho'
  have dO : Dis B1 (cat [[(bb, Obj.cells #[.slice none 0 0, .map (some mb)] 77)], [(mb, .map #[] 0)], A]) := ap_dis hb' (Dis.nil _) (sF _ _ (SubA.refl _))
  have sp1 : Sep [B1, [(bb, Obj.cells #[.slice none 0 0, .map (some mb)] 77)], [(mb, .map #[] 0)], A] := Sep.cons dO sp
  refine ⟨cat [[(bb, Obj.cells #[.slice none 0 0, .map (some mb)] 77)], [(mb, .map #[] 0)], B1, A], SubA.trans (Sep.subs sp1 [1, 2, 0, 3] rfl) (SubA.app (sF _ _ (SubA.refl _))), ?_⟩
  obtain ⟨q1, k1, rfl, hq1⟩ := own_tx ho1
  have sp2 : Sep [[(bb, Obj.cells #[.slice none 0 0, .map (some mb)] 77)], [(mb, .map #[] 0)], B1, A] := Sep.pick sp1 [1, 2, 0, 3] rfl rfl
  clear nuE fr f0 sF dO ho' hb' sp sp1 c1 c0
  simp only [cat, List.cons_append, List.nil_append]
  intro ν fr; have nuE := And.intro (fr.mem (b := bb) (by simp)) (And.intro (fr.mem (b := mb) (by simp)) (And.intro dst_ fr.nu))
  simp (maxDischargeDepth := 16) only [argE_nil, argE_cons, ↓vmD, vmV, vmStd, Nat.reduceMul, ↓reduceIte, Nat.reduceAdd, Nat.reduceSub, Nat.reduceEqDiff, Nat.reduceLT, Nat.reduceLeDiff, reduceCtorEq, Int.reduceToNat, Int.reduceLT, Int.reduceLE, Int.reduceEq, Int.reduceNeg, Int.reduceBEq, Int.reduceBNe, String.reduceEq, forall_const, ↓vmDA, vmVA, ↓vmQA, vmR, vmRA, ↓vmSA, vmSV, tyS, nuE, SubA.skip, SubA.refl, fr.2, vbPsn, isNaN_v, isLess_v, len2_v, lenB2_v, wa]
  clear nuE fr
  have sp3 : Sep [[(bb, Obj.cells #[.slice q1 1 k1, .map (some mb)] 77)], [(mb, .map #[] 0)], B1, A] := Sep.fresh (Sep.hd sp2) _ sp2.2
  refine LoopA.intro (by kernel_rfl) ?_
  intro ν fr; have nuE := And.intro (fr.mem (b := bb) (by simp)) (And.intro (fr.mem (b := mb) (by simp)) (And.intro dst_ fr.nu))
  have hbk1 : Vm.look (B1 ++ A) bk = some (.cells cs ty fr0) := (Sep.subs sp3.2.2 [1] rfl) _ _ hbk
  have c2 := fun A' hA => containsS_w B1 [homeT] q1 k1 shopT hq1 A' hA
  simp only [List.length_singleton] at c2
  have dn2 : decide (shopT ∈ [homeT]) = false := by decide
  rw [dn2] at c2
  have hB1 : SubA B1 (cat [[(bb, Obj.cells #[.slice q1 1 k1, .map (some mb)] 77)], [(mb, .map #[] 0)], B1, A]) := Sep.subs sp3 [2] rfl
  have c3 := c2 _ hB1
  simp only [cat, List.cons_append, List.nil_append] at c3
  simp (maxDischargeDepth := 16) only [argE_nil, argE_cons, ↓vmD, vmV, vmStd, Nat.reduceMul, ↓reduceIte, Nat.reduceAdd, Nat.reduceSub, Nat.reduceEqDiff, Nat.reduceLT, Nat.reduceLeDiff, reduceCtorEq, Int.reduceToNat, Int.reduceLT, Int.reduceLE, Int.reduceEq, Int.reduceNeg, Int.reduceBEq, Int.reduceBNe, String.reduceEq, forall_const, ↓vmDA, vmVA, ↓vmQA, vmR, vmRA, ↓vmSA, vmSV, tyS, nuE, SubA.skip, SubA.refl, fr.2, vbPsn, isNaN_v, isLess_v, len2_v, lenB2_v, m00, m10, hbk1, h1, ns, c3, sc_s1]
  have f0 : Vm.look (cat [[(bb, Obj.cells #[.slice q1 1 k1, .map (some mb)] 77)], [(mb, .map #[] 0)], B1, A]) (ν 0) = none := by simpa only [cat, List.cons_append, List.nil_append] using fr.2 0
  have sF : ∀ X o, SubA X (cat [[(bb, Obj.cells #[.slice q1 1 k1, .map (some mb)] 77)], [(mb, .map #[] 0)], B1, A]) → SubA X ((ν 0, o) :: cat [[(bb, Obj.cells #[.slice q1 1 k1, .map (some mb)] 77)], [(mb, .map #[] 0)], B1, A]) := fun X o h => SubA.trans h (SubA.fresh f0 (SubA.refl _))
  have hk1 := own_cap ho1
  refine RunA.use ?_
  refine append_src (m := 1) (news := strC shopT) (B := B1) slc37 zro9 rfl (by decide) ho1 (sF _ _ (Sep.subs sp3 [2] rfl)) (.inr ⟨ν 0, 0, rfl, by simp (maxDischargeDepth := 16) only [argE_nil, argE_cons, ↓vmD, vmV, vmStd, Nat.reduceMul, ↓reduceIte, Nat.reduceAdd, Nat.reduceSub, Nat.reduceEqDiff, Nat.reduceLT, Nat.reduceLeDiff, reduceCtorEq, Int.reduceToNat, Int.reduceLT, Int.reduceLE, Int.reduceEq, Int.reduceNeg, Int.reduceBEq, Int.reduceBNe, String.reduceEq, forall_const, ↓vmDA, vmVA, ↓vmQA, vmR, vmRA, ↓vmSA, vmSV, tyS, nuE, SubA.skip, SubA.refl, fr.2, vbPsn, isNaN_v, isLess_v, len2_v, lenB2_v, strC]⟩) (str_one _) (by simp [maxLen]) (by simp) ?_
  intro v2 B2 ho' hb'
  have ho2 := own_one (T := [homeT]) ho'
  have dO : Dis B2 (cat [[(bb, Obj.cells #[.slice q1 1 k1, .map (some mb)] 77)], [(mb, .map #[] 0)], A]) := ap_dis hb' (Sep.dis (Sep.pick sp3 [2, 0, 1, 3] rfl rfl)) (sF _ _ (Sep.subs sp3 [0, 1, 3] rfl))
  have sp4 : Sep [B2, [(bb, Obj.cells #[.slice q1 1 k1, .map (some mb)] 77)], [(mb, .map #[] 0)], A] := Sep.cons dO (Sep.pick sp3 [0, 1, 3] rfl rfl)
  refine ⟨cat [[(bb, Obj.cells #[.slice q1 1 k1, .map (some mb)] 77)], [(mb, .map #[] 0)], B2, A], SubA.trans (Sep.subs sp4 [1, 2, 0, 3] rfl) (SubA.app (sF _ _ (Sep.subs sp3 [0, 1, 3] rfl))), ?_⟩
  obtain ⟨q2, k2, rfl, hq2⟩ := own_tx ho2
  have sp5 : Sep [[(bb, Obj.cells #[.slice q1 1 k1, .map (some mb)] 77)], [(mb, .map #[] 0)], B2, A] := Sep.pick sp4 [1, 2, 0, 3] rfl rfl
  clear nuE fr f0 sF dO ho' hb' c2 c3
  simp only [cat, List.cons_append, List.nil_append]
  intro ν fr; have nuE := And.intro (fr.mem (b := bb) (by simp)) (And.intro (fr.mem (b := mb) (by simp)) (And.intro dst_ fr.nu))
  simp (maxDischargeDepth := 16) only [argE_nil, argE_cons, ↓vmD, vmV, vmStd, Nat.reduceMul, ↓reduceIte, Nat.reduceAdd, Nat.reduceSub, Nat.reduceEqDiff, Nat.reduceLT, Nat.reduceLeDiff, reduceCtorEq, Int.reduceToNat, Int.reduceLT, Int.reduceLE, Int.reduceEq, Int.reduceNeg, Int.reduceBEq, Int.reduceBNe, String.reduceEq, forall_const, ↓vmDA, vmVA, ↓vmQA, vmR, vmRA, ↓vmSA, vmSV, tyS, nuE, SubA.skip, SubA.refl, fr.2, vbPsn, isNaN_v, isLess_v, len2_v, lenB2_v, wc]
  clear nuE fr
  have sp6 : Sep [[(bb, bkB q2 k2 mb)], [(mb, .map #[] 0)], B2, A] := Sep.fresh (Sep.hd sp5) _ sp5.2
  refine LoopA.intro (by kernel_rfl) ?_
  intro ν fr; have nuE := And.intro (fr.mem (b := bb) (by simp)) (And.intro (fr.mem (b := mb) (by simp)) (And.intro dst_ fr.nu))
  have sv := sort2_w B2 q2 k2 hq2 _ (Sep.subs sp6 [2] rfl)
  simp only [cat, List.cons_append, List.nil_append, bkB] at sv
  simp (maxDischargeDepth := 16) only [argE_nil, argE_cons, ↓vmD, vmV, vmStd, Nat.reduceMul, ↓reduceIte, Nat.reduceAdd, Nat.reduceSub, Nat.reduceEqDiff, Nat.reduceLT, Nat.reduceLeDiff, reduceCtorEq, Int.reduceToNat, Int.reduceLT, Int.reduceLE, Int.reduceEq, Int.reduceNeg, Int.reduceBEq, Int.reduceBNe, String.reduceEq, forall_const, ↓vmDA, vmVA, ↓vmQA, vmR, vmRA, ↓vmSA, vmSV, tyS, nuE, SubA.skip, SubA.refl, fr.2, vbPsn, isNaN_v, isLess_v, len2_v, lenB2_v, sv]
  refine ⟨_, cat [[(bb, bkB q2 k2 mb)], [(mb, .map #[] 0)], B2], rfl, ⟨bb, rfl, mb, k2, q2, B2, #[], 0, rfl, Sep.pick sp6 [0, 1, 2] rfl rfl, hq2, MapIs.nil⟩, ?_, ?_⟩
  · exact (Sep.dis (Sep.pick (Sep.coarse (a := [A]) (m := [[(bb, bkB q2 k2 mb)], [(mb, .map #[] 0)], B2]) (Sep.pick sp6 [3, 0, 1, 2] rfl rfl)) [1, 0] rfl rfl)).subr (by simp only [cat, List.append_nil]; exact SubA.refl _)
  · simp only [cat, List.cons_append, List.nil_append, bkB, List.append_nil]
    exact SubA.refl _

theorem monChk_h (a : Int) (ha : -1000000000000 ≤ a ∧ a ≤ 1000000000000) : CallA Tryz.prog 35 #[.agg #[.int .i64 a, .string (bs eurT)]] [] (fun u_ _ => u_ = .int .i64 0) := by
  refine callA_of_denA ⟨Tryz.prog, 35, Tryz.f35, 11, [0, 1, 2], [], [], _⟩ (args := [_]) Tryz.func35 rfl (by kernel_rfl) Tryz.ntmps35 (by simp) (by kernel_rfl) ?_
  intro ν fr; have nuE := fr.nu
  have q5 : curF (bs eurT) = true := by decide +kernel
  have q6 : totB a = true := by simp [totB]; omega
  simp (maxDischargeDepth := 16) only [argE_nil, argE_cons, ↓vmD, vmV, vmStd, Nat.reduceMul, ↓reduceIte, Nat.reduceAdd, Nat.reduceSub, Nat.reduceEqDiff, Nat.reduceLT, Nat.reduceLeDiff, reduceCtorEq, Int.reduceToNat, Int.reduceLT, Int.reduceLE, Int.reduceEq, Int.reduceNeg, Int.reduceBEq, Int.reduceBNe, String.reduceEq, forall_const, ↓vmDA, vmVA, ↓vmQA, vmR, vmRA, ↓vmSA, vmSV, tyS, nuE, SubA.skip, SubA.refl, fr.2, vbPsn, isNaN_v, isLess_v, len2_v, lenB2_v, q5, q6]
theorem monChk_v (a : Int) (ha : -1000000000000 ≤ a ∧ a ≤ 1000000000000) (A_ : AH) : valA Tryz.prog 35 #[.agg #[.int .i64 a, .string (bs eurT)]] A_ = some (.int .i64 0) := valA_eq (pureA_of (by kernel_rfl) (monChk_h a ha))
theorem withn_h (n : Int) (hn : -1000000000000 ≤ n ∧ n ≤ 1000000000000) : CallA Tryz.prog 36 #[.int .i64 n] [] (fun u_ _ => u_ = .bool true) := by
  refine callA_of_denA ⟨Tryz.prog, 36, Tryz.f36, 9, [0, 2], [], [], _⟩ (args := [_]) Tryz.func36 rfl (by kernel_rfl) Tryz.ntmps36 (by simp) (by kernel_rfl) ?_
  intro ν fr; have nuE := fr.nu
  simp (maxDischargeDepth := 16) only [argE_nil, argE_cons, ↓vmD, vmV, vmStd, Nat.reduceMul, ↓reduceIte, Nat.reduceAdd, Nat.reduceSub, Nat.reduceEqDiff, Nat.reduceLT, Nat.reduceLeDiff, reduceCtorEq, Int.reduceToNat, Int.reduceLT, Int.reduceLE, Int.reduceEq, Int.reduceNeg, Int.reduceBEq, Int.reduceBNe, String.reduceEq, forall_const, ↓vmDA, vmVA, ↓vmQA, vmR, vmRA, ↓vmSA, vmSV, tyS, nuE, SubA.skip, SubA.refl, fr.2, vbPsn, isNaN_v, isLess_v, len2_v, lenB2_v, monChk_v, eq_true (show -4503599627370496 ≤ n by omega), eq_true (show n ≤ 4503599627370496 by omega)]
theorem withn_v (n : Int) (hn : -1000000000000 ≤ n ∧ n ≤ 1000000000000) (A_ : AH) : valA Tryz.prog 36 #[.int .i64 n] A_ = some (.bool true) := valA_eq (pureA_of (by kernel_rfl) (withn_h n hn))
theorem i_home {B : AH} {pp : Option Addr} {cap : Nat} (hT : TxR B pp cap [homeT, shopT]) (A : AH) (hA : SubA B A) : valA Tryz.prog 34 #[.slice pp 2 cap, .string (bs homeT)] A = some (.int .i64 0) := by
  have := indexS_w B [homeT, shopT] pp cap homeT hT A hA
  rw [show optI (idxT homeT [homeT, shopT]) = 0 from by decide] at this
  exact this
theorem i_shop {B : AH} {pp : Option Addr} {cap : Nat} (hT : TxR B pp cap [homeT, shopT]) (A : AH) (hA : SubA B A) : valA Tryz.prog 34 #[.slice pp 2 cap, .string (bs shopT)] A = some (.int .i64 1) := by
  have := indexS_w B [homeT, shopT] pp cap shopT hT A hA
  rw [show optI (idxT shopT [homeT, shopT]) = 1 from by decide] at this
  exact this
theorem l_row {mb : Nat} {es : Array MapEntry} {cl : Nat} {n : Int} (hM : MapIs es (rowM n)) (A : AH) (hA : Vm.look A mb = some (.map es cl)) : readA Tryz.prog (Instr.lookup 75 (.map (some mb)) (.string (bs eurT)) false) A = some (.agg (rowA n)) := by
  have := rdA_lookup (ok := false) und_row und_str zro_row hA hM (s := bs eurT)
  rw [this]
  simp only [Bool.false_eq_true, if_false]
  exact congrArg some (row_look n)
theorem idxA1 {P : Program} {t e : TypeId} {len : Nat} (hu : P.underlying t = some (.array len e)) (hs : shp P e = some (false, 1)) (cs : Array Value) (k : IntKind) (n : Int) (K : Value → Prop) : idxW P t (.agg cs) (.int k n) K = need (0 ≤ n ∧ n < (len : Int)) (bnd cs[n.toNat]? K) := by
  simp only [idxW, hu, hs, bnd, partV, Nat.mul_one]
theorem idxR (cs : Array Value) (k : IntKind) (n : Int) (K : Value → Prop) : idxW Tryz.prog 93 (.agg cs) (.int k n) K = need (0 ≤ n ∧ n < 16) (bnd cs[n.toNat]? K) := idxA1 (e := 2) (by kernel_rfl) (by kernel_rfl) cs k n K
theorem mb_at {X : AH} {mb bb : Nat} {o u : Obj} (h : (bb = mb) = False) : Vm.look ((bb, u) :: (mb, o) :: X) mb = some o := by simp only [Vm.look, h, if_false, if_true]
theorem posNet_h (E : AH) (bb : Nat) (n : Int) (hE : BkP E bb n) (who : Bool) : CallA Tryz.prog 16 #[.pointer (some ⟨bb, 0, none⟩), .string (bs (if who = true then homeT else shopT)), .string (bs eurT)] E (fun u_ A_ => u_ = .int .i64 (if who = true then n else -n) ∧ SubA E A_) := by
  refine callA_of_denA ⟨Tryz.prog, 16, Tryz.f16, 26, [0, 1, 2, 6, 7], [], [], _⟩ (args := [_, _, _]) Tryz.func16 rfl (by kernel_rfl) Tryz.ntmps16 (by simp) (by kernel_rfl) ?_
  intro ν fr; have nuE := fr.nu
  obtain ⟨mb, cap, pp, B, es, cl, rfl, sp, hT, hM⟩ := hE
  have hne : (bb = mb) = False := by
    have := sp.1.1 mb (by simp [Vm.look])
    simp only [Vm.look] at this
    exact eq_false fun e => by simp [e] at this
  have hB := Sep.subs sp [2] rfl
  have lk := l_row hM (cat [[(bb, bkB pp cap mb)], [(mb, .map es cl)], B]) (by simp only [cat, List.cons_append, List.nil_append]; exact mb_at hne)
  have ih := i_home hT _ hB
  have is := i_shop hT _ hB
  simp only [cat, List.cons_append, List.nil_append, List.append_nil, bkB] at lk ih is ⊢
  cases who with
  | true =>
    simp only [if_true]
    simp (maxDischargeDepth := 16) only [argE_nil, argE_cons, ↓vmD, vmV, vmStd, Nat.reduceMul, ↓reduceIte, Nat.reduceAdd, Nat.reduceSub, Nat.reduceEqDiff, Nat.reduceLT, Nat.reduceLeDiff, reduceCtorEq, Int.reduceToNat, Int.reduceLT, Int.reduceLE, Int.reduceEq, Int.reduceNeg, Int.reduceBEq, Int.reduceBNe, String.reduceEq, forall_const, ↓vmDA, vmVA, ↓vmQA, vmR, vmRA, ↓vmSA, vmSV, tyS, nuE, SubA.skip, SubA.refl, fr.2, vbPsn, isNaN_v, isLess_v, len2_v, lenB2_v, monChk_v, withn_v, ih, lk, hne, rowA, idxR]
  | false =>
    simp only [Bool.false_eq_true, if_false]
    simp (maxDischargeDepth := 16) only [argE_nil, argE_cons, ↓vmD, vmV, vmStd, Nat.reduceMul, ↓reduceIte, Nat.reduceAdd, Nat.reduceSub, Nat.reduceEqDiff, Nat.reduceLT, Nat.reduceLeDiff, reduceCtorEq, Int.reduceToNat, Int.reduceLT, Int.reduceLE, Int.reduceEq, Int.reduceNeg, Int.reduceBEq, Int.reduceBNe, String.reduceEq, forall_const, ↓vmDA, vmVA, ↓vmQA, vmR, vmRA, ↓vmSA, vmSV, tyS, nuE, SubA.skip, SubA.refl, fr.2, vbPsn, isNaN_v, isLess_v, len2_v, lenB2_v, monChk_v, withn_v, is, lk, hne, rowA, idxR]
theorem posNet_w (E : AH) (bb : Nat) (n : Int) (hE : BkP E bb n) (who : Bool) (B_ : AH) (hB_ : SubA E B_) : valA Tryz.prog 16 #[.pointer (some ⟨bb, 0, none⟩), .string (bs (if who = true then homeT else shopT)), .string (bs eurT)] B_ = some (.int .i64 (if who = true then n else -n)) := valA_eq (pureA_at (by kernel_rfl) (posNet_h E bb n hE who) hB_)
theorem posNet_v (E : AH) (bb : Nat) (n : Int) (hE : BkP E bb n) (who : Bool) : valA Tryz.prog 16 #[.pointer (some ⟨bb, 0, none⟩), .string (bs (if who = true then homeT else shopT)), .string (bs eurT)] E = some (.int .i64 (if who = true then n else -n)) := valA_eq (pureA_at (by kernel_rfl) (posNet_h E bb n hE who) (SubA.refl _))
theorem bld16 : bldS Tryz.prog 93 false (some (.agg #[.int .i64 0, .int .i64 0, .int .i64 0, .int .i64 0, .int .i64 0, .int .i64 0, .int .i64 0, .int .i64 0, .int .i64 0, .int .i64 0, .int .i64 0, .int .i64 0, .int .i64 0, .int .i64 0, .int .i64 0, .int .i64 0])) [] = some (.agg #[.int .i64 0, .int .i64 0, .int .i64 0, .int .i64 0, .int .i64 0, .int .i64 0, .int .i64 0, .int .i64 0, .int .i64 0, .int .i64 0, .int .i64 0, .int .i64 0, .int .i64 0, .int .i64 0, .int .i64 0, .int .i64 0]) := by kernel_rfl
theorem eqI (a b : Int) : eqV Tryz.prog 9999 2 (.int .i64 a) (.int .i64 b) = some (a == b) := by
  rw [show (9999 : Nat) = 9998 + 1 from rfl, eqV_eq, show Tryz.prog.underlying 2 = some (.int .i64) from by kernel_rfl]
  exact eqS_int ..
theorem eqRow (m k : Int) : eqS Tryz.prog 9999 93 (some (.array 16 2)) (.agg #[.int .i64 m, .int .i64 k, .int .i64 0, .int .i64 0, .int .i64 0, .int .i64 0, .int .i64 0, .int .i64 0, .int .i64 0, .int .i64 0, .int .i64 0, .int .i64 0, .int .i64 0, .int .i64 0, .int .i64 0, .int .i64 0]) (.agg #[.int .i64 0, .int .i64 0, .int .i64 0, .int .i64 0, .int .i64 0, .int .i64 0, .int .i64 0, .int .i64 0, .int .i64 0, .int .i64 0, .int .i64 0, .int .i64 0, .int .i64 0, .int .i64 0, .int .i64 0, .int .i64 0]) = some (decide (m = 0) && decide (k = 0)) := by
  have hs : shp Tryz.prog 2 = some (false, 1) := by kernel_rfl
  obtain ⟨j, hj, hjs⟩ := Option.map_eq_some_iff.1 (show (Tryz.prog.info? 2).map (·.size) = some 1 by kernel_rfl)
  simp only [eqS, eqAO, hj, hjs, eqA, partV, hs, Nat.mul_one, Nat.zero_add, Nat.reduceAdd, List.getElem?_toArray, List.getElem?_cons_zero, List.getElem?_cons_succ, eqP, eqI, andO, beq_self_eq_true, Bool.and_true]
  by_cases h1 : m = 0 <;> by_cases h2 : k = 0 <;> simp [h1, h2]
theorem rowGuard : Tryz.prog.eqGuardType Tryz.prog.depth 93 = false := by kernel_rfl
theorem posUp_h (E : AH) (bb : Nat) (n a : Int) (hE : BkP E bb n) (ha : 0 ≤ a ∧ a ≤ 1000000) (hn : -1000000 ≤ n ∧ n ≤ 1000000) : CallA Tryz.prog 14 #[.pointer (some ⟨bb, 0, none⟩), .string (bs shopT), .string (bs homeT), .agg #[.int .i64 a, .string (bs eurT)]] E (fun u_ A_ => ∃ E', (u_ = .int .i64 0 ∧ BkP E' bb (n + a)) ∧ SubA E' A_ ∧ ∀ x, Vm.look E x ≠ none → Vm.look A_ x ≠ none) := by
  refine callA_of_denA ⟨Tryz.prog, 14, Tryz.f14, 93, [0, 1, 2, 3, 7, 8, 9, 10, 11, 12], [], [(3, .q false), (13, .p [(0, 0), (1, 0), (2, 0), (3, 0), (4, 0), (5, 0), (6, 0), (7, 1), (8, 2)]), (14, .p [(0, 0), (1, 0), (2, 0), (3, 0), (4, 0), (5, 0), (6, 0), (7, 2)]), (15, .p [(0, 0), (1, 0), (2, 0), (3, 0), (4, 0), (5, 0), (6, 0), (7, 2)]), (18, .p [(0, 0), (1, 0), (2, 0), (3, 0), (4, 0), (5, 0), (6, 0), (7, 2)]), (20, .p [(0, 0), (1, 0), (2, 0), (3, 0), (4, 0), (5, 0), (6, 2)])], _⟩ (args := [_, _, _, _]) Tryz.func14 rfl (by kernel_rfl) Tryz.ntmps14 (by simp) (by kernel_rfl) ?_
  intro ν fr; have nuE := fr.nu
  obtain ⟨mb, cap, pp, B, es, cl, rfl, sp, hT, hM⟩ := hE
  have hne : (bb = mb) = False := by
    have := sp.1.1 mb (by simp [Vm.look])
    simp only [Vm.look] at this
    exact eq_false fun e => by simp [e] at this
  have f0 := fr.2 0
  have hB := fun o => SubA.fresh (o := o) f0 (Sep.subs sp [2] rfl)
  have ih := fun o => i_home hT _ (hB o)
  have is := fun o => i_shop hT _ (hB o)
  simp only [cat, List.cons_append, List.nil_append, List.append_nil, bkB] at ih is f0 ⊢
  have m1 : (ν 0 = bb) = False := eq_false fun e => by rw [e] at f0; simp [Vm.look] at f0
  have m2 : (ν 0 = mb) = False := eq_false fun e => by rw [e] at f0; simp [Vm.look, hne] at f0
  have lkE : ∀ A', Vm.look A' mb = some (.map es cl) → readA Tryz.prog (Instr.lookup 75 (.map (some mb)) (.string (bs eurT)) false) A' = some (.agg (rowA n)) := fun A' h => l_row hM A' h
  simp only [rowA] at lkE
  have mc := monChk_v a (by omega)
  have ng : (a < 0) = False := eq_false (by omega)
  have g1 : ∀ o, Vm.look ((ν 0, o) :: (bb, Obj.cells #[Value.slice pp 2 cap, Value.map (some mb)] 77) :: (mb, Obj.map es cl) :: B) (ν 1) = none := fun o => by
    have := fr.2 1
    simp only [Vm.look, nuE, if_false, cat, List.cons_append, List.nil_append, List.append_nil, bkB] at this ⊢
    exact this
  have sN := fun o1 o0 => SubA.skip (o := o1) (g1 o0) (SubA.refl _)
  have wu1 : IntKind.i64.wrap (-n - a) = -n - a := w_i64 (by omega) (by omega)
  have wu2 : IntKind.i64.wrap (n + a) = n + a := w_i64 (by omega) (by omega)
  have wv1 := withn_v (-n - a) (by omega)
  have wv2 := withn_v (n + a) (by omega)
  have m3 : (ν 1 = bb) = False := eq_false fun e => by have := g1 (.map #[] 0); rw [e] at this; simp [Vm.look, nuE, m1] at this
  have m4 : (ν 1 = mb) = False := eq_false fun e => by have := g1 (.map #[] 0); rw [e] at this; simp [Vm.look, nuE, hne, m2] at this
  have hrow : rowA (n + a) = #[.int .i64 (n + a), .int .i64 (-n - a), .int .i64 0, .int .i64 0, .int .i64 0, .int .i64 0, .int .i64 0, .int .i64 0, .int .i64 0, .int .i64 0, .int .i64 0, .int .i64 0, .int .i64 0, .int .i64 0, .int .i64 0, .int .i64 0] := by
    simp only [rowA]; rw [show -(n + a) = -n - a by omega]
  simp (maxDischargeDepth := 16) only [argE_nil, argE_cons, ↓vmD, vmV, vmStd, Nat.reduceMul, ↓reduceIte, Nat.reduceAdd, Nat.reduceSub, Nat.reduceEqDiff, Nat.reduceLT, Nat.reduceLeDiff, reduceCtorEq, Int.reduceToNat, Int.reduceLT, Int.reduceLE, Int.reduceEq, Int.reduceNeg, Int.reduceBEq, Int.reduceBNe, String.reduceEq, forall_const, ↓vmDA, vmVA, ↓vmQA, vmR, vmRA, ↓vmSA, vmSV, tyS, nuE, SubA.skip, SubA.refl, fr.2, vbPsn, isNaN_v, isLess_v, len2_v, lenB2_v, monChk_v, withn_v, ih, is, m1, m2, m3, m4, hne, mc, ng, lkE, ixR, sN, wu1, wu2, wv1, wv2]
  have dst_ : ((ν 0 = ν 1) = False) ∧ ((ν 1 = ν 0) = False) := (by simp [nuE]); generalize ν 0 = n0 at dst_  f0 g1 m1 m2 m3 m4 sN ⊢; generalize ν 1 = n1 at dst_  f0 g1 m1 m2 m3 m4 sN ⊢
  clear nuE fr ih is
  have hsp : ∀ es' cl', Sep [[(bb, bkB pp cap mb)], [(mb, Obj.map es' cl')], B] := fun es' cl' => Sep.set 1 [(mb, .map es' cl')] sp one_less
  have l1 : Vm.look ((n1, Obj.cells (rowA (n + a)) 93) :: (n0, Obj.cells #[.int .i64 a, .string (bs eurT)] 27) :: (bb, Obj.cells #[Value.slice pp 2 cap, Value.map (some mb)] 77) :: (mb, Obj.map es cl) :: B) mb = some (.map es cl) := by simp only [Vm.look, m4, m2, hne, if_false, if_true]
  rw [hrow] at l1
  refine rA_update und_row und_str l1 hM ?_
  rw [← hrow, row_upd]
  intro es2 cl2 hM2
  have hput : putB ((n1, Obj.cells (rowA (n + a)) 93) :: (n0, Obj.cells #[.int .i64 a, .string (bs eurT)] 27) :: (bb, Obj.cells #[Value.slice pp 2 cap, Value.map (some mb)] 77) :: (mb, Obj.map es cl) :: B) mb (.map es2 cl2) = (n1, Obj.cells (rowA (n + a)) 93) :: (n0, Obj.cells #[.int .i64 a, .string (bs eurT)] 27) :: (bb, Obj.cells #[Value.slice pp 2 cap, Value.map (some mb)] 77) :: (mb, Obj.map es2 cl2) :: B := by
    simp only [putB, m4, m2, hne, if_false, if_true]
  rw [hput]
  intro ν fr
  have nuE := And.intro dst_ (And.intro m1 (And.intro m2 (And.intro m3 (And.intro m4 (And.intro hne (And.intro (fr.mem (b := n1) (by simp)) (And.intro (fr.mem (b := n0) (by simp)) fr.nu)))))))
  by_cases hz : n + a = 0
  · have d1 : decide (n + a = 0) = true := by simpa using hz
    have d2 : decide (-n - a = 0) = true := by simp; omega
    simp (maxDischargeDepth := 16) only [argE_nil, argE_cons, ↓vmD, vmV, vmStd, Nat.reduceMul, ↓reduceIte, Nat.reduceAdd, Nat.reduceSub, Nat.reduceEqDiff, Nat.reduceLT, Nat.reduceLeDiff, reduceCtorEq, Int.reduceToNat, Int.reduceLT, Int.reduceLE, Int.reduceEq, Int.reduceNeg, Int.reduceBEq, Int.reduceBNe, String.reduceEq, forall_const, ↓vmDA, vmVA, ↓vmQA, vmR, vmRA, ↓vmSA, vmSV, tyS, nuE, SubA.skip, SubA.refl, fr.2, vbPsn, isNaN_v, isLess_v, len2_v, lenB2_v, monChk_v, withn_v, hrow, bld16, rowGuard, eqRow, d1, d2]
    clear nuE fr
    have l2 : Vm.look ((n1, Obj.cells (rowA (n + a)) 93) :: (n0, Obj.cells #[.int .i64 a, .string (bs eurT)] 27) :: (bb, Obj.cells #[Value.slice pp 2 cap, Value.map (some mb)] 77) :: (mb, Obj.map es2 cl2) :: B) mb = some (.map es2 cl2) := by simp only [Vm.look, m4, m2, hne, if_false, if_true]
    rw [hrow] at l2
    refine rA_delete rfl und_row und_str l2 hM2 ?_
    rw [row_del]
    intro es3 cl3 hM3
    have hput2 : putB ((n1, Obj.cells (rowA (n + a)) 93) :: (n0, Obj.cells #[.int .i64 a, .string (bs eurT)] 27) :: (bb, Obj.cells #[Value.slice pp 2 cap, Value.map (some mb)] 77) :: (mb, Obj.map es2 cl2) :: B) mb (.map es3 cl3) = (n1, Obj.cells (rowA (n + a)) 93) :: (n0, Obj.cells #[.int .i64 a, .string (bs eurT)] 27) :: (bb, Obj.cells #[Value.slice pp 2 cap, Value.map (some mb)] 77) :: (mb, Obj.map es3 cl3) :: B := by
      simp only [putB, m4, m2, hne, if_false, if_true]
    rw [hrow] at hput2
    rw [hput2]
    intro ν fr
    have nuE := And.intro dst_ (And.intro m1 (And.intro m2 (And.intro m3 (And.intro m4 (And.intro hne (And.intro (fr.mem (b := n1) (by simp)) (And.intro (fr.mem (b := n0) (by simp)) fr.nu)))))))
    simp (maxDischargeDepth := 16) only [argE_nil, argE_cons, ↓vmD, vmV, vmStd, Nat.reduceMul, ↓reduceIte, Nat.reduceAdd, Nat.reduceSub, Nat.reduceEqDiff, Nat.reduceLT, Nat.reduceLeDiff, reduceCtorEq, Int.reduceToNat, Int.reduceLT, Int.reduceLE, Int.reduceEq, Int.reduceNeg, Int.reduceBEq, Int.reduceBNe, String.reduceEq, forall_const, ↓vmDA, vmVA, ↓vmQA, vmR, vmRA, ↓vmSA, vmSV, tyS, nuE, SubA.skip, SubA.refl, fr.2, vbPsn, isNaN_v, isLess_v, len2_v, lenB2_v, monChk_v, withn_v]
    have hm3 : MapIs es3 (rowM (n + a)) := by unfold rowM; rw [if_pos hz]; exact hM3
    refine ⟨cat [[(bb, bkB pp cap mb)], [(mb, .map es3 cl3)], B], ⟨mb, cap, pp, B, es3, cl3, rfl, hsp _ _, hT, hm3⟩, ?_, ?_⟩
    · have q0 : Vm.look (cat [[(bb, bkB pp cap mb)], [(mb, .map es3 cl3)], B]) n0 = none := by
        simp only [Vm.look] at f0
        simp only [cat, List.cons_append, List.nil_append, List.append_nil, Vm.look]
        (repeat' split at f0) <;> simp_all
      have q1 : Vm.look (cat [[(bb, bkB pp cap mb)], [(mb, .map es3 cl3)], B]) n1 = none := by
        have := g1 (.map #[] 0)
        simp only [Vm.look] at this
        simp only [cat, List.cons_append, List.nil_append, List.append_nil, Vm.look]
        (repeat' split at this) <;> simp_all
      have := SubA.skip (o := Obj.cells (rowA (n + a)) 93) q1 (SubA.skip (o := Obj.cells #[.int .i64 a, .string (bs eurT)] 27) q0 (SubA.refl _))
      rw [hrow] at this
      simpa only [cat, List.cons_append, List.nil_append, List.append_nil, bkB] using this
    · intro x hx
      (repeat' split at hx) <;> (repeat' split) <;> simp_all
  · have d1 : decide (n + a = 0) = false := by simpa using hz
    simp (maxDischargeDepth := 16) only [argE_nil, argE_cons, ↓vmD, vmV, vmStd, Nat.reduceMul, ↓reduceIte, Nat.reduceAdd, Nat.reduceSub, Nat.reduceEqDiff, Nat.reduceLT, Nat.reduceLeDiff, reduceCtorEq, Int.reduceToNat, Int.reduceLT, Int.reduceLE, Int.reduceEq, Int.reduceNeg, Int.reduceBEq, Int.reduceBNe, String.reduceEq, forall_const, ↓vmDA, vmVA, ↓vmQA, vmR, vmRA, ↓vmSA, vmSV, tyS, nuE, SubA.skip, SubA.refl, fr.2, vbPsn, isNaN_v, isLess_v, len2_v, lenB2_v, monChk_v, withn_v, hrow, bld16, rowGuard, eqRow, d1]
    have hm2 : MapIs es2 (rowM (n + a)) := by unfold rowM; rw [if_neg hz]; exact hM2
    refine ⟨cat [[(bb, bkB pp cap mb)], [(mb, .map es2 cl2)], B], ⟨mb, cap, pp, B, es2, cl2, rfl, hsp _ _, hT, hm2⟩, ?_, ?_⟩
    · have q0 : Vm.look (cat [[(bb, bkB pp cap mb)], [(mb, .map es2 cl2)], B]) n0 = none := by
        simp only [Vm.look] at f0
        simp only [cat, List.cons_append, List.nil_append, List.append_nil, Vm.look]
        (repeat' split at f0) <;> simp_all
      have q1 : Vm.look (cat [[(bb, bkB pp cap mb)], [(mb, .map es2 cl2)], B]) n1 = none := by
        have := g1 (.map #[] 0)
        simp only [Vm.look] at this
        simp only [cat, List.cons_append, List.nil_append, List.append_nil, Vm.look]
        (repeat' split at this) <;> simp_all
      have := SubA.skip (o := Obj.cells (rowA (n + a)) 93) q1 (SubA.skip (o := Obj.cells #[.int .i64 a, .string (bs eurT)] 27) q0 (SubA.refl _))
      rw [hrow] at this
      simpa only [cat, List.cons_append, List.nil_append, List.append_nil, bkB] using this
    · intro x hx
      (repeat' split at hx) <;> (repeat' split) <;> simp_all

theorem posDn_h (E : AH) (bb : Nat) (n a : Int) (hE : BkP E bb n) (ha : 0 ≤ a ∧ a ≤ 1000000) (hn : -1000000 ≤ n ∧ n ≤ 1000000) : CallA Tryz.prog 14 #[.pointer (some ⟨bb, 0, none⟩), .string (bs homeT), .string (bs shopT), .agg #[.int .i64 a, .string (bs eurT)]] E (fun u_ A_ => ∃ E', (u_ = .int .i64 0 ∧ BkP E' bb (n - a)) ∧ SubA E' A_ ∧ ∀ x, Vm.look E x ≠ none → Vm.look A_ x ≠ none) := by
  refine callA_of_denA ⟨Tryz.prog, 14, Tryz.f14, 93, [0, 1, 2, 3, 7, 8, 9, 10, 11, 12], [], [(3, .q false), (13, .p [(0, 0), (1, 0), (2, 0), (3, 0), (4, 0), (5, 0), (6, 0), (7, 1), (8, 2)]), (14, .p [(0, 0), (1, 0), (2, 0), (3, 0), (4, 0), (5, 0), (6, 0), (7, 2)]), (15, .p [(0, 0), (1, 0), (2, 0), (3, 0), (4, 0), (5, 0), (6, 0), (7, 2)]), (18, .p [(0, 0), (1, 0), (2, 0), (3, 0), (4, 0), (5, 0), (6, 0), (7, 2)]), (20, .p [(0, 0), (1, 0), (2, 0), (3, 0), (4, 0), (5, 0), (6, 2)])], _⟩ (args := [_, _, _, _]) Tryz.func14 rfl (by kernel_rfl) Tryz.ntmps14 (by simp) (by kernel_rfl) ?_
  intro ν fr; have nuE := fr.nu
  obtain ⟨mb, cap, pp, B, es, cl, rfl, sp, hT, hM⟩ := hE
  have hne : (bb = mb) = False := by
    have := sp.1.1 mb (by simp [Vm.look])
    simp only [Vm.look] at this
    exact eq_false fun e => by simp [e] at this
  have f0 := fr.2 0
  have hB := fun o => SubA.fresh (o := o) f0 (Sep.subs sp [2] rfl)
  have ih := fun o => i_home hT _ (hB o)
  have is := fun o => i_shop hT _ (hB o)
  simp only [cat, List.cons_append, List.nil_append, List.append_nil, bkB] at ih is f0 ⊢
  have m1 : (ν 0 = bb) = False := eq_false fun e => by rw [e] at f0; simp [Vm.look] at f0
  have m2 : (ν 0 = mb) = False := eq_false fun e => by rw [e] at f0; simp [Vm.look, hne] at f0
  have lkE : ∀ A', Vm.look A' mb = some (.map es cl) → readA Tryz.prog (Instr.lookup 75 (.map (some mb)) (.string (bs eurT)) false) A' = some (.agg (rowA n)) := fun A' h => l_row hM A' h
  simp only [rowA] at lkE
  have mc := monChk_v a (by omega)
  have ng : (a < 0) = False := eq_false (by omega)
  have g1 : ∀ o, Vm.look ((ν 0, o) :: (bb, Obj.cells #[Value.slice pp 2 cap, Value.map (some mb)] 77) :: (mb, Obj.map es cl) :: B) (ν 1) = none := fun o => by
    have := fr.2 1
    simp only [Vm.look, nuE, if_false, cat, List.cons_append, List.nil_append, List.append_nil, bkB] at this ⊢
    exact this
  have sN := fun o1 o0 => SubA.skip (o := o1) (g1 o0) (SubA.refl _)
  have wu1 : IntKind.i64.wrap (-n + a) = -n + a := w_i64 (by omega) (by omega)
  have wu2 : IntKind.i64.wrap (n - a) = n - a := w_i64 (by omega) (by omega)
  have wv1 := withn_v (-n + a) (by omega)
  have wv2 := withn_v (n - a) (by omega)
  have m3 : (ν 1 = bb) = False := eq_false fun e => by have := g1 (.map #[] 0); rw [e] at this; simp [Vm.look, nuE, m1] at this
  have m4 : (ν 1 = mb) = False := eq_false fun e => by have := g1 (.map #[] 0); rw [e] at this; simp [Vm.look, nuE, hne, m2] at this
  have hrow : rowA (n - a) = #[.int .i64 (n - a), .int .i64 (-n + a), .int .i64 0, .int .i64 0, .int .i64 0, .int .i64 0, .int .i64 0, .int .i64 0, .int .i64 0, .int .i64 0, .int .i64 0, .int .i64 0, .int .i64 0, .int .i64 0, .int .i64 0, .int .i64 0] := by
    simp only [rowA]; rw [show -(n - a) = -n + a by omega]
  simp (maxDischargeDepth := 16) only [argE_nil, argE_cons, ↓vmD, vmV, vmStd, Nat.reduceMul, ↓reduceIte, Nat.reduceAdd, Nat.reduceSub, Nat.reduceEqDiff, Nat.reduceLT, Nat.reduceLeDiff, reduceCtorEq, Int.reduceToNat, Int.reduceLT, Int.reduceLE, Int.reduceEq, Int.reduceNeg, Int.reduceBEq, Int.reduceBNe, String.reduceEq, forall_const, ↓vmDA, vmVA, ↓vmQA, vmR, vmRA, ↓vmSA, vmSV, tyS, nuE, SubA.skip, SubA.refl, fr.2, vbPsn, isNaN_v, isLess_v, len2_v, lenB2_v, monChk_v, withn_v, ih, is, m1, m2, m3, m4, hne, mc, ng, lkE, ixR, sN, wu1, wu2, wv1, wv2]
  have dst_ : ((ν 0 = ν 1) = False) ∧ ((ν 1 = ν 0) = False) := (by simp [nuE]); generalize ν 0 = n0 at dst_  f0 g1 m1 m2 m3 m4 sN ⊢; generalize ν 1 = n1 at dst_  f0 g1 m1 m2 m3 m4 sN ⊢
  clear nuE fr ih is
  have hsp : ∀ es' cl', Sep [[(bb, bkB pp cap mb)], [(mb, Obj.map es' cl')], B] := fun es' cl' => Sep.set 1 [(mb, .map es' cl')] sp one_less
  have l1 : Vm.look ((n1, Obj.cells (rowA (n - a)) 93) :: (n0, Obj.cells #[.int .i64 a, .string (bs eurT)] 27) :: (bb, Obj.cells #[Value.slice pp 2 cap, Value.map (some mb)] 77) :: (mb, Obj.map es cl) :: B) mb = some (.map es cl) := by simp only [Vm.look, m4, m2, hne, if_false, if_true]
  rw [hrow] at l1
  refine rA_update und_row und_str l1 hM ?_
  rw [← hrow, row_upd]
  intro es2 cl2 hM2
  have hput : putB ((n1, Obj.cells (rowA (n - a)) 93) :: (n0, Obj.cells #[.int .i64 a, .string (bs eurT)] 27) :: (bb, Obj.cells #[Value.slice pp 2 cap, Value.map (some mb)] 77) :: (mb, Obj.map es cl) :: B) mb (.map es2 cl2) = (n1, Obj.cells (rowA (n - a)) 93) :: (n0, Obj.cells #[.int .i64 a, .string (bs eurT)] 27) :: (bb, Obj.cells #[Value.slice pp 2 cap, Value.map (some mb)] 77) :: (mb, Obj.map es2 cl2) :: B := by
    simp only [putB, m4, m2, hne, if_false, if_true]
  rw [hput]
  intro ν fr
  have nuE := And.intro dst_ (And.intro m1 (And.intro m2 (And.intro m3 (And.intro m4 (And.intro hne (And.intro (fr.mem (b := n1) (by simp)) (And.intro (fr.mem (b := n0) (by simp)) fr.nu)))))))
  by_cases hz : n - a = 0
  · have d1 : decide (n - a = 0) = true := by simpa using hz
    have d2 : decide (-n + a = 0) = true := by simp; omega
    simp (maxDischargeDepth := 16) only [argE_nil, argE_cons, ↓vmD, vmV, vmStd, Nat.reduceMul, ↓reduceIte, Nat.reduceAdd, Nat.reduceSub, Nat.reduceEqDiff, Nat.reduceLT, Nat.reduceLeDiff, reduceCtorEq, Int.reduceToNat, Int.reduceLT, Int.reduceLE, Int.reduceEq, Int.reduceNeg, Int.reduceBEq, Int.reduceBNe, String.reduceEq, forall_const, ↓vmDA, vmVA, ↓vmQA, vmR, vmRA, ↓vmSA, vmSV, tyS, nuE, SubA.skip, SubA.refl, fr.2, vbPsn, isNaN_v, isLess_v, len2_v, lenB2_v, monChk_v, withn_v, hrow, bld16, rowGuard, eqRow, d1, d2]
    clear nuE fr
    have l2 : Vm.look ((n1, Obj.cells (rowA (n - a)) 93) :: (n0, Obj.cells #[.int .i64 a, .string (bs eurT)] 27) :: (bb, Obj.cells #[Value.slice pp 2 cap, Value.map (some mb)] 77) :: (mb, Obj.map es2 cl2) :: B) mb = some (.map es2 cl2) := by simp only [Vm.look, m4, m2, hne, if_false, if_true]
    rw [hrow] at l2
    refine rA_delete rfl und_row und_str l2 hM2 ?_
    rw [row_del]
    intro es3 cl3 hM3
    have hput2 : putB ((n1, Obj.cells (rowA (n - a)) 93) :: (n0, Obj.cells #[.int .i64 a, .string (bs eurT)] 27) :: (bb, Obj.cells #[Value.slice pp 2 cap, Value.map (some mb)] 77) :: (mb, Obj.map es2 cl2) :: B) mb (.map es3 cl3) = (n1, Obj.cells (rowA (n - a)) 93) :: (n0, Obj.cells #[.int .i64 a, .string (bs eurT)] 27) :: (bb, Obj.cells #[Value.slice pp 2 cap, Value.map (some mb)] 77) :: (mb, Obj.map es3 cl3) :: B := by
      simp only [putB, m4, m2, hne, if_false, if_true]
    rw [hrow] at hput2
    rw [hput2]
    intro ν fr
    have nuE := And.intro dst_ (And.intro m1 (And.intro m2 (And.intro m3 (And.intro m4 (And.intro hne (And.intro (fr.mem (b := n1) (by simp)) (And.intro (fr.mem (b := n0) (by simp)) fr.nu)))))))
    simp (maxDischargeDepth := 16) only [argE_nil, argE_cons, ↓vmD, vmV, vmStd, Nat.reduceMul, ↓reduceIte, Nat.reduceAdd, Nat.reduceSub, Nat.reduceEqDiff, Nat.reduceLT, Nat.reduceLeDiff, reduceCtorEq, Int.reduceToNat, Int.reduceLT, Int.reduceLE, Int.reduceEq, Int.reduceNeg, Int.reduceBEq, Int.reduceBNe, String.reduceEq, forall_const, ↓vmDA, vmVA, ↓vmQA, vmR, vmRA, ↓vmSA, vmSV, tyS, nuE, SubA.skip, SubA.refl, fr.2, vbPsn, isNaN_v, isLess_v, len2_v, lenB2_v, monChk_v, withn_v]
    have hm3 : MapIs es3 (rowM (n - a)) := by unfold rowM; rw [if_pos hz]; exact hM3
    refine ⟨cat [[(bb, bkB pp cap mb)], [(mb, .map es3 cl3)], B], ⟨mb, cap, pp, B, es3, cl3, rfl, hsp _ _, hT, hm3⟩, ?_, ?_⟩
    · have q0 : Vm.look (cat [[(bb, bkB pp cap mb)], [(mb, .map es3 cl3)], B]) n0 = none := by
        simp only [Vm.look] at f0
        simp only [cat, List.cons_append, List.nil_append, List.append_nil, Vm.look]
        (repeat' split at f0) <;> simp_all
      have q1 : Vm.look (cat [[(bb, bkB pp cap mb)], [(mb, .map es3 cl3)], B]) n1 = none := by
        have := g1 (.map #[] 0)
        simp only [Vm.look] at this
        simp only [cat, List.cons_append, List.nil_append, List.append_nil, Vm.look]
        (repeat' split at this) <;> simp_all
      have := SubA.skip (o := Obj.cells (rowA (n - a)) 93) q1 (SubA.skip (o := Obj.cells #[.int .i64 a, .string (bs eurT)] 27) q0 (SubA.refl _))
      rw [hrow] at this
      simpa only [cat, List.cons_append, List.nil_append, List.append_nil, bkB] using this
    · intro x hx
      (repeat' split at hx) <;> (repeat' split) <;> simp_all
  · have d1 : decide (n - a = 0) = false := by simpa using hz
    simp (maxDischargeDepth := 16) only [argE_nil, argE_cons, ↓vmD, vmV, vmStd, Nat.reduceMul, ↓reduceIte, Nat.reduceAdd, Nat.reduceSub, Nat.reduceEqDiff, Nat.reduceLT, Nat.reduceLeDiff, reduceCtorEq, Int.reduceToNat, Int.reduceLT, Int.reduceLE, Int.reduceEq, Int.reduceNeg, Int.reduceBEq, Int.reduceBNe, String.reduceEq, forall_const, ↓vmDA, vmVA, ↓vmQA, vmR, vmRA, ↓vmSA, vmSV, tyS, nuE, SubA.skip, SubA.refl, fr.2, vbPsn, isNaN_v, isLess_v, len2_v, lenB2_v, monChk_v, withn_v, hrow, bld16, rowGuard, eqRow, d1]
    have hm2 : MapIs es2 (rowM (n - a)) := by unfold rowM; rw [if_neg hz]; exact hM2
    refine ⟨cat [[(bb, bkB pp cap mb)], [(mb, .map es2 cl2)], B], ⟨mb, cap, pp, B, es2, cl2, rfl, hsp _ _, hT, hm2⟩, ?_, ?_⟩
    · have q0 : Vm.look (cat [[(bb, bkB pp cap mb)], [(mb, .map es2 cl2)], B]) n0 = none := by
        simp only [Vm.look] at f0
        simp only [cat, List.cons_append, List.nil_append, List.append_nil, Vm.look]
        (repeat' split at f0) <;> simp_all
      have q1 : Vm.look (cat [[(bb, bkB pp cap mb)], [(mb, .map es2 cl2)], B]) n1 = none := by
        have := g1 (.map #[] 0)
        simp only [Vm.look] at this
        simp only [cat, List.cons_append, List.nil_append, List.append_nil, Vm.look]
        (repeat' split at this) <;> simp_all
      have := SubA.skip (o := Obj.cells (rowA (n - a)) 93) q1 (SubA.skip (o := Obj.cells #[.int .i64 a, .string (bs eurT)] 27) q0 (SubA.refl _))
      rw [hrow] at this
      simpa only [cat, List.cons_append, List.nil_append, List.append_nil, bkB] using this
    · intro x hx
      (repeat' split at hx) <;> (repeat' split) <;> simp_all

end Go.Proofs.YtiholbpchhifiaaGreatDoor
