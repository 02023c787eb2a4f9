/-
Disputes: the law's calls as data, the tests of smallness, the examples.
Conditions: none.
-/
import Derived.Test.YtkkpmcomloekoaaGreatDsn
namespace Go.Proofs.YtkkpmcomloekoaaGreat
open Go.Vm
set_option linter.unusedSimpArgs false
set_option linter.unusedVariables false
set_option maxHeartbeats 4000000
set_option maxRecDepth 20000
theorem vbDsl : type_of% (And.intro @slIndexByte_v (And.intro @indexByte_v (And.intro @indexRune_v (And.intro @containsRune_v (And.intro @classOf_v (And.intro @isWordByte_v (And.intro @letter_v (And.intro @digit_v (And.intro @wordAt_v (And.intro @rword_v (And.intro @isName_v (And.intro @risName_v (And.intro @possible_v (And.intro @days_v (And.intro @due_v (And.intro @evName_v (And.intro @evCheck_v (And.intro @dNext_v (And.intro @rNext_v (And.intro @dTurn_v (And.intro @recId_v (And.intro @rId13_v (And.intro @rId27_v (And.intro @moneyCur_v (And.intro @rCur01_v (And.intro @inTotal_v (And.intro @rwithin1_v (And.intro @exCard_v (And.intro @recCheck_v (@dspId_v)))))))))))))))))))))))))))))) := And.intro @slIndexByte_v (And.intro @indexByte_v (And.intro @indexRune_v (And.intro @containsRune_v (And.intro @classOf_v (And.intro @isWordByte_v (And.intro @letter_v (And.intro @digit_v (And.intro @wordAt_v (And.intro @rword_v (And.intro @isName_v (And.intro @risName_v (And.intro @possible_v (And.intro @days_v (And.intro @due_v (And.intro @evName_v (And.intro @evCheck_v (And.intro @dNext_v (And.intro @rNext_v (And.intro @dTurn_v (And.intro @recId_v (And.intro @rId13_v (And.intro @rId27_v (And.intro @moneyCur_v (And.intro @rCur01_v (And.intro @inTotal_v (And.intro @rwithin1_v (And.intro @exCard_v (And.intro @recCheck_v (@dspId_v)))))))))))))))))))))))))))))
/-- A call of the law. -/
structure DoT where
  kd : Nat
  id : Txt
  code : Txt
  r : Rd
  am : Int
  ev : Int
  dt : Int
  its : List Itm
  ip : Option Addr
  ic : Nat
def doC (x : DoT) : List Value := [.int .u8 (x.kd : Int), .string (bs x.id), .string (bs x.code), .int .i64 x.r.kd, .string (bs x.r.id), .string (bs x.r.au), .string (bs x.r.aq), .string (bs x.r.is), .string (bs x.r.me), .string (bs x.r.ca), .int .i64 x.r.am, .string (bs x.r.cu), .int .i64 x.r.da, .int .i64 x.r.ct, .bool x.r.fi, .int .i64 x.am, .int .i64 x.ev, .int .i64 x.dt, .slice x.ip x.its.length x.ic]
theorem doC_len (x : DoT) : (doC x).length = 19 := rfl
/-- Calls, to be read. -/
def DoR (A : AH) (p : Option Addr) (L : List DoT) : Prop := StR doC 19 A p L ∧ ∀ x ∈ L, x.kd ≤ 255 ∧ StR itC 3 A x.ip x.its ∧ x.its.length ≤ 9223372036854775807
theorem DoR.mono {A B : AH} {p : Option Addr} {L : List DoT} (h : DoR A p L) (hs : SubA A B) : DoR B p L := ⟨h.1.mono hs, fun x hx => ⟨(h.2 x hx).1, (h.2 x hx).2.1.mono hs, (h.2 x hx).2.2⟩⟩
theorem short_h (A : AH) (x : DoT) (hI : StR itC 3 A x.ip x.its) (hl : x.its.length ≤ 9223372036854775807) : CallA Tryz.prog 26 #[.agg #[.int .u8 (x.kd : Int), .string (bs x.id), .string (bs x.code), .int .i64 x.r.kd, .string (bs x.r.id), .string (bs x.r.au), .string (bs x.r.aq), .string (bs x.r.is), .string (bs x.r.me), .string (bs x.r.ca), .int .i64 x.r.am, .string (bs x.r.cu), .int .i64 x.r.da, .int .i64 x.r.ct, .bool x.r.fi, .int .i64 x.am, .int .i64 x.ev, .int .i64 x.dt, .slice x.ip x.its.length x.ic]] A (fun u_ A_ => SubA A A_ ∧ ∃ b, u_ = .bool b) := by
  refine callA_of_denA ⟨Tryz.prog, 26, Tryz.f26, 72, [0, 1, 2, 3, 4, 5], [], [], _⟩ (args := [_]) Tryz.func26 rfl (by kernel_rfl) Tryz.ntmps26 (by simp) (by kernel_rfl) ?_
  intro ν fr; have nuE := fr.nu
  simp (maxDischargeDepth := 16) only [argE_nil, argE_cons, ↓vmD, vmV, vmStd, Nat.reduceMul, ↓reduceIte, Nat.reduceAdd, Nat.reduceSub, Nat.reduceEqDiff, Nat.reduceLT, Nat.reduceLeDiff, reduceCtorEq, Int.reduceToNat, Int.reduceLT, Int.reduceLE, Int.reduceEq, Int.reduceNeg, Int.reduceBEq, Int.reduceBNe, String.reduceEq, forall_const, ↓vmDA, vmVA, ↓vmQA, vmR, vmRA, ↓vmSA, vmSV, tyS, nuE, SubA.skip, SubA.refl, fr.2, vbDsl, bs_size]
  have f0 := fr.2 0
  have f1 := fr.2 1
  have dst_ : ((ν 0 = ν 1) = False) ∧ ((ν 1 = ν 0) = False) := (by simp [nuE]); generalize ν 0 = n0 at dst_  f0 f1 ⊢; generalize ν 1 = n1 at dst_  f0 f1 ⊢
  obtain ⟨q1, q2⟩ := dst_
  clear nuE fr
  generalize hn : IntKind.i64.wrap (_ + ((List.length x.r.cu : Nat) : Int)) = n
  clear hn
  generalize hip : x.ip = ip at hI ⊢
  have sA : ∀ o1 o2, SubA A ((n1, o1) :: (n0, o2) :: A) := fun o1 o2 => SubA.skip f1 (SubA.skip f0 (SubA.refl _))
  obtain ⟨e, l, he, hd, hle⟩ : ∃ (e : Nat) (l : List Itm), e = 0 ∧ l = x.its.drop e ∧ e ≤ x.its.length := ⟨0, x.its, rfl, rfl, by omega⟩
  rw [show (5, some (Value.int .i64 0)) = (5, some (Value.int .i64 (e : Int))) by rw [he]; rfl]
  clear he
  induction l generalizing e n with
  | nil =>
    obtain ⟨hn1, hn2⟩ := drop_nil hd hle
    have lt : ((e : Int) < (x.its.length : Int)) = False := eq_false (by omega)
    refine LoopA.intro (by kernel_rfl) ?_
    intro ν fr
    have nuE := And.intro q1 (And.intro q2 (And.intro (fr.mem (b := n0) (by simp)) (And.intro (fr.mem (b := n1) (by simp)) fr.nu)))
    simp (maxDischargeDepth := 16) only [argE_nil, argE_cons, ↓vmD, vmV, vmStd, Nat.reduceMul, ↓reduceIte, Nat.reduceAdd, Nat.reduceSub, Nat.reduceEqDiff, Nat.reduceLT, Nat.reduceLeDiff, reduceCtorEq, Int.reduceToNat, Int.reduceLT, Int.reduceLE, Int.reduceEq, Int.reduceNeg, Int.reduceBEq, Int.reduceBNe, String.reduceEq, forall_const, ↓vmDA, vmVA, ↓vmQA, vmR, vmRA, ↓vmSA, vmSV, tyS, nuE, SubA.skip, SubA.refl, fr.2, vbDsl, lt]
    split <;> exact ⟨sA _ _, _, rfl⟩
  | cons y l ih =>
    obtain ⟨ha, hlt, hd', htk⟩ := drop_some hd
    have lt : ((e : Int) < (x.its.length : Int)) = True := eq_true (by omega)
    have we : IntKind.i64.wrap ((e : Int) + 1) = ((e + 1 : Nat) : Int) := by rw [w_i64 (by omega) (by omega)]; omega
    obtain ⟨bk, off, cs, ty, fr0, hp0, hbk, hcr, hcc⟩ := hI.at ha
    subst hp0
    obtain ⟨m1, m2⟩ := look_ne f0 hbk
    obtain ⟨m3, m4⟩ := look_ne f1 hbk
    have hc0 : cs[off + e * 3]? = some (.string (bs y.kd)) := hcc 0 _ rfl
    have li : ((e : Int) < 0) = False := eq_false (by omega)
    refine LoopA.intro (by kernel_rfl) ?_
    intro ν fr
    have nuE := And.intro q1 (And.intro q2 (And.intro (fr.mem (b := n0) (by simp)) (And.intro (fr.mem (b := n1) (by simp)) fr.nu)))
    by_cases h30 : (e : Int) < 30
    · simp (maxDischargeDepth := 16) only [argE_nil, argE_cons, ↓vmD, vmV, vmStd, Nat.reduceMul, ↓reduceIte, Nat.reduceAdd, Nat.reduceSub, Nat.reduceEqDiff, Nat.reduceLT, Nat.reduceLeDiff, reduceCtorEq, Int.reduceToNat, Int.reduceLT, Int.reduceLE, Int.reduceEq, Int.reduceNeg, Int.reduceBEq, Int.reduceBNe, String.reduceEq, forall_const, ↓vmDA, vmVA, ↓vmQA, vmR, vmRA, ↓vmSA, vmSV, tyS, nuE, SubA.skip, SubA.refl, fr.2, vbDsl, lt, li, eq_true h30, hbk, hc0, m1, m2, m3, m4, we, bs_size]
      exact LoopA.weak (ih (e := e + 1) (IntKind.i64.wrap (n + ((List.length y.kd : Nat) : Int))) hd' (by omega)) (by simp only [subE, get_cons, Nat.reduceEqDiff, ↓reduceIte, reduceCtorEq, Nat.reduceAdd, and_self, and_true]) (SubA.refl _)
    · simp (maxDischargeDepth := 16) only [argE_nil, argE_cons, ↓vmD, vmV, vmStd, Nat.reduceMul, ↓reduceIte, Nat.reduceAdd, Nat.reduceSub, Nat.reduceEqDiff, Nat.reduceLT, Nat.reduceLeDiff, reduceCtorEq, Int.reduceToNat, Int.reduceLT, Int.reduceLE, Int.reduceEq, Int.reduceNeg, Int.reduceBEq, Int.reduceBNe, String.reduceEq, forall_const, ↓vmDA, vmVA, ↓vmQA, vmR, vmRA, ↓vmSA, vmSV, tyS, nuE, SubA.skip, SubA.refl, fr.2, vbDsl, lt, eq_false h30]
      split <;> exact ⟨sA _ _, _, rfl⟩

theorem short_n (A : AH) (x : DoT) (hI : StR itC 3 A x.ip x.its) (hl : x.its.length ≤ 9223372036854775807) : CallA Tryz.prog 26 #[.agg #[.int .u8 (x.kd : Int), .string (bs x.id), .string (bs x.code), .int .i64 x.r.kd, .string (bs x.r.id), .string (bs x.r.au), .string (bs x.r.aq), .string (bs x.r.is), .string (bs x.r.me), .string (bs x.r.ca), .int .i64 x.r.am, .string (bs x.r.cu), .int .i64 x.r.da, .int .i64 x.r.ct, .bool x.r.fi, .int .i64 x.am, .int .i64 x.ev, .int .i64 x.dt, .slice x.ip x.its.length x.ic]] A (fun u D => ∃ v B, u = v ∧ (∃ b, v = .bool b) ∧ Dis B A ∧ SubA (B ++ A) D) :=
  (short_h A x hI hl).mono fun u D ⟨h1, h2⟩ => ⟨u, [], rfl, h2, Dis.nil _, h1⟩
theorem small_h (A : AH) (L : List Rs) (p : Option Addr) (cap : Nat) (hL : RsR A p L) (M : List DoT) (q : Option Addr) (qcap : Nat) (hM : DoR A q M) : CallA Tryz.prog 4 #[.slice p L.length cap, .slice q M.length qcap] A (fun u_ A_ => SubA A A_ ∧ ∃ b, u_ = .bool b ∧ (b = true → L.length ≤ 40 ∧ M.length ≤ 80)) := by
  refine callA_of_denA ⟨Tryz.prog, 4, Tryz.f4, 100, [0, 1, 4, 5, 6, 7, 8, 9], [26], [(7, .q false)], _⟩ (args := [_, _]) Tryz.func4 rfl (by kernel_rfl) Tryz.ntmps4 (by simp) (by kernel_rfl) ?_
  intro ν fr; have nuE := fr.nu
  by_cases h1 : 40 < L.length
  · have h1' : ((40 : Int) < (L.length : Int)) = True := eq_true (by omega)
    simp (maxDischargeDepth := 16) only [argE_nil, argE_cons, ↓vmD, vmV, vmStd, Nat.reduceMul, ↓reduceIte, Nat.reduceAdd, Nat.reduceSub, Nat.reduceEqDiff, Nat.reduceLT, Nat.reduceLeDiff, reduceCtorEq, Int.reduceToNat, Int.reduceLT, Int.reduceLE, Int.reduceEq, Int.reduceNeg, Int.reduceBEq, Int.reduceBNe, String.reduceEq, forall_const, ↓vmDA, vmVA, ↓vmQA, vmR, vmRA, ↓vmSA, vmSV, tyS, nuE, SubA.skip, SubA.refl, fr.2, vbDsl, h1']
    exact ⟨_, rfl, fun h => by cases h⟩
  have h1' : ((40 : Int) < (L.length : Int)) = False := eq_false (by omega)
  by_cases h2 : 80 < M.length
  · have h2' : ((80 : Int) < (M.length : Int)) = True := eq_true (by omega)
    simp (maxDischargeDepth := 16) only [argE_nil, argE_cons, ↓vmD, vmV, vmStd, Nat.reduceMul, ↓reduceIte, Nat.reduceAdd, Nat.reduceSub, Nat.reduceEqDiff, Nat.reduceLT, Nat.reduceLeDiff, reduceCtorEq, Int.reduceToNat, Int.reduceLT, Int.reduceLE, Int.reduceEq, Int.reduceNeg, Int.reduceBEq, Int.reduceBNe, String.reduceEq, forall_const, ↓vmDA, vmVA, ↓vmQA, vmR, vmRA, ↓vmSA, vmSV, tyS, nuE, SubA.skip, SubA.refl, fr.2, vbDsl, h1', h2']
    exact ⟨_, rfl, fun h => by cases h⟩
  have h2' : ((80 : Int) < (M.length : Int)) = False := eq_false (by omega)
  simp (maxDischargeDepth := 16) only [argE_nil, argE_cons, ↓vmD, vmV, vmStd, Nat.reduceMul, ↓reduceIte, Nat.reduceAdd, Nat.reduceSub, Nat.reduceEqDiff, Nat.reduceLT, Nat.reduceLeDiff, reduceCtorEq, Int.reduceToNat, Int.reduceLT, Int.reduceLE, Int.reduceEq, Int.reduceNeg, Int.reduceBEq, Int.reduceBNe, String.reduceEq, forall_const, ↓vmDA, vmVA, ↓vmQA, vmR, vmRA, ↓vmSA, vmSV, tyS, nuE, SubA.skip, SubA.refl, fr.2, vbDsl, h1', h2']
  obtain ⟨e, l, he, hd, hle⟩ : ∃ (e : Nat) (l : List Rs), e = 0 ∧ l = L.drop e ∧ e ≤ L.length := ⟨0, L, rfl, rfl, by omega⟩
  rw [show (5, some (Value.int .i64 0)) = (5, some (Value.int .i64 (e : Int))) by rw [he]; rfl]
  clear he nuE fr
  induction l generalizing e with
  | nil =>
    obtain ⟨hn1, hn2⟩ := drop_nil hd hle
    have lt : ((e : Int) < (L.length : Int)) = False := eq_false (by omega)
    refine LoopA.intro (by kernel_rfl) ?_
    intro ν fr; have nuE := fr.nu
    simp (maxDischargeDepth := 16) only [argE_nil, argE_cons, ↓vmD, vmV, vmStd, Nat.reduceMul, ↓reduceIte, Nat.reduceAdd, Nat.reduceSub, Nat.reduceEqDiff, Nat.reduceLT, Nat.reduceLeDiff, reduceCtorEq, Int.reduceToNat, Int.reduceLT, Int.reduceLE, Int.reduceEq, Int.reduceNeg, Int.reduceBEq, Int.reduceBNe, String.reduceEq, forall_const, ↓vmDA, vmVA, ↓vmQA, vmR, vmRA, ↓vmSA, vmSV, tyS, nuE, SubA.skip, SubA.refl, fr.2, vbDsl, lt]
    clear hd hle
    obtain ⟨k, l, hk, hd, hle⟩ : ∃ (k : Nat) (l : List DoT), k = 0 ∧ l = M.drop k ∧ k ≤ M.length := ⟨0, M, rfl, rfl, by omega⟩
    rw [show (9, some (Value.int .i64 0)) = (9, some (Value.int .i64 (k : Int))) by rw [hk]; rfl]
    clear hk nuE fr
    induction l generalizing k with
    | nil =>
      obtain ⟨hm1, hm2⟩ := drop_nil hd hle
      have lt : ((k : Int) < (M.length : Int)) = False := eq_false (by omega)
      refine LoopA.intro (by kernel_rfl) ?_
      intro ν fr; have nuE := fr.nu
      simp (maxDischargeDepth := 16) only [argE_nil, argE_cons, ↓vmD, vmV, vmStd, Nat.reduceMul, ↓reduceIte, Nat.reduceAdd, Nat.reduceSub, Nat.reduceEqDiff, Nat.reduceLT, Nat.reduceLeDiff, reduceCtorEq, Int.reduceToNat, Int.reduceLT, Int.reduceLE, Int.reduceEq, Int.reduceNeg, Int.reduceBEq, Int.reduceBNe, String.reduceEq, forall_const, ↓vmDA, vmVA, ↓vmQA, vmR, vmRA, ↓vmSA, vmSV, tyS, nuE, SubA.skip, SubA.refl, fr.2, vbDsl, lt]
      exact ⟨_, rfl, fun _ => by omega⟩
    | cons x l ih =>
      obtain ⟨ha, hlt, hd', htk⟩ := drop_some hd
      have lt : ((k : Int) < (M.length : Int)) = True := eq_true (by omega)
      have we : IntKind.i64.wrap ((k : Int) + 1) = ((k + 1 : Nat) : Int) := by rw [w_i64 (by omega) (by omega)]; omega
      obtain ⟨bk, off, cs, ty, fr0, hp0, hbk, hcr, hcc⟩ := hM.1.at ha
      obtain ⟨_, hI, hil⟩ := hM.2 x (List.mem_of_getElem? ha)
      have li : ((k : Int) < 0) = False := eq_false (by omega)
      simp only [doC] at hcr
      subst hp0
      refine LoopA.intro (by kernel_rfl) ?_
      intro ν fr; have nuE := fr.nu
      simp (maxDischargeDepth := 16) only [argE_nil, argE_cons, ↓vmD, vmV, vmStd, Nat.reduceMul, ↓reduceIte, Nat.reduceAdd, Nat.reduceSub, Nat.reduceEqDiff, Nat.reduceLT, Nat.reduceLeDiff, reduceCtorEq, Int.reduceToNat, Int.reduceLT, Int.reduceLE, Int.reduceEq, Int.reduceNeg, Int.reduceBEq, Int.reduceBNe, String.reduceEq, forall_const, ↓vmDA, vmVA, ↓vmQA, vmR, vmRA, ↓vmSA, vmSV, tyS, nuE, SubA.skip, SubA.refl, fr.2, vbDsl, lt, li, hbk, hcr]
      refine CallA.newX (short_n A x hI hil) (SubA.refl A) ?_
      rintro v B ⟨b, rfl⟩ hdB
      refine ⟨A, hdB.right, ?_⟩
      intro ν fr; have nuE := fr.nu
      cases b with
      | false =>
        simp (maxDischargeDepth := 16) only [argE_nil, argE_cons, ↓vmD, vmV, vmStd, Nat.reduceMul, ↓reduceIte, Nat.reduceAdd, Nat.reduceSub, Nat.reduceEqDiff, Nat.reduceLT, Nat.reduceLeDiff, reduceCtorEq, Int.reduceToNat, Int.reduceLT, Int.reduceLE, Int.reduceEq, Int.reduceNeg, Int.reduceBEq, Int.reduceBNe, String.reduceEq, forall_const, ↓vmDA, vmVA, ↓vmQA, vmR, vmRA, ↓vmSA, vmSV, tyS, nuE, SubA.skip, SubA.refl, fr.2, vbDsl]
        exact ⟨_, rfl, fun h => by cases h⟩
      | true =>
        simp (maxDischargeDepth := 16) only [argE_nil, argE_cons, ↓vmD, vmV, vmStd, Nat.reduceMul, ↓reduceIte, Nat.reduceAdd, Nat.reduceSub, Nat.reduceEqDiff, Nat.reduceLT, Nat.reduceLeDiff, reduceCtorEq, Int.reduceToNat, Int.reduceLT, Int.reduceLE, Int.reduceEq, Int.reduceNeg, Int.reduceBEq, Int.reduceBNe, String.reduceEq, forall_const, ↓vmDA, vmVA, ↓vmQA, vmR, vmRA, ↓vmSA, vmSV, tyS, nuE, SubA.skip, SubA.refl, fr.2, vbDsl, we]
        exact LoopA.weak (ih (k + 1) hd' (by omega)) (by simp only [subE, get_cons, Nat.reduceEqDiff, ↓reduceIte, reduceCtorEq, Nat.reduceAdd, and_self, and_true]) (SubA.refl _)
  | cons x l ih =>
    obtain ⟨ha, hlt, hd', htk⟩ := drop_some hd
    have lt : ((e : Int) < (L.length : Int)) = True := eq_true (by omega)
    have we : IntKind.i64.wrap ((e : Int) + 1) = ((e + 1 : Nat) : Int) := by rw [w_i64 (by omega) (by omega)]; omega
    obtain ⟨bk, off, cs, ty, fr0, hp0, hbk, hcr, hcc⟩ := hL.1.at ha
    have hc0 : cs[off + e * 7]? = some (.string (bs x.d.code)) := hcc 0 _ rfl
    have hc5 : cs[off + e * 7 + 5]? = some (.slice x.p1 x.d.cl.length x.c1) := hcc 5 _ rfl
    have hc6 : cs[off + e * 7 + 6]? = some (.slice x.p2 x.d.df.length x.c2) := hcc 6 _ rfl
    have li : ((e : Int) < 0) = False := eq_false (by omega)
    subst hp0
    refine LoopA.intro (by kernel_rfl) ?_
    intro ν fr; have nuE := fr.nu
    simp (maxDischargeDepth := 16) only [argE_nil, argE_cons, ↓vmD, vmV, vmStd, Nat.reduceMul, ↓reduceIte, Nat.reduceAdd, Nat.reduceSub, Nat.reduceEqDiff, Nat.reduceLT, Nat.reduceLeDiff, reduceCtorEq, Int.reduceToNat, Int.reduceLT, Int.reduceLE, Int.reduceEq, Int.reduceNeg, Int.reduceBEq, Int.reduceBNe, String.reduceEq, forall_const, ↓vmDA, vmVA, ↓vmQA, vmR, vmRA, ↓vmSA, vmSV, tyS, nuE, SubA.skip, SubA.refl, fr.2, vbDsl, lt, li, hbk, hc0, hc5, hc6, bs_size]
    by_cases h20 : 20 < IntKind.i64.wrap ((x.d.cl.length : Int) + (x.d.df.length : Int))
    · rw [if_pos h20]
      exact ⟨_, rfl, fun h => by cases h⟩
    rw [if_neg h20]
    obtain ⟨⟨hT1, _, hT1c⟩, hT2, _, hT2c⟩ := hL.2 x (List.mem_of_getElem? ha)
    generalize ((List.length x.d.code : Nat) : Int) = n
    obtain ⟨k, m, hk, hd2, hle2⟩ : ∃ (k : Nat) (m : List Txt), k = 0 ∧ m = x.d.cl.drop k ∧ k ≤ x.d.cl.length := ⟨0, x.d.cl, rfl, rfl, by omega⟩
    rw [show (7, some (Value.int .i64 0)) = (7, some (Value.int .i64 (k : Int))) by rw [hk]; rfl]
    clear hk nuE fr
    induction m generalizing k n with
    | nil =>
      obtain ⟨hm1, hm2⟩ := drop_nil hd2 hle2
      have lt2 : ((k : Int) < (x.d.cl.length : Int)) = False := eq_false (by omega)
      refine LoopA.intro (by kernel_rfl) ?_
      intro ν fr; have nuE := fr.nu
      simp (maxDischargeDepth := 16) only [argE_nil, argE_cons, ↓vmD, vmV, vmStd, Nat.reduceMul, ↓reduceIte, Nat.reduceAdd, Nat.reduceSub, Nat.reduceEqDiff, Nat.reduceLT, Nat.reduceLeDiff, reduceCtorEq, Int.reduceToNat, Int.reduceLT, Int.reduceLE, Int.reduceEq, Int.reduceNeg, Int.reduceBEq, Int.reduceBNe, String.reduceEq, forall_const, ↓vmDA, vmVA, ↓vmQA, vmR, vmRA, ↓vmSA, vmSV, tyS, nuE, SubA.skip, SubA.refl, fr.2, vbDsl, lt, li, hbk, hc5, hc6, lt2]
      clear hd2 hle2
      obtain ⟨k, m, hk, hd2, hle2⟩ : ∃ (k : Nat) (m : List Txt), k = 0 ∧ m = x.d.df.drop k ∧ k ≤ x.d.df.length := ⟨0, x.d.df, rfl, rfl, by omega⟩
      rw [show (8, some (Value.int .i64 0)) = (8, some (Value.int .i64 (k : Int))) by rw [hk]; rfl]
      clear hk nuE fr
      induction m generalizing k n with
      | nil =>
        obtain ⟨hm1, hm2⟩ := drop_nil hd2 hle2
        have lt2 : ((k : Int) < (x.d.df.length : Int)) = False := eq_false (by omega)
        refine LoopA.intro (by kernel_rfl) ?_
        intro ν fr; have nuE := fr.nu
        by_cases h500 : 500 < n
        · simp (maxDischargeDepth := 16) only [argE_nil, argE_cons, ↓vmD, vmV, vmStd, Nat.reduceMul, ↓reduceIte, Nat.reduceAdd, Nat.reduceSub, Nat.reduceEqDiff, Nat.reduceLT, Nat.reduceLeDiff, reduceCtorEq, Int.reduceToNat, Int.reduceLT, Int.reduceLE, Int.reduceEq, Int.reduceNeg, Int.reduceBEq, Int.reduceBNe, String.reduceEq, forall_const, ↓vmDA, vmVA, ↓vmQA, vmR, vmRA, ↓vmSA, vmSV, tyS, nuE, SubA.skip, SubA.refl, fr.2, vbDsl, lt, li, hbk, hc6, lt2, eq_true h500]
          exact ⟨_, rfl, fun h => by cases h⟩
        · simp (maxDischargeDepth := 16) only [argE_nil, argE_cons, ↓vmD, vmV, vmStd, Nat.reduceMul, ↓reduceIte, Nat.reduceAdd, Nat.reduceSub, Nat.reduceEqDiff, Nat.reduceLT, Nat.reduceLeDiff, reduceCtorEq, Int.reduceToNat, Int.reduceLT, Int.reduceLE, Int.reduceEq, Int.reduceNeg, Int.reduceBEq, Int.reduceBNe, String.reduceEq, forall_const, ↓vmDA, vmVA, ↓vmQA, vmR, vmRA, ↓vmSA, vmSV, tyS, nuE, SubA.skip, SubA.refl, fr.2, vbDsl, lt, li, hbk, hc6, lt2, eq_false h500, we]
          exact LoopA.weak (ih (e + 1) hd' (by omega)) (by simp only [subE, get_cons, Nat.reduceEqDiff, ↓reduceIte, reduceCtorEq, Nat.reduceAdd, and_self, and_true]) (SubA.refl _)
      | cons y m ih2 =>
        obtain ⟨ha2, hlt2, hd2', htk2⟩ := drop_some hd2
        have lt2 : ((k : Int) < (x.d.df.length : Int)) = True := eq_true (by omega)
        have li2 : ((k : Int) < 0) = False := eq_false (by omega)
        have we2 : IntKind.i64.wrap ((k : Int) + 1) = ((k + 1 : Nat) : Int) := by rw [w_i64 (by omega) (by omega)]; omega
        obtain ⟨bk2, off2, cs2, ty2, fr2, hp2, hbk2, hcr2, hcc2⟩ := hT2.at ha2
        rw [hp2] at hc6
        have hcy : cs2[off2 + k * 1]? = some (.string (bs y)) := hcc2 0 _ rfl
        refine LoopA.intro (by kernel_rfl) ?_
        intro ν fr; have nuE := fr.nu
        simp (maxDischargeDepth := 16) only [argE_nil, argE_cons, ↓vmD, vmV, vmStd, Nat.reduceMul, ↓reduceIte, Nat.reduceAdd, Nat.reduceSub, Nat.reduceEqDiff, Nat.reduceLT, Nat.reduceLeDiff, reduceCtorEq, Int.reduceToNat, Int.reduceLT, Int.reduceLE, Int.reduceEq, Int.reduceNeg, Int.reduceBEq, Int.reduceBNe, String.reduceEq, forall_const, ↓vmDA, vmVA, ↓vmQA, vmR, vmRA, ↓vmSA, vmSV, tyS, nuE, SubA.skip, SubA.refl, fr.2, vbDsl, lt, li, hbk, hc6, lt2, li2, hbk2, hcy, bs_size, we2]
        exact LoopA.weak (ih2 (IntKind.i64.wrap (n + ((List.length y : Nat) : Int))) (k + 1) hd2' (by omega)) (by simp only [subE, get_cons, Nat.reduceEqDiff, ↓reduceIte, reduceCtorEq, Nat.reduceAdd, and_self, and_true]) (SubA.refl _)
    | cons y m ih2 =>
      obtain ⟨ha2, hlt2, hd2', htk2⟩ := drop_some hd2
      have lt2 : ((k : Int) < (x.d.cl.length : Int)) = True := eq_true (by omega)
      have li2 : ((k : Int) < 0) = False := eq_false (by omega)
      have we2 : IntKind.i64.wrap ((k : Int) + 1) = ((k + 1 : Nat) : Int) := by rw [w_i64 (by omega) (by omega)]; omega
      obtain ⟨bk2, off2, cs2, ty2, fr2, hp2, hbk2, hcr2, hcc2⟩ := hT1.at ha2
      rw [hp2] at hc5
      have hcy : cs2[off2 + k * 1]? = some (.string (bs y)) := hcc2 0 _ rfl
      refine LoopA.intro (by kernel_rfl) ?_
      intro ν fr; have nuE := fr.nu
      simp (maxDischargeDepth := 16) only [argE_nil, argE_cons, ↓vmD, vmV, vmStd, Nat.reduceMul, ↓reduceIte, Nat.reduceAdd, Nat.reduceSub, Nat.reduceEqDiff, Nat.reduceLT, Nat.reduceLeDiff, reduceCtorEq, Int.reduceToNat, Int.reduceLT, Int.reduceLE, Int.reduceEq, Int.reduceNeg, Int.reduceBEq, Int.reduceBNe, String.reduceEq, forall_const, ↓vmDA, vmVA, ↓vmQA, vmR, vmRA, ↓vmSA, vmSV, tyS, nuE, SubA.skip, SubA.refl, fr.2, vbDsl, lt, li, hbk, hc5, lt2, li2, hbk2, hcy, bs_size, we2]
      exact LoopA.weak (ih2 (IntKind.i64.wrap (n + ((List.length y : Nat) : Int))) (k + 1) hd2' (by omega)) (by simp only [subE, get_cons, Nat.reduceEqDiff, ↓reduceIte, reduceCtorEq, Nat.reduceAdd, and_self, and_true]) (SubA.refl _)

theorem open_use {g : FuncId} {args : Array Value} {A E X : AH} {db : Nat} {R : List Rs} {F : List Fd} {q : Int × List Fd} {K : Value → AH → Prop} (hc : CallA Tryz.prog g args (E ++ X) fun u D => OpenP X db R F u D q) (hs : SubA (E ++ X) A)
    (hk : ∀ E' fv' F', DkP E' db fv' R F' → F'.map Fo.d = q.2 → Dis E' X → K (.int .i64 q.1) (E' ++ X)) : CallA Tryz.prog g args A K :=
  CallA.useX hc hs [] (SubA.nil _) (fun x hx => absurd rfl hx) fun v D ⟨e, E', fv', F', h1, h2, h3, h4⟩ _ => ⟨E' ++ X, h4, by rw [List.append_nil, e]; exact hk E' fv' F' h1 h2 h3⟩
theorem exp_use {g : FuncId} {args : Array Value} {A E X : AH} {db : Nat} {fv : Value} {R : List Rs} {q : List Txt × List Fd} {K : Value → AH → Prop} (hc : CallA Tryz.prog g args (E ++ X) fun u D => ExpP X db fv R u D q) (hs : SubA (E ++ X) A)
    (hk : ∀ u B E' F', OwnL strC 1 9 u B q.1 → DkP E' db fv R F' → F'.map Fo.d = q.2 → Dis E' (B ++ X) → Dis B X → K u (E' ++ (B ++ X))) : CallA Tryz.prog g args A K :=
  CallA.useX hc hs [] (SubA.nil _) (fun x hx => absurd rfl hx) fun v D ⟨B, E', F', h0, h1, h2, h3, h4, h5⟩ _ => ⟨E' ++ (B ++ X), h5, by rw [List.append_nil]; exact hk v B E' F' h0 h1 h2 h3 h4⟩
def doX (R : List Rn) (F : List Fd) (x : DoT) : Int × List Fd := if x.kd % 3 = 0 then openX R F x.id x.r x.code x.am x.dt x.its else stepX R F x.id x.ev x.dt x.its
theorem callP_h (E : AH) (X : AH) (db : Nat) (fv : Value) (R : List Rs) (F : List Fo) (hE : DkP E db fv R F) (hEX : Dis E X) (hF : FdsOk (F.map Fo.d)) (x : DoT) (hk : x.kd ≤ 255) (hL : StR itC 3 X x.ip x.its) : CallA Tryz.prog 13 #[.pointer (some ⟨db, 0, none⟩), .agg #[.int .u8 (x.kd : Int), .string (bs x.id), .string (bs x.code), .int .i64 x.r.kd, .string (bs x.r.id), .string (bs x.r.au), .string (bs x.r.aq), .string (bs x.r.is), .string (bs x.r.me), .string (bs x.r.ca), .int .i64 x.r.am, .string (bs x.r.cu), .int .i64 x.r.da, .int .i64 x.r.ct, .bool x.r.fi, .int .i64 x.am, .int .i64 x.ev, .int .i64 x.dt, .slice x.ip x.its.length x.ic]] (E ++ X) (fun u_ A_ => OpenP X db R (F.map Fo.d) u_ A_ (doX (R.map Rs.d) (F.map Fo.d) x)) := by
  refine callA_of_denA ⟨Tryz.prog, 13, Tryz.f13, 33, [0, 1, 3, 4], [24, 25], [], _⟩ (args := [_, _]) Tryz.func13 rfl (by kernel_rfl) Tryz.ntmps13 (by simp) (by kernel_rfl) ?_
  intro ν fr; have nuE := fr.nu
  have km : ((x.kd : Int)).tmod 3 = ((x.kd % 3 : Nat) : Int) := by rw [Int.tmod_eq_emod_of_nonneg (by omega)]; omega
  have kw : IntKind.u8.wrap (((x.kd % 3 : Nat) : Int)) = ((x.kd % 3 : Nat) : Int) := w_u8 (by omega) (by omega)
  have f0 := fr.2 0
  have hs : ∀ o, SubA (E ++ X) ((ν 0, o) :: (E ++ X)) := fun o => SubA.fresh f0 (SubA.refl _)
  by_cases h3 : x.kd % 3 = 0
  · have h3' : (((x.kd % 3 : Nat) : Int) = 0) = True := eq_true (by omega)
    have hx : doX (R.map Rs.d) (F.map Fo.d) x = openX (R.map Rs.d) (F.map Fo.d) x.id x.r x.code x.am x.dt x.its := if_pos h3
    simp (maxDischargeDepth := 16) only [argE_nil, argE_cons, ↓vmD, vmV, vmStd, Nat.reduceMul, ↓reduceIte, Nat.reduceAdd, Nat.reduceSub, Nat.reduceEqDiff, Nat.reduceLT, Nat.reduceLeDiff, reduceCtorEq, Int.reduceToNat, Int.reduceLT, Int.reduceLE, Int.reduceEq, Int.reduceNeg, Int.reduceBEq, Int.reduceBNe, String.reduceEq, forall_const, ↓vmDA, vmVA, ↓vmQA, vmR, vmRA, ↓vmSA, vmSV, tyS, nuE, SubA.skip, SubA.refl, fr.2, vbDsl, km, kw, h3']
    refine open_use (openP_h E X db fv R F hE hEX hF x.id x.r x.code x.am x.dt x.its x.ip x.ic hL) (hs _) ?_
    intro E' fv' F' g1 g2 g3
    intro ν fr; have nuE := fr.nu
    simp (maxDischargeDepth := 16) only [argE_nil, argE_cons, ↓vmD, vmV, vmStd, Nat.reduceMul, ↓reduceIte, Nat.reduceAdd, Nat.reduceSub, Nat.reduceEqDiff, Nat.reduceLT, Nat.reduceLeDiff, reduceCtorEq, Int.reduceToNat, Int.reduceLT, Int.reduceLE, Int.reduceEq, Int.reduceNeg, Int.reduceBEq, Int.reduceBNe, String.reduceEq, forall_const, ↓vmDA, vmVA, ↓vmQA, vmR, vmRA, ↓vmSA, vmSV, tyS, nuE, SubA.skip, SubA.refl, fr.2, vbDsl]
    exact ⟨by rw [hx], E', fv', F', g1, by rw [hx]; exact g2, g3, SubA.refl _⟩
  · have h3' : (((x.kd % 3 : Nat) : Int) = 0) = False := eq_false (by omega)
    have hx : doX (R.map Rs.d) (F.map Fo.d) x = stepX (R.map Rs.d) (F.map Fo.d) x.id x.ev x.dt x.its := if_neg h3
    simp (maxDischargeDepth := 16) only [argE_nil, argE_cons, ↓vmD, vmV, vmStd, Nat.reduceMul, ↓reduceIte, Nat.reduceAdd, Nat.reduceSub, Nat.reduceEqDiff, Nat.reduceLT, Nat.reduceLeDiff, reduceCtorEq, Int.reduceToNat, Int.reduceLT, Int.reduceLE, Int.reduceEq, Int.reduceNeg, Int.reduceBEq, Int.reduceBNe, String.reduceEq, forall_const, ↓vmDA, vmVA, ↓vmQA, vmR, vmRA, ↓vmSA, vmSV, tyS, nuE, SubA.skip, SubA.refl, fr.2, vbDsl, km, kw, h3']
    refine open_use (stepP_h E X db fv R F hE hEX hF x.id x.ev x.dt x.its x.ip x.ic hL) (hs _) ?_
    intro E' fv' F' g1 g2 g3
    intro ν fr; have nuE := fr.nu
    simp (maxDischargeDepth := 16) only [argE_nil, argE_cons, ↓vmD, vmV, vmStd, Nat.reduceMul, ↓reduceIte, Nat.reduceAdd, Nat.reduceSub, Nat.reduceEqDiff, Nat.reduceLT, Nat.reduceLeDiff, reduceCtorEq, Int.reduceToNat, Int.reduceLT, Int.reduceLE, Int.reduceEq, Int.reduceNeg, Int.reduceBEq, Int.reduceBNe, String.reduceEq, forall_const, ↓vmDA, vmVA, ↓vmQA, vmR, vmRA, ↓vmSA, vmSV, tyS, nuE, SubA.skip, SubA.refl, fr.2, vbDsl]
    exact ⟨by rw [hx], E', fv', F', g1, by rw [hx]; exact g2, g3, SubA.refl _⟩

def fraudT : Txt := [102, 114, 97, 117, 100]
def frRs : Rs := ⟨⟨fraudT, 120, 45, 30, 30, [], []⟩, none, 0, none, 0⟩
theorem fr_chk : chkE [frRs.d] = 0 := by decide +kernel
theorem new_n (A : AH) (L : List Rs) (p : Option Addr) (cap : Nat) (hL : RsR A p L) (hl : L.length ≤ cap ∧ cap ≤ 9223372036854775807) : CallA Tryz.prog 6 #[.slice p L.length cap] A fun u D => ∃ v B, u = v ∧ ((chkE (L.map Rs.d) ≠ 0 ∧ v = .tuple #[.pointer none, .int .i64 (chkE (L.map Rs.d))]) ∨ (chkE (L.map Rs.d) = 0 ∧ ∃ db R, v = .tuple #[.pointer (some ⟨db, 0, none⟩), .int .i64 0] ∧ DkP B db (.slice none 0 0) R [] ∧ R.map Rs.d = L.map Rs.d)) ∧ Dis B A ∧ SubA (B ++ A) D :=
  (newD_h A L p cap hL hl).mono fun u D h => by
    rcases h with ⟨h1, h2, h3⟩ | ⟨h1, db, E, R, h2, h3, h4, h5, h6⟩
    · exact ⟨u, [], rfl, .inl ⟨h1, h2⟩, Dis.nil _, h3⟩
    · exact ⟨u, E, rfl, .inr ⟨h1, db, R, h2, h3, h4⟩, h5, h6⟩
theorem awk46_h : CallA Tryz.prog 5 #[] [] (fun u_ _ => u_ = .bool true) := by
  refine callA_of_denA ⟨Tryz.prog, 5, Tryz.f5, 58, [0, 1, 2, 4, 6, 7, 8], [6, 25], [], _⟩ (args := []) Tryz.func5 rfl (by kernel_rfl) Tryz.ntmps5 (by simp) (by kernel_rfl) ?_
  intro ν fr; have nuE := fr.nu
  have hr : ∀ b, RsR [(b, Obj.cells #[.string ⟨#[102, 114, 97, 117, 100]⟩, .int .i64 120, .int .i64 45, .int .i64 30, .int .i64 30, .slice none 0 0, .slice none 0 0] 58)] (some ⟨b, 0, none⟩) [frRs] := fun b => by
    have o : OwnL rsC 7 58 (.slice (some ⟨b, 0, none⟩) 1 1) [(b, .cells (rsC frRs).toArray 58)] [frRs] := .inl (OwnA.at (n := 1) (by simp [rsC]) (by simp [maxLen]))
    obtain ⟨p, cap, e, _, hs⟩ := o.read rsC_len
    cases e
    refine ⟨hs, fun r hr => ?_⟩
    simp at hr
    subst hr
    exact ⟨TxR.nil, TxR.nil⟩
  simp (maxDischargeDepth := 16) only [argE_nil, argE_cons, ↓vmD, vmV, vmStd, Nat.reduceMul, ↓reduceIte, Nat.reduceAdd, Nat.reduceSub, Nat.reduceEqDiff, Nat.reduceLT, Nat.reduceLeDiff, reduceCtorEq, Int.reduceToNat, Int.reduceLT, Int.reduceLE, Int.reduceEq, Int.reduceNeg, Int.reduceBEq, Int.reduceBNe, String.reduceEq, forall_const, ↓vmDA, vmVA, ↓vmQA, vmR, vmRA, ↓vmSA, vmSV, tyS, nuE, SubA.skip, SubA.refl, fr.2, vbDsl, nextF, turnF, sc_rs]
  refine CallA.newX (new_n _ [frRs] (some ⟨ν 0, 0, none⟩) 1 (hr (ν 0)) (by simp)) (SubA.refl _) ?_
  rintro v B h hd
  rcases h with ⟨h1, _⟩ | ⟨_, db, R, rfl, hB, hR⟩
  · exact absurd fr_chk h1
  refine ⟨B, SubA.left _ _, ?_⟩
  intro ν fr; have nuE := fr.nu
  simp (maxDischargeDepth := 16) only [argE_nil, argE_cons, ↓vmD, vmV, vmStd, Nat.reduceMul, ↓reduceIte, Nat.reduceAdd, Nat.reduceSub, Nat.reduceEqDiff, Nat.reduceLT, Nat.reduceLeDiff, reduceCtorEq, Int.reduceToNat, Int.reduceLT, Int.reduceLE, Int.reduceEq, Int.reduceNeg, Int.reduceBEq, Int.reduceBNe, String.reduceEq, forall_const, ↓vmDA, vmVA, ↓vmQA, vmR, vmRA, ↓vmSA, vmSV, tyS, nuE, SubA.skip, SubA.refl, fr.2, vbDsl, nextF, turnF]
  have hst := stepP_h B [] db (.slice none 0 0) R [] hB (fun x hx => absurd rfl hx) ⟨(fun f hf => by cases hf), by simp, by simp⟩ [97] 1 0 [] none 0 StR.nil
  refine open_use hst (by rw [List.append_nil]; exact SubA.refl _) ?_
  intro E' fv' F' g1 g2 g3
  intro ν fr; have nuE := fr.nu
  have : (stepX (R.map Rs.d) (([] : List Fo).map Fo.d) [97] 1 0 []).1 = 6 := rfl
  simp (maxDischargeDepth := 16) only [argE_nil, argE_cons, ↓vmD, vmV, vmStd, Nat.reduceMul, ↓reduceIte, Nat.reduceAdd, Nat.reduceSub, Nat.reduceEqDiff, Nat.reduceLT, Nat.reduceLeDiff, reduceCtorEq, Int.reduceToNat, Int.reduceLT, Int.reduceLE, Int.reduceEq, Int.reduceNeg, Int.reduceBEq, Int.reduceBNe, String.reduceEq, forall_const, ↓vmDA, vmVA, ↓vmQA, vmR, vmRA, ↓vmSA, vmSV, tyS, nuE, SubA.skip, SubA.refl, fr.2, vbDsl, this]
theorem awk46_v (A_ : AH) : valA Tryz.prog 5 #[] A_ = some (.bool true) := valA_eq (pureA_of (by kernel_rfl) (awk46_h ))
end Go.Proofs.YtkkpmcomloekoaaGreat
