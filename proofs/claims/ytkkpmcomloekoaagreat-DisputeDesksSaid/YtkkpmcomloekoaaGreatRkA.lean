/-
Disputes: the reference's tests, readers, and how its cases move.
Conditions: none.
-/
import Derived.Test.YtkkpmcomloekoaaGreatRfx
import Derived.Test.YtkkpmcomloekoaaGreatDsr
import Derived.Test.YtkkpmcomloekoaaGreatDsd
namespace Go.Proofs.YtkkpmcomloekoaaGreat
open Go.Vm
set_option linter.unusedSimpArgs false
set_option linter.unusedVariables false
set_option maxHeartbeats 2000000
set_option maxRecDepth 20000
theorem vbRkA : type_of% (And.intro @slIndexByte_v (And.intro @indexByte_v (And.intro @indexRune_v (And.intro @containsRune_v (And.intro @classOf_v (And.intro @isWordByte_v (And.intro @letter_v (And.intro @digit_v (And.intro @wordAt_v (And.intro @rword_v (And.intro @isName_v (And.intro @risName_v (And.intro @possible_v (And.intro @days_v (And.intro @due_v (And.intro @rkind_v (And.intro @rdays_v (And.intro @rdaysS_v (And.intro @rdue_v (And.intro @evName_v (And.intro @evCheck_v (And.intro @dNext_v (And.intro @rNext_v (And.intro @dTurn_v (And.intro @recId_v (And.intro @rId13_v (And.intro @rId27_v (And.intro @moneyCur_v (And.intro @rCur01_v (And.intro @inTotal_v (And.intro @rwithin1_v (And.intro @exCard_v (And.intro @recCheck_v (And.intro @dspId_v (@awk46_v))))))))))))))))))))))))))))))))))) := And.intro @slIndexByte_v (And.intro @indexByte_v (And.intro @indexRune_v (And.intro @containsRune_v (And.intro @classOf_v (And.intro @isWordByte_v (And.intro @letter_v (And.intro @digit_v (And.intro @wordAt_v (And.intro @rword_v (And.intro @isName_v (And.intro @risName_v (And.intro @possible_v (And.intro @days_v (And.intro @due_v (And.intro @rkind_v (And.intro @rdays_v (And.intro @rdaysS_v (And.intro @rdue_v (And.intro @evName_v (And.intro @evCheck_v (And.intro @dNext_v (And.intro @rNext_v (And.intro @dTurn_v (And.intro @recId_v (And.intro @rId13_v (And.intro @rId27_v (And.intro @moneyCur_v (And.intro @rCur01_v (And.intro @inTotal_v (And.intro @rwithin1_v (And.intro @exCard_v (And.intro @recCheck_v (And.intro @dspId_v (@awk46_v))))))))))))))))))))))))))))))))))
theorem rdate_h (n : Int) : CallA Tryz.prog 33 #[.int .i64 n] [] (fun u_ _ => u_ = .bool (okDate n)) := by
  refine callA_of_denA ⟨Tryz.prog, 33, Tryz.f33, 9, [0, 2], [], [], _⟩ (args := [_]) Tryz.func33 rfl (by kernel_rfl) Tryz.ntmps33 (by simp) (by kernel_rfl) ?_
  intro ν fr; have nuE := fr.nu
  simp (maxDischargeDepth := 16) only [argE_nil, argE_cons, ↓vmD, vmV, vmStd, Nat.reduceMul, ↓reduceIte, Nat.reduceAdd, Nat.reduceSub, Nat.reduceEqDiff, Nat.reduceLT, Nat.reduceLeDiff, reduceCtorEq, Int.reduceToNat, Int.reduceLT, Int.reduceLE, Int.reduceEq, Int.reduceNeg, Int.reduceBEq, Int.reduceBNe, String.reduceEq, forall_const, ↓vmDA, vmVA, ↓vmQA, vmR, vmRA, ↓vmSA, vmSV, tyS, nuE, SubA.skip, SubA.refl, fr.2, vbRkA]
  unfold okDate
  rfl
theorem rdate_v (n : Int) (A_ : AH) : valA Tryz.prog 33 #[.int .i64 n] A_ = some (.bool (okDate n)) := valA_eq (pureA_of (by kernel_rfl) (rdate_h n))
def dueS (r : Rn) (st date : Int) : Int := if 3 < st then 0 else if (dueF r st date).2 ≠ 0 then 99999 else (dueF r st date).1
theorem rdue46_h (r : Rs) (st date : Int) : CallA Tryz.prog 42 #[.agg #[.string (bs r.d.code), .int .i64 r.d.d1, .int .i64 r.d.d2, .int .i64 r.d.d3, .int .i64 r.d.d4, .slice r.p1 r.d.cl.length r.c1, .slice r.p2 r.d.df.length r.c2], .int .i64 st, .int .i64 date] [] (fun u_ _ => u_ = .int .i64 (dueS r.d st date)) := by
  refine callA_of_denA ⟨Tryz.prog, 42, Tryz.f42, 21, [0, 1, 2, 3, 6, 7, 8], [], [], _⟩ (args := [_, _, _]) Tryz.func42 rfl (by kernel_rfl) Tryz.ntmps42 (by simp) (by kernel_rfl) ?_
  intro ν fr; have nuE := fr.nu
  simp (maxDischargeDepth := 16) only [argE_nil, argE_cons, ↓vmD, vmV, vmStd, Nat.reduceMul, ↓reduceIte, Nat.reduceAdd, Nat.reduceSub, Nat.reduceEqDiff, Nat.reduceLT, Nat.reduceLeDiff, reduceCtorEq, Int.reduceToNat, Int.reduceLT, Int.reduceLE, Int.reduceEq, Int.reduceNeg, Int.reduceBEq, Int.reduceBNe, String.reduceEq, forall_const, ↓vmDA, vmVA, ↓vmQA, vmR, vmRA, ↓vmSA, vmSV, tyS, nuE, SubA.skip, SubA.refl, fr.2, vbRkA, rdate_v]
  unfold dueS
  by_cases h1 : 3 < st
  · simp only [h1, if_true]
  · by_cases h2 : (dueF r.d st date).2 = 0 <;> simp only [h1, h2, if_true, if_false, ne_eq, not_true_eq_false, not_false_eq_true]
theorem rdue46_v (r : Rs) (st date : Int) (A_ : AH) : valA Tryz.prog 42 #[.agg #[.string (bs r.d.code), .int .i64 r.d.d1, .int .i64 r.d.d2, .int .i64 r.d.d3, .int .i64 r.d.d4, .slice r.p1 r.d.cl.length r.c1, .slice r.p2 r.d.df.length r.c2], .int .i64 st, .int .i64 date] A_ = some (.int .i64 (dueS r.d st date)) := valA_eq (pureA_of (by kernel_rfl) (rdue46_h r st date))
theorem revCheck_h (l : Txt) (n h : Int) : CallA Tryz.prog 61 #[.agg #[.string (bs l), .int .i64 n, .int .u64 h]] [] (fun u_ _ => u_ = .int .i64 (if nameF (bs l) = false then 5 else if n < 1 ∨ 1000000 < n then 4 else 0)) := by
  refine callA_of_denA ⟨Tryz.prog, 61, Tryz.f61, 15, [0, 1, 2], [], [], _⟩ (args := [_]) Tryz.func61 rfl (by kernel_rfl) Tryz.ntmps61 (by simp) (by kernel_rfl) ?_
  intro ν fr; have nuE := fr.nu
  simp (maxDischargeDepth := 16) only [argE_nil, argE_cons, ↓vmD, vmV, vmStd, Nat.reduceMul, ↓reduceIte, Nat.reduceAdd, Nat.reduceSub, Nat.reduceEqDiff, Nat.reduceLT, Nat.reduceLeDiff, reduceCtorEq, Int.reduceToNat, Int.reduceLT, Int.reduceLE, Int.reduceEq, Int.reduceNeg, Int.reduceBEq, Int.reduceBNe, String.reduceEq, forall_const, ↓vmDA, vmVA, ↓vmQA, vmR, vmRA, ↓vmSA, vmSV, tyS, nuE, SubA.skip, SubA.refl, fr.2, vbRkA, rdate_v, rdue46_v]
  cases h1 : nameF (bs l) with
  | false => simp only [if_true]
  | true =>
    by_cases h2 : n < 1 <;> by_cases h3 : 1000000 < n <;> simp only [h2, h3, Bool.true_eq_false, if_true, if_false, true_or, or_true, or_self, not_true_eq_false, not_false_eq_true]
theorem revCheck_v (l : Txt) (n h : Int) (A_ : AH) : valA Tryz.prog 61 #[.agg #[.string (bs l), .int .i64 n, .int .u64 h]] A_ = some (.int .i64 (if nameF (bs l) = false then 5 else if n < 1 ∨ 1000000 < n then 4 else 0)) := valA_eq (pureA_of (by kernel_rfl) (revCheck_h l n h))
theorem rproved_h (A : AH) (L : List Itm) (p : Option Addr) (cap : Nat) (hL : StR itC 3 A p L) (T : List Txt) (q : Option Addr) (qcap : Nat) (hT : TxR A q qcap T) : CallA Tryz.prog 40 #[.slice p L.length cap, .slice q T.length qcap] A (fun u_ A_ => u_ = .bool (suffF L T) ∧ SubA A A_) := by
  refine callA_of_denA ⟨Tryz.prog, 40, Tryz.f40, 51, [0, 1, 4, 5, 6, 7, 8], [], [(15, .q false)], _⟩ (args := [_, _]) Tryz.func40 rfl (by kernel_rfl) Tryz.ntmps40 (by simp) (by kernel_rfl) ?_
  intro ν fr; have nuE := fr.nu
  by_cases h16 : 16 < L.length
  · have h16' : ((16 : Int) < (L.length : Int)) = True := eq_true (by omega)
    have hk : suffF L T = false := by simp [suffF]; omega
    simp (maxDischargeDepth := 16) only [argE_nil, argE_cons, ↓vmD, vmV, vmStd, Nat.reduceMul, ↓reduceIte, Nat.reduceAdd, Nat.reduceSub, Nat.reduceEqDiff, Nat.reduceLT, Nat.reduceLeDiff, reduceCtorEq, Int.reduceToNat, Int.reduceLT, Int.reduceLE, Int.reduceEq, Int.reduceNeg, Int.reduceBEq, Int.reduceBNe, String.reduceEq, forall_const, ↓vmDA, vmVA, ↓vmQA, vmR, vmRA, ↓vmSA, vmSV, tyS, nuE, SubA.skip, SubA.refl, fr.2, vbRkA, rdate_v, rdue46_v, revCheck_v, h16', hk]
  have h16' : ((16 : Int) < (L.length : Int)) = False := eq_false (by omega)
  simp (maxDischargeDepth := 16) only [argE_nil, argE_cons, ↓vmD, vmV, vmStd, Nat.reduceMul, ↓reduceIte, Nat.reduceAdd, Nat.reduceSub, Nat.reduceEqDiff, Nat.reduceLT, Nat.reduceLeDiff, reduceCtorEq, Int.reduceToNat, Int.reduceLT, Int.reduceLE, Int.reduceEq, Int.reduceNeg, Int.reduceBEq, Int.reduceBNe, String.reduceEq, forall_const, ↓vmDA, vmVA, ↓vmQA, vmR, vmRA, ↓vmSA, vmSV, tyS, nuE, SubA.skip, SubA.refl, fr.2, vbRkA, rdate_v, rdue46_v, revCheck_v, h16']
  have hcap := hT.2
  obtain ⟨e, l, he, hd, hle, hok⟩ : ∃ (e : Nat) (l : List Itm), e = 0 ∧ l = L.drop e ∧ e ≤ L.length ∧ (L.take e).all (fun x => decide (evF x = 0)) = true := ⟨0, L, rfl, rfl, by omega, rfl⟩
  rw [show (5, some (Value.int .i64 0)) = (5, some (Value.int .i64 (e : Int))) by rw [he]; rfl]
  clear he nuE fr
  induction l generalizing e with
  | nil =>
    obtain ⟨hn1, hn2⟩ := drop_nil hd hle
    have lt : ((e : Int) < (L.length : Int)) = False := eq_false (by omega)
    rw [hn2] at hok
    have hs : suffF L T = T.all fun k => decide (k ∈ L.map Itm.kd) := by simp only [suffF, hok, Bool.true_and]; rw [decide_eq_true (by omega : L.length ≤ 16), Bool.true_and]
    refine LoopA.intro (by kernel_rfl) ?_
    intro ν fr; have nuE := fr.nu
    simp (maxDischargeDepth := 16) only [argE_nil, argE_cons, ↓vmD, vmV, vmStd, Nat.reduceMul, ↓reduceIte, Nat.reduceAdd, Nat.reduceSub, Nat.reduceEqDiff, Nat.reduceLT, Nat.reduceLeDiff, reduceCtorEq, Int.reduceToNat, Int.reduceLT, Int.reduceLE, Int.reduceEq, Int.reduceNeg, Int.reduceBEq, Int.reduceBNe, String.reduceEq, forall_const, ↓vmDA, vmVA, ↓vmQA, vmR, vmRA, ↓vmSA, vmSV, tyS, nuE, SubA.skip, SubA.refl, fr.2, vbRkA, rdate_v, rdue46_v, revCheck_v, lt]
    clear hd hle hok hn2
    obtain ⟨i, l, hi, hd, hle, hno⟩ : ∃ (i : Nat) (l : List Txt), i = 0 ∧ l = T.drop i ∧ i ≤ T.length ∧ (T.take i).all (fun k => decide (k ∈ L.map Itm.kd)) = true := ⟨0, T, rfl, rfl, by omega, rfl⟩
    rw [show (6, some (Value.int .i64 0)) = (6, some (Value.int .i64 (i : Int))) by rw [hi]; rfl]
    clear hi nuE fr
    induction l generalizing i with
    | nil =>
      obtain ⟨hm1, hm2⟩ := drop_nil hd hle
      have lt2 : ((i : Int) < (T.length : Int)) = False := eq_false (by omega)
      rw [hm2] at hno
      refine LoopA.intro (by kernel_rfl) ?_
      intro ν fr; have nuE := fr.nu
      simp (maxDischargeDepth := 16) only [argE_nil, argE_cons, ↓vmD, vmV, vmStd, Nat.reduceMul, ↓reduceIte, Nat.reduceAdd, Nat.reduceSub, Nat.reduceEqDiff, Nat.reduceLT, Nat.reduceLeDiff, reduceCtorEq, Int.reduceToNat, Int.reduceLT, Int.reduceLE, Int.reduceEq, Int.reduceNeg, Int.reduceBEq, Int.reduceBNe, String.reduceEq, forall_const, ↓vmDA, vmVA, ↓vmQA, vmR, vmRA, ↓vmSA, vmSV, tyS, nuE, SubA.skip, SubA.refl, fr.2, vbRkA, rdate_v, rdue46_v, revCheck_v, lt2, hs, hno]
    | cons y l ih2 =>
      obtain ⟨ha, hlt, hd', htk⟩ := drop_some hd
      have lt2 : ((i : Int) < (T.length : Int)) = True := eq_true (by omega)
      have li : ((i : Int) < 0) = False := eq_false (by omega)
      have wi : IntKind.i64.wrap ((i : Int) + 1) = ((i + 1 : Nat) : Int) := by rw [w_i64 (by omega) (by omega)]; omega
      obtain ⟨bk, off, cs, ty, fr0, hp0, hbk, hcr, hcc⟩ := hT.1.at ha
      subst hp0
      have hcy : cs[off + i * 1]? = some (.string (bs y)) := hcc 0 _ rfl
      refine LoopA.intro (by kernel_rfl) ?_
      intro ν fr; have nuE := fr.nu
      simp (maxDischargeDepth := 16) only [argE_nil, argE_cons, ↓vmD, vmV, vmStd, Nat.reduceMul, ↓reduceIte, Nat.reduceAdd, Nat.reduceSub, Nat.reduceEqDiff, Nat.reduceLT, Nat.reduceLeDiff, reduceCtorEq, Int.reduceToNat, Int.reduceLT, Int.reduceLE, Int.reduceEq, Int.reduceNeg, Int.reduceBEq, Int.reduceBNe, String.reduceEq, forall_const, ↓vmDA, vmVA, ↓vmQA, vmR, vmRA, ↓vmSA, vmSV, tyS, nuE, SubA.skip, SubA.refl, fr.2, vbRkA, rdate_v, rdue46_v, revCheck_v, lt2]
      obtain ⟨k, m, has, hk, hha, hdm, hlem, hin⟩ : ∃ (k : Nat) (m : List Itm) (has : Bool), k = 0 ∧ has = false ∧ m = L.drop k ∧ k ≤ L.length ∧ has = decide (y ∈ (L.take k).map Itm.kd) := ⟨0, L, false, rfl, rfl, rfl, by omega, rfl⟩
      rw [show (8, some (Value.int .i64 0)) = (8, some (Value.int .i64 (k : Int))) by rw [hk]; rfl]
      rw [show (7, some (Value.bool false)) = (7, some (Value.bool has)) by rw [hha]]
      clear hk hha nuE fr
      induction m generalizing k has with
      | nil =>
        obtain ⟨hj1, hj2⟩ := drop_nil hdm hlem
        have lt3 : ((k : Int) < (L.length : Int)) = False := eq_false (by omega)
        rw [hj2] at hin
        refine LoopA.intro (by kernel_rfl) ?_
        intro ν fr; have nuE := fr.nu
        cases has with
        | false =>
          have hf : (T.all fun k => decide (k ∈ L.map Itm.kd)) = false := by
            rw [List.all_eq_false]
            exact ⟨y, List.mem_of_getElem? ha, by rw [← hin]; simp⟩
          simp (maxDischargeDepth := 16) only [argE_nil, argE_cons, ↓vmD, vmV, vmStd, Nat.reduceMul, ↓reduceIte, Nat.reduceAdd, Nat.reduceSub, Nat.reduceEqDiff, Nat.reduceLT, Nat.reduceLeDiff, reduceCtorEq, Int.reduceToNat, Int.reduceLT, Int.reduceLE, Int.reduceEq, Int.reduceNeg, Int.reduceBEq, Int.reduceBNe, String.reduceEq, forall_const, ↓vmDA, vmVA, ↓vmQA, vmR, vmRA, ↓vmSA, vmSV, tyS, nuE, SubA.skip, SubA.refl, fr.2, vbRkA, rdate_v, rdue46_v, revCheck_v, lt3, hs, hf]
        | true =>
          simp (maxDischargeDepth := 16) only [argE_nil, argE_cons, ↓vmD, vmV, vmStd, Nat.reduceMul, ↓reduceIte, Nat.reduceAdd, Nat.reduceSub, Nat.reduceEqDiff, Nat.reduceLT, Nat.reduceLeDiff, reduceCtorEq, Int.reduceToNat, Int.reduceLT, Int.reduceLE, Int.reduceEq, Int.reduceNeg, Int.reduceBEq, Int.reduceBNe, String.reduceEq, forall_const, ↓vmDA, vmVA, ↓vmQA, vmR, vmRA, ↓vmSA, vmSV, tyS, nuE, SubA.skip, SubA.refl, fr.2, vbRkA, rdate_v, rdue46_v, revCheck_v, lt3, wi]
          exact LoopA.weak (ih2 (i + 1) hd' (by omega) (by rw [htk, List.all_append, hno, Bool.true_and, List.all_cons, List.all_nil, Bool.and_true, ← hin])) (by simp only [subE, get_cons, Nat.reduceEqDiff, ↓reduceIte, reduceCtorEq, Nat.reduceAdd, and_self, and_true]) (SubA.refl _)
      | cons z m ih3 =>
        obtain ⟨hb, hlb, hdb', hbk'⟩ := drop_some hdm
        have lt3 : ((k : Int) < (L.length : Int)) = True := eq_true (by omega)
        have lk : ((k : Int) < 0) = False := eq_false (by omega)
        have wk : IntKind.i64.wrap ((k : Int) + 1) = ((k + 1 : Nat) : Int) := by rw [w_i64 (by omega) (by omega)]; omega
        obtain ⟨bz, oz, cz, tz, fz, hpz, hbz, hcz, hccz⟩ := hL.at hb
        have hz0 : cz[oz + k * 3]? = some (.string (bs z.kd)) := hccz 0 _ rfl
        have t1 : ((bs z.kd).toList = (bs y).toList) = (z.kd = y) := by rw [bs_list, bs_list]
        have hpz' := hpz
        subst hpz
        refine LoopA.intro (by kernel_rfl) ?_
        intro ν fr; have nuE := fr.nu
        have key : ∀ b : Bool, b = (has || decide (z.kd = y)) → b = decide (y ∈ (L.take (k + 1)).map Itm.kd) := fun b hb => by
          rw [hb, hbk', List.map_append, hin]
          simp [Bool.decide_or, eq_comm]
        cases has with
        | true =>
          simp (maxDischargeDepth := 16) only [argE_nil, argE_cons, ↓vmD, vmV, vmStd, Nat.reduceMul, ↓reduceIte, Nat.reduceAdd, Nat.reduceSub, Nat.reduceEqDiff, Nat.reduceLT, Nat.reduceLeDiff, reduceCtorEq, Int.reduceToNat, Int.reduceLT, Int.reduceLE, Int.reduceEq, Int.reduceNeg, Int.reduceBEq, Int.reduceBNe, String.reduceEq, forall_const, ↓vmDA, vmVA, ↓vmQA, vmR, vmRA, ↓vmSA, vmSV, tyS, nuE, SubA.skip, SubA.refl, fr.2, vbRkA, rdate_v, rdue46_v, revCheck_v, lt3, lk, wk]
          exact LoopA.weak (ih3 (k + 1) true hdb' (by omega) (key true rfl)) (by simp only [subE, get_cons, Nat.reduceEqDiff, ↓reduceIte, reduceCtorEq, Nat.reduceAdd, and_self, and_true]) (SubA.refl _)
        | false =>
          have tb : ((bs z.kd).toList == (bs y).toList) = decide (z.kd = y) := by rw [bs_list, bs_list]; by_cases h : z.kd = y <;> simp [h]
          simp (maxDischargeDepth := 16) only [argE_nil, argE_cons, ↓vmD, vmV, vmStd, Nat.reduceMul, ↓reduceIte, Nat.reduceAdd, Nat.reduceSub, Nat.reduceEqDiff, Nat.reduceLT, Nat.reduceLeDiff, reduceCtorEq, Int.reduceToNat, Int.reduceLT, Int.reduceLE, Int.reduceEq, Int.reduceNeg, Int.reduceBEq, Int.reduceBNe, String.reduceEq, forall_const, ↓vmDA, vmVA, ↓vmQA, vmR, vmRA, ↓vmSA, vmSV, tyS, nuE, SubA.skip, SubA.refl, fr.2, vbRkA, rdate_v, rdue46_v, revCheck_v, lt3, lk, wk, hbz, hz0, t1, lt2, li, hbk, hcy]
          rw [tb]
          exact LoopA.weak (ih3 (k + 1) (decide (z.kd = y)) hdb' (by omega) (key _ (by simp))) (by simp only [subE, get_cons, Nat.reduceEqDiff, ↓reduceIte, reduceCtorEq, Nat.reduceAdd, and_self, and_true]) (SubA.refl _)
  | cons x l ih =>
    obtain ⟨ha, hlt, hd', htk⟩ := drop_some hd
    have lt : ((e : Int) < (L.length : Int)) = True := eq_true (by omega)
    have li : ((e : Int) < 0) = False := eq_false (by omega)
    have we : IntKind.i64.wrap ((e : Int) + 1) = ((e + 1 : Nat) : Int) := by rw [w_i64 (by omega) (by omega)]; omega
    obtain ⟨bk, off, cs, ty, fr0, hp0, hbk, hcr, hcc⟩ := hL.at ha
    subst hp0
    simp only [itC] at hcr
    have hev : evF x = if nameF (bs x.kd) = false then 5 else if x.sz < 1 ∨ 1000000 < x.sz then 4 else 0 := rfl
    refine LoopA.intro (by kernel_rfl) ?_
    intro ν fr; have nuE := fr.nu
    by_cases h0 : evF x = 0
    · simp (maxDischargeDepth := 16) only [argE_nil, argE_cons, ↓vmD, vmV, vmStd, Nat.reduceMul, ↓reduceIte, Nat.reduceAdd, Nat.reduceSub, Nat.reduceEqDiff, Nat.reduceLT, Nat.reduceLeDiff, reduceCtorEq, Int.reduceToNat, Int.reduceLT, Int.reduceLE, Int.reduceEq, Int.reduceNeg, Int.reduceBEq, Int.reduceBNe, String.reduceEq, forall_const, ↓vmDA, vmVA, ↓vmQA, vmR, vmRA, ↓vmSA, vmSV, tyS, nuE, SubA.skip, SubA.refl, fr.2, vbRkA, rdate_v, rdue46_v, revCheck_v, lt, li, hbk, hcr, ← hev, h0, we]
      exact LoopA.weak (ih (e + 1) hd' (by omega) (by rw [htk, List.all_append, hok]; simp [h0])) (by simp only [subE, get_cons, Nat.reduceEqDiff, ↓reduceIte, reduceCtorEq, Nat.reduceAdd, and_self, and_true]) (SubA.refl _)
    · have hs : suffF L T = false := by
        have : L.all (fun x => decide (evF x = 0)) = false := by
          rw [List.all_eq_false]
          exact ⟨x, List.mem_of_getElem? ha, by simp [h0]⟩
        simp [suffF, this]
      simp (maxDischargeDepth := 16) only [argE_nil, argE_cons, ↓vmD, vmV, vmStd, Nat.reduceMul, ↓reduceIte, Nat.reduceAdd, Nat.reduceSub, Nat.reduceEqDiff, Nat.reduceLT, Nat.reduceLeDiff, reduceCtorEq, Int.reduceToNat, Int.reduceLT, Int.reduceLE, Int.reduceEq, Int.reduceNeg, Int.reduceBEq, Int.reduceBNe, String.reduceEq, forall_const, ↓vmDA, vmVA, ↓vmQA, vmR, vmRA, ↓vmSA, vmSV, tyS, nuE, SubA.skip, SubA.refl, fr.2, vbRkA, rdate_v, rdue46_v, revCheck_v, lt, li, hbk, hcr, ← hev, h0, hs]
theorem rproved_w (A : AH) (L : List Itm) (p : Option Addr) (cap : Nat) (hL : StR itC 3 A p L) (T : List Txt) (q : Option Addr) (qcap : Nat) (hT : TxR A q qcap T) (B_ : AH) (hB_ : SubA A B_) : valA Tryz.prog 40 #[.slice p L.length cap, .slice q T.length qcap] B_ = some (.bool (suffF L T)) := valA_eq (pureA_at (by kernel_rfl) (rproved_h A L p cap hL T q qcap hT) hB_)
theorem rproved_v (A : AH) (L : List Itm) (p : Option Addr) (cap : Nat) (hL : StR itC 3 A p L) (T : List Txt) (q : Option Addr) (qcap : Nat) (hT : TxR A q qcap T) : valA Tryz.prog 40 #[.slice p L.length cap, .slice q T.length qcap] A = some (.bool (suffF L T)) := valA_eq (pureA_at (by kernel_rfl) (rproved_h A L p cap hL T q qcap hT) (SubA.refl _))
/-- A desk of the reference. -/
def RkP (E : AH) (db : Nat) (fv : Value) (rp : Option Addr) (rcap : Nat) (R : List Rs) (F : List Fo) : Prop :=
  ∃ (FB HX : AH), E = cat ([(db, (Obj.cells #[.slice rp R.length rcap, fv] 71))] :: FB :: HX :: []) ∧ Sep ([(db, (Obj.cells #[.slice rp R.length rcap, fv] 71))] :: FB :: HX :: []) ∧ OwnL foC 12 78 fv FB F ∧ ∀ f ∈ F, ∃ p cap, f.sv = .slice p f.d.h.length cap ∧ f.d.h.length ≤ cap ∧ cap ≤ 9223372036854775807 ∧ StR intC 1 HX p f.d.h
theorem RkP.out {E : AH} {db : Nat} {fv : Value} {rp : Option Addr} {rcap : Nat} {R : List Rs} {F : List Fo} (h : RkP E db fv rp rcap R F) :
    ∃ fp fcap, fv = .slice fp F.length fcap ∧ F.length ≤ fcap ∧ Vm.look E db = some (Obj.cells #[.slice rp R.length rcap, fv] 71) ∧ StR foC 12 E fp F ∧ (∀ f ∈ F, ∃ p cap, f.sv = .slice p f.d.h.length cap ∧ f.d.h.length ≤ cap ∧ cap ≤ 9223372036854775807 ∧ StR intC 1 E p f.d.h) := by
  obtain ⟨FB, HX, rfl, sp, h4, h5⟩ := h
  obtain ⟨fp, fcap, rfl, hc, hs⟩ := h4.read foC_len
  refine ⟨fp, fcap, rfl, hc, sp.sub [(db, Obj.cells #[.slice rp R.length rcap, .slice fp F.length fcap] 71)] (by simp) _ _ (by simp [Vm.look]), hs.mono (sp.sub _ (by simp)), fun f hf => ?_⟩
  obtain ⟨p, cap, h1, h2, h3, h4⟩ := h5 f hf
  exact ⟨p, cap, h1, h2, h3, h4.mono (sp.sub _ (by simp))⟩
set_option linter.unusedSimpArgs false
set_option linter.unusedVariables false
set_option maxHeartbeats 2000000
set_option maxRecDepth 20000
def posV (o : Option Nat) : Int := match o with | none => -1 | some i => (i : Int)
theorem rfind46_h (E : AH) (db : Nat) (fv : Value) (rp : Option Addr) (rcap : Nat) (R : List Rs) (F : List Fo) (hE : RkP E db fv rp rcap R F) (hF : F.length ≤ 64) (id : Txt) : CallA Tryz.prog 36 #[.pointer (some ⟨db, 0, none⟩), .string (bs id)] E (fun u_ A_ => u_ = .int .i64 (posV (posF id (F.map Fo.d))) ∧ SubA E A_) := by
  refine callA_of_denA ⟨Tryz.prog, 36, Tryz.f36, 31, [0, 1, 4, 5], [], [], _⟩ (args := [_, _]) Tryz.func36 rfl (by kernel_rfl) Tryz.ntmps36 (by simp) (by kernel_rfl) ?_
  intro ν fr; have nuE := fr.nu
  obtain ⟨fp, fcap, rfl, hc, l1, hs, hsv⟩ := hE.out
  simp (maxDischargeDepth := 16) only [argE_nil, argE_cons, ↓vmD, vmV, vmStd, Nat.reduceMul, ↓reduceIte, Nat.reduceAdd, Nat.reduceSub, Nat.reduceEqDiff, Nat.reduceLT, Nat.reduceLeDiff, reduceCtorEq, Int.reduceToNat, Int.reduceLT, Int.reduceLE, Int.reduceEq, Int.reduceNeg, Int.reduceBEq, Int.reduceBNe, String.reduceEq, forall_const, ↓vmDA, vmVA, ↓vmQA, vmR, vmRA, ↓vmSA, vmSV, tyS, nuE, SubA.skip, SubA.refl, fr.2, vbRkA, rdate_v, rdue46_v, revCheck_v, l1]
  obtain ⟨e, l, he, hd, hle, hx⟩ : ∃ (e : Nat) (l : List Fo), e = 0 ∧ l = F.drop e ∧ e ≤ F.length ∧ posF id (F.map Fo.d) = (posF id (l.map Fo.d)).map (· + e) := ⟨0, F, rfl, rfl, by omega, by cases posF id (F.map Fo.d) <;> simp⟩
  rw [show (5, some (Value.int .i64 0)) = (5, some (Value.int .i64 (e : Int))) by rw [he]; rfl]
  clear he nuE fr
  induction l generalizing e with
  | nil =>
    obtain ⟨hn1, hn2⟩ := drop_nil hd hle
    have lt : ((e : Int) < (F.length : Int)) = False := eq_false (by omega)
    refine LoopA.intro (by kernel_rfl) ?_
    intro ν fr; have nuE := fr.nu
    simp (maxDischargeDepth := 16) only [argE_nil, argE_cons, ↓vmD, vmV, vmStd, Nat.reduceMul, ↓reduceIte, Nat.reduceAdd, Nat.reduceSub, Nat.reduceEqDiff, Nat.reduceLT, Nat.reduceLeDiff, reduceCtorEq, Int.reduceToNat, Int.reduceLT, Int.reduceLE, Int.reduceEq, Int.reduceNeg, Int.reduceBEq, Int.reduceBNe, String.reduceEq, forall_const, ↓vmDA, vmVA, ↓vmQA, vmR, vmRA, ↓vmSA, vmSV, tyS, nuE, SubA.skip, SubA.refl, fr.2, vbRkA, rdate_v, rdue46_v, revCheck_v, l1, lt]
    rw [hx]; rfl
  | cons x l ih =>
    obtain ⟨ha, hlt, hd', htk⟩ := drop_some hd
    have lt : ((e : Int) < (F.length : Int)) = True := eq_true (by omega)
    have li : ((e : Int) < 0) = False := eq_false (by omega)
    have we : IntKind.i64.wrap ((e : Int) + 1) = ((e + 1 : Nat) : Int) := by rw [w_i64 (by omega) (by omega)]; omega
    obtain ⟨bk, off, cs, ty, fr0, hp0, hbk, hcr, hcc⟩ := hs.at ha
    have hc0 : cs[off + e * 12]? = some (.string (bs x.d.c.id)) := hcc 0 _ rfl
    subst hp0
    have t1 : ((bs x.d.c.id).toList = (bs id).toList) = (x.d.c.id = id) := by rw [bs_list, bs_list]
    refine LoopA.intro (by kernel_rfl) ?_
    intro ν fr; have nuE := fr.nu
    by_cases h1 : x.d.c.id = id
    · simp (maxDischargeDepth := 16) only [argE_nil, argE_cons, ↓vmD, vmV, vmStd, Nat.reduceMul, ↓reduceIte, Nat.reduceAdd, Nat.reduceSub, Nat.reduceEqDiff, Nat.reduceLT, Nat.reduceLeDiff, reduceCtorEq, Int.reduceToNat, Int.reduceLT, Int.reduceLE, Int.reduceEq, Int.reduceNeg, Int.reduceBEq, Int.reduceBNe, String.reduceEq, forall_const, ↓vmDA, vmVA, ↓vmQA, vmR, vmRA, ↓vmSA, vmSV, tyS, nuE, SubA.skip, SubA.refl, fr.2, vbRkA, rdate_v, rdue46_v, revCheck_v, l1, lt, li, hbk, hc0, t1, eq_true h1]
      rw [hx]
      simp [posF, h1, posV]
    · simp (maxDischargeDepth := 16) only [argE_nil, argE_cons, ↓vmD, vmV, vmStd, Nat.reduceMul, ↓reduceIte, Nat.reduceAdd, Nat.reduceSub, Nat.reduceEqDiff, Nat.reduceLT, Nat.reduceLeDiff, reduceCtorEq, Int.reduceToNat, Int.reduceLT, Int.reduceLE, Int.reduceEq, Int.reduceNeg, Int.reduceBEq, Int.reduceBNe, String.reduceEq, forall_const, ↓vmDA, vmVA, ↓vmQA, vmR, vmRA, ↓vmSA, vmSV, tyS, nuE, SubA.skip, SubA.refl, fr.2, vbRkA, rdate_v, rdue46_v, revCheck_v, l1, lt, li, hbk, hc0, t1, eq_false h1, we]
      exact LoopA.weak (ih (e + 1) hd' (by omega) (by rw [hx]; simp only [List.map_cons, posF, if_neg h1, Option.map_map]; congr 1; funext i; simp only [Function.comp]; omega)) (by simp only [subE, get_cons, Nat.reduceEqDiff, ↓reduceIte, reduceCtorEq, Nat.reduceAdd, and_self, and_true]) (SubA.refl _)
theorem rfind46_w (E : AH) (db : Nat) (fv : Value) (rp : Option Addr) (rcap : Nat) (R : List Rs) (F : List Fo) (hE : RkP E db fv rp rcap R F) (hF : F.length ≤ 64) (id : Txt) (B_ : AH) (hB_ : SubA E B_) : valA Tryz.prog 36 #[.pointer (some ⟨db, 0, none⟩), .string (bs id)] B_ = some (.int .i64 (posV (posF id (F.map Fo.d)))) := valA_eq (pureA_at (by kernel_rfl) (rfind46_h E db fv rp rcap R F hE hF id) hB_)
theorem rfind46_v (E : AH) (db : Nat) (fv : Value) (rp : Option Addr) (rcap : Nat) (R : List Rs) (F : List Fo) (hE : RkP E db fv rp rcap R F) (hF : F.length ≤ 64) (id : Txt) : valA Tryz.prog 36 #[.pointer (some ⟨db, 0, none⟩), .string (bs id)] E = some (.int .i64 (posV (posF id (F.map Fo.d)))) := valA_eq (pureA_at (by kernel_rfl) (rfind46_h E db fv rp rcap R F hE hF id) (SubA.refl _))
theorem pos_facts {id : Txt} {F : List Fo} {i : Nat} (hp : posF id (F.map Fo.d) = some i) : ∃ x, F[i]? = some x ∧ (F.map Fo.d)[i]? = some x.d := by
  obtain ⟨f, hf, _⟩ := posF_some hp
  have hf' := hf
  rw [List.getElem?_map, Option.map_eq_some_iff] at hf
  obtain ⟨x, hx, rfl⟩ := hf
  exact ⟨x, hx, hf'⟩
theorem rgetDk_h (E : AH) (db : Nat) (fv : Value) (rp : Option Addr) (rcap : Nat) (R : List Rs) (F : List Fo) (hE : RkP E db fv rp rcap R F) (hF : F.length ≤ 64) (id : Txt) : CallA Tryz.prog 15 #[.pointer (some ⟨db, 0, none⟩), .string (bs id)] E (fun u_ A_ => u_ = .tuple #[caAgg ((getX id (F.map Fo.d)).getD noCa), .bool (getX id (F.map Fo.d)).isSome] ∧ SubA E A_) := by
  refine callA_of_denA ⟨Tryz.prog, 15, Tryz.f15, 21, [0, 1, 4, 5, 6], [], [], _⟩ (args := [_, _]) Tryz.func15 rfl (by kernel_rfl) Tryz.ntmps15 (by simp) (by kernel_rfl) ?_
  intro ν fr; have nuE := fr.nu
  have fi := fun B hB => rfind46_w E db fv rp rcap R F hE hF id B hB
  obtain ⟨fp, fcap, rfl, hc, l1, hs, hsv⟩ := hE.out
  have f0 := fr.2 0
  have sE : ∀ o, SubA E ((ν 0, o) :: E) := fun o => SubA.fresh f0 (SubA.refl _)
  have fi1 := fun o => fi _ (sE o)
  obtain ⟨n1, n2⟩ := look_ne f0 l1
  cases hp : posF id (F.map Fo.d) with
  | none =>
    have hg : getX id (F.map Fo.d) = none := by unfold getX; rw [hp]
    simp only [hp, posV] at fi1
    rw [hg]
    simp (maxDischargeDepth := 16) only [argE_nil, argE_cons, ↓vmD, vmV, vmStd, Nat.reduceMul, ↓reduceIte, Nat.reduceAdd, Nat.reduceSub, Nat.reduceEqDiff, Nat.reduceLT, Nat.reduceLeDiff, reduceCtorEq, Int.reduceToNat, Int.reduceLT, Int.reduceLE, Int.reduceEq, Int.reduceNeg, Int.reduceBEq, Int.reduceBNe, String.reduceEq, forall_const, ↓vmDA, vmVA, ↓vmQA, vmR, vmRA, ↓vmSA, vmSV, tyS, nuE, SubA.skip, SubA.refl, fr.2, vbRkA, rdate_v, rdue46_v, revCheck_v, l1, n1, n2, fi1, caAgg]
    rfl
  | some i =>
    obtain ⟨x, hx, hxd⟩ := pos_facts hp
    have hg : getX id (F.map Fo.d) = some x.d.c := by unfold getX; rw [hp]; simp only [hxd, Option.map_some]
    simp only [hp, posV] at fi1
    obtain ⟨bk, off, cs, ty, fr0, hp0, hbk, hcr, hcc⟩ := hs.at hx
    have hlt := (List.getElem?_eq_some_iff.1 hx).1
    obtain ⟨k1, k2⟩ := look_ne f0 hbk
    subst hp0
    have h10 := rdCS_sub (k := 0) (n := 10) hcr (by omega)
    simp only [foC, List.drop_zero, List.take_succ_cons, List.take_zero, Nat.add_zero] at h10
    have li : ((i : Int) < 0) = False := eq_false (by omega)
    have li2 : ((i : Int) < (F.length : Int)) = True := eq_true (by omega)
    rw [hg]
    simp (maxDischargeDepth := 16) only [argE_nil, argE_cons, ↓vmD, vmV, vmStd, Nat.reduceMul, ↓reduceIte, Nat.reduceAdd, Nat.reduceSub, Nat.reduceEqDiff, Nat.reduceLT, Nat.reduceLeDiff, reduceCtorEq, Int.reduceToNat, Int.reduceLT, Int.reduceLE, Int.reduceEq, Int.reduceNeg, Int.reduceBEq, Int.reduceBNe, String.reduceEq, forall_const, ↓vmDA, vmVA, ↓vmQA, vmR, vmRA, ↓vmSA, vmSV, tyS, nuE, SubA.skip, SubA.refl, fr.2, vbRkA, rdate_v, rdue46_v, revCheck_v, l1, n1, n2, fi1, caAgg, li, li2, hbk, k1, k2, h10]
    rfl
theorem rgetDk_w (E : AH) (db : Nat) (fv : Value) (rp : Option Addr) (rcap : Nat) (R : List Rs) (F : List Fo) (hE : RkP E db fv rp rcap R F) (hF : F.length ≤ 64) (id : Txt) (B_ : AH) (hB_ : SubA E B_) : valA Tryz.prog 15 #[.pointer (some ⟨db, 0, none⟩), .string (bs id)] B_ = some (.tuple #[caAgg ((getX id (F.map Fo.d)).getD noCa), .bool (getX id (F.map Fo.d)).isSome]) := valA_eq (pureA_at (by kernel_rfl) (rgetDk_h E db fv rp rcap R F hE hF id) hB_)
theorem rgetDk_v (E : AH) (db : Nat) (fv : Value) (rp : Option Addr) (rcap : Nat) (R : List Rs) (F : List Fo) (hE : RkP E db fv rp rcap R F) (hF : F.length ≤ 64) (id : Txt) : valA Tryz.prog 15 #[.pointer (some ⟨db, 0, none⟩), .string (bs id)] E = some (.tuple #[caAgg ((getX id (F.map Fo.d)).getD noCa), .bool (getX id (F.map Fo.d)).isSome]) := valA_eq (pureA_at (by kernel_rfl) (rgetDk_h E db fv rp rcap R F hE hF id) (SubA.refl _))
theorem rhistD_h (E : AH) (db : Nat) (fv : Value) (rp : Option Addr) (rcap : Nat) (R : List Rs) (F : List Fo) (hE : RkP E db fv rp rcap R F) (hF : F.length ≤ 64) (id : Txt) : CallA Tryz.prog 18 #[.pointer (some ⟨db, 0, none⟩), .string (bs id)] E (fun u_ A_ => ∃ p cap, u_ = .slice p (histX id (F.map Fo.d)).length cap ∧ StR intC 1 E p (histX id (F.map Fo.d)) ∧ SubA E A_) := by
  refine callA_of_denA ⟨Tryz.prog, 18, Tryz.f18, 19, [0, 1, 4, 5], [], [], _⟩ (args := [_, _]) Tryz.func18 rfl (by kernel_rfl) Tryz.ntmps18 (by simp) (by kernel_rfl) ?_
  intro ν fr; have nuE := fr.nu
  have fi := rfind46_w E db fv rp rcap R F hE hF id E (SubA.refl E)
  obtain ⟨fp, fcap, rfl, hc, l1, hs, hsv⟩ := hE.out
  cases hp : posF id (F.map Fo.d) with
  | none =>
    have hg : histX id (F.map Fo.d) = [] := by unfold histX; rw [hp]
    simp only [hp, posV] at fi
    rw [hg]
    simp (maxDischargeDepth := 16) only [argE_nil, argE_cons, ↓vmD, vmV, vmStd, Nat.reduceMul, ↓reduceIte, Nat.reduceAdd, Nat.reduceSub, Nat.reduceEqDiff, Nat.reduceLT, Nat.reduceLeDiff, reduceCtorEq, Int.reduceToNat, Int.reduceLT, Int.reduceLE, Int.reduceEq, Int.reduceNeg, Int.reduceBEq, Int.reduceBNe, String.reduceEq, forall_const, ↓vmDA, vmVA, ↓vmQA, vmR, vmRA, ↓vmSA, vmSV, tyS, nuE, SubA.skip, SubA.refl, fr.2, vbRkA, rdate_v, rdue46_v, revCheck_v, l1, fi]
    exact ⟨none, 0, rfl, StR.nil⟩
  | some i =>
    obtain ⟨x, hx, hxd⟩ := pos_facts hp
    have hg : histX id (F.map Fo.d) = x.d.h := by unfold histX; rw [hp]; simp only [hxd]
    simp only [hp, posV] at fi
    obtain ⟨bk, off, cs, ty, fr0, hp0, hbk, hcr, hcc⟩ := hs.at hx
    have hlt := (List.getElem?_eq_some_iff.1 hx).1
    subst hp0
    have hc10 : cs[off + i * 12 + 10]? = some x.sv := hcc 10 _ rfl
    obtain ⟨p, cap, hv, h1, h2, h3⟩ := hsv x (List.mem_of_getElem? hx)
    rw [hv] at hc10
    have li : ((i : Int) < 0) = False := eq_false (by omega)
    have li2 : ((i : Int) < (F.length : Int)) = True := eq_true (by omega)
    rw [hg]
    simp (maxDischargeDepth := 16) only [argE_nil, argE_cons, ↓vmD, vmV, vmStd, Nat.reduceMul, ↓reduceIte, Nat.reduceAdd, Nat.reduceSub, Nat.reduceEqDiff, Nat.reduceLT, Nat.reduceLeDiff, reduceCtorEq, Int.reduceToNat, Int.reduceLT, Int.reduceLE, Int.reduceEq, Int.reduceNeg, Int.reduceBEq, Int.reduceBNe, String.reduceEq, forall_const, ↓vmDA, vmVA, ↓vmQA, vmR, vmRA, ↓vmSA, vmSV, tyS, nuE, SubA.skip, SubA.refl, fr.2, vbRkA, rdate_v, rdue46_v, revCheck_v, l1, fi, li, li2, hbk, hc10]
    exact ⟨p, cap, rfl, h3⟩

theorem rdisp_h (E : AH) (db : Nat) (fv : Value) (rp : Option Addr) (rcap : Nat) (R : List Rs) (F : List Fo) (hE : RkP E db fv rp rcap R F) (hF : FdsOk (F.map Fo.d)) (rcd : Txt) : CallA Tryz.prog 20 #[.pointer (some ⟨db, 0, none⟩), .string (bs rcd)] E (fun u_ A_ => u_ = .int .i64 (dspF rcd (F.map Fo.d)) ∧ SubA E A_) := by
  refine callA_of_denA ⟨Tryz.prog, 20, Tryz.f20, 44, [0, 1, 4, 5, 6, 7], [], [], _⟩ (args := [_, _]) Tryz.func20 rfl (by kernel_rfl) Tryz.ntmps20 (by simp) (by kernel_rfl) ?_
  intro ν fr; have nuE := fr.nu
  obtain ⟨fp, fcap, rfl, hc, l1, hs, hsv⟩ := hE.out
  have hlen := hF.2.1
  rw [List.length_map] at hlen
  simp (maxDischargeDepth := 16) only [argE_nil, argE_cons, ↓vmD, vmV, vmStd, Nat.reduceMul, ↓reduceIte, Nat.reduceAdd, Nat.reduceSub, Nat.reduceEqDiff, Nat.reduceLT, Nat.reduceLeDiff, reduceCtorEq, Int.reduceToNat, Int.reduceLT, Int.reduceLE, Int.reduceEq, Int.reduceNeg, Int.reduceBEq, Int.reduceBNe, String.reduceEq, forall_const, ↓vmDA, vmVA, ↓vmQA, vmR, vmRA, ↓vmSA, vmSV, tyS, nuE, SubA.skip, SubA.refl, fr.2, vbRkA, rdate_v, rdue46_v, revCheck_v, l1]
  obtain ⟨e, l, s, he, hse, hd, hle, hx⟩ : ∃ (e : Nat) (l : List Fo) (s : Int), e = 0 ∧ s = 0 ∧ l = F.drop e ∧ e ≤ F.length ∧ s = dspF rcd ((F.take e).map Fo.d) := ⟨0, F, 0, rfl, rfl, rfl, by omega, rfl⟩
  rw [show (6, some (Value.int .i64 0)) = (6, some (Value.int .i64 (e : Int))) by rw [he]; rfl]
  rw [show (5, some (Value.int .i64 0)) = (5, some (Value.int .i64 s)) by rw [hse]]
  clear he hse nuE fr
  induction l generalizing e s with
  | nil =>
    obtain ⟨hn1, hn2⟩ := drop_nil hd hle
    have lt : ((e : Int) < (F.length : Int)) = False := eq_false (by omega)
    rw [hn2] at hx
    refine LoopA.intro (by kernel_rfl) ?_
    intro ν fr; have nuE := fr.nu
    simp (maxDischargeDepth := 16) only [argE_nil, argE_cons, ↓vmD, vmV, vmStd, Nat.reduceMul, ↓reduceIte, Nat.reduceAdd, Nat.reduceSub, Nat.reduceEqDiff, Nat.reduceLT, Nat.reduceLeDiff, reduceCtorEq, Int.reduceToNat, Int.reduceLT, Int.reduceLE, Int.reduceEq, Int.reduceNeg, Int.reduceBEq, Int.reduceBNe, String.reduceEq, forall_const, ↓vmDA, vmVA, ↓vmQA, vmR, vmRA, ↓vmSA, vmSV, tyS, nuE, SubA.skip, SubA.refl, fr.2, vbRkA, rdate_v, rdue46_v, revCheck_v, l1, lt]
    rw [hx]
  | cons x l ih =>
    obtain ⟨ha, hlt, hd', htk⟩ := drop_some hd
    have lt : ((e : Int) < (F.length : Int)) = True := eq_true (by omega)
    have li : ((e : Int) < 0) = False := eq_false (by omega)
    have we : IntKind.i64.wrap ((e : Int) + 1) = ((e + 1 : Nat) : Int) := by rw [w_i64 (by omega) (by omega)]; omega
    obtain ⟨bk, off, cs, ty, fr0, hp0, hbk, hcr, hcc⟩ := hs.at ha
    subst hp0
    have h10 := rdCS_sub (k := 0) (n := 10) hcr (by omega)
    simp only [foC, List.drop_zero, List.take_succ_cons, List.take_zero, Nat.add_zero] at h10
    have t1 : ((bs x.d.c.rcd).toList = (bs rcd).toList) = (x.d.c.rcd = rcd) := by rw [bs_list, bs_list]
    have ok := hF.1
    have okt : ∀ f ∈ (F.take e).map Fo.d, FdOk f := fun f hf => ok f (by obtain ⟨y, hy, rfl⟩ := List.mem_map.1 hf; exact List.mem_map_of_mem (List.mem_of_mem_take hy))
    have okx := ok x.d (List.mem_map_of_mem (List.mem_of_getElem? ha))
    have b1 := dspF_le rcd _ okt
    rw [← hx] at b1
    rw [List.length_map, List.length_take] at b1
    obtain ⟨_, _, _, a1, a2⟩ := okx
    have ws : IntKind.i64.wrap (s + x.d.c.amt) = s + x.d.c.amt := w_i64 (by omega) (by omega)
    have hx' : dspF rcd ((F.take (e + 1)).map Fo.d) = s + (if x.d.c.rcd = rcd ∧ x.d.c.st ≠ 6 then x.d.c.amt else 0) := by
      rw [htk, List.map_append, dsp_app, ← hx]; rw [dsp_at]; rfl
    refine LoopA.intro (by kernel_rfl) ?_
    intro ν fr; have nuE := fr.nu
    by_cases h1 : x.d.c.rcd = rcd
    · have h1' := eq_true h1
      by_cases h2 : x.d.c.st = 6
      · have h2' := eq_true h2
        rw [if_neg (by simp [h2]), Int.add_zero] at hx'
        simp (maxDischargeDepth := 16) only [argE_nil, argE_cons, ↓vmD, vmV, vmStd, Nat.reduceMul, ↓reduceIte, Nat.reduceAdd, Nat.reduceSub, Nat.reduceEqDiff, Nat.reduceLT, Nat.reduceLeDiff, reduceCtorEq, Int.reduceToNat, Int.reduceLT, Int.reduceLE, Int.reduceEq, Int.reduceNeg, Int.reduceBEq, Int.reduceBNe, String.reduceEq, forall_const, ↓vmDA, vmVA, ↓vmQA, vmR, vmRA, ↓vmSA, vmSV, tyS, nuE, SubA.skip, SubA.refl, fr.2, vbRkA, rdate_v, rdue46_v, revCheck_v, l1, lt, li, hbk, h10, t1, h1', h2', we]
        refine LoopA.at (SubA.skip (fr.2 0) (SubA.refl _)) ?_
        exact LoopA.weak (ih (e + 1) s hd' (by omega) hx'.symm) (by simp only [subE, get_cons, Nat.reduceEqDiff, ↓reduceIte, reduceCtorEq, Nat.reduceAdd, and_self, and_true]) (SubA.refl _)
      · have h2' := eq_false h2
        rw [if_pos ⟨h1, h2⟩] at hx'
        simp (maxDischargeDepth := 16) only [argE_nil, argE_cons, ↓vmD, vmV, vmStd, Nat.reduceMul, ↓reduceIte, Nat.reduceAdd, Nat.reduceSub, Nat.reduceEqDiff, Nat.reduceLT, Nat.reduceLeDiff, reduceCtorEq, Int.reduceToNat, Int.reduceLT, Int.reduceLE, Int.reduceEq, Int.reduceNeg, Int.reduceBEq, Int.reduceBNe, String.reduceEq, forall_const, ↓vmDA, vmVA, ↓vmQA, vmR, vmRA, ↓vmSA, vmSV, tyS, nuE, SubA.skip, SubA.refl, fr.2, vbRkA, rdate_v, rdue46_v, revCheck_v, l1, lt, li, hbk, h10, t1, h1', h2', we, ws]
        refine LoopA.at (SubA.skip (fr.2 0) (SubA.refl _)) ?_
        exact LoopA.weak (ih (e + 1) _ hd' (by omega) hx'.symm) (by simp only [subE, get_cons, Nat.reduceEqDiff, ↓reduceIte, reduceCtorEq, Nat.reduceAdd, and_self, and_true]) (SubA.refl _)
    · have h1' := eq_false h1
      rw [if_neg (fun h => h1 h.1), Int.add_zero] at hx'
      simp (maxDischargeDepth := 16) only [argE_nil, argE_cons, ↓vmD, vmV, vmStd, Nat.reduceMul, ↓reduceIte, Nat.reduceAdd, Nat.reduceSub, Nat.reduceEqDiff, Nat.reduceLT, Nat.reduceLeDiff, reduceCtorEq, Int.reduceToNat, Int.reduceLT, Int.reduceLE, Int.reduceEq, Int.reduceNeg, Int.reduceBEq, Int.reduceBNe, String.reduceEq, forall_const, ↓vmDA, vmVA, ↓vmQA, vmR, vmRA, ↓vmSA, vmSV, tyS, nuE, SubA.skip, SubA.refl, fr.2, vbRkA, rdate_v, rdue46_v, revCheck_v, l1, lt, li, hbk, h10, t1, h1', we]
      refine LoopA.at (SubA.skip (fr.2 0) (SubA.refl _)) ?_
      exact LoopA.weak (ih (e + 1) s hd' (by omega) hx'.symm) (by simp only [subE, get_cons, Nat.reduceEqDiff, ↓reduceIte, reduceCtorEq, Nat.reduceAdd, and_self, and_true]) (SubA.refl _)
theorem rdisp_w (E : AH) (db : Nat) (fv : Value) (rp : Option Addr) (rcap : Nat) (R : List Rs) (F : List Fo) (hE : RkP E db fv rp rcap R F) (hF : FdsOk (F.map Fo.d)) (rcd : Txt) (B_ : AH) (hB_ : SubA E B_) : valA Tryz.prog 20 #[.pointer (some ⟨db, 0, none⟩), .string (bs rcd)] B_ = some (.int .i64 (dspF rcd (F.map Fo.d))) := valA_eq (pureA_at (by kernel_rfl) (rdisp_h E db fv rp rcap R F hE hF rcd) hB_)
theorem rdisp_v (E : AH) (db : Nat) (fv : Value) (rp : Option Addr) (rcap : Nat) (R : List Rs) (F : List Fo) (hE : RkP E db fv rp rcap R F) (hF : FdsOk (F.map Fo.d)) (rcd : Txt) : valA Tryz.prog 20 #[.pointer (some ⟨db, 0, none⟩), .string (bs rcd)] E = some (.int .i64 (dspF rcd (F.map Fo.d))) := valA_eq (pureA_at (by kernel_rfl) (rdisp_h E db fv rp rcap R F hE hF rcd) (SubA.refl _))
theorem rcasesD_h (E : AH) (db : Nat) (fv : Value) (rp : Option Addr) (rcap : Nat) (R : List Rs) (F : List Fo) (hE : RkP E db fv rp rcap R F) (hF : F.length ≤ 64) : CallA Tryz.prog 23 #[.pointer (some ⟨db, 0, none⟩)] E (fun u_ A_ => ∃ v B, u_ = v ∧ OwnL caC 10 47 v B (F.map fun f => f.d.c) ∧ Dis B E ∧ SubA (B ++ E) A_) := by
  refine callA_of_denA ⟨Tryz.prog, 23, Tryz.f23, 30, [0, 2, 3, 4], [], [], _⟩ (args := [_]) Tryz.func23 rfl (by kernel_rfl) Tryz.ntmps23 (by simp) (by kernel_rfl) ?_
  intro ν fr; have nuE := fr.nu
  obtain ⟨fp, fcap, rfl, hc, l1, hs, hsv⟩ := hE.out
  simp (maxDischargeDepth := 16) only [argE_nil, argE_cons, ↓vmD, vmV, vmStd, Nat.reduceMul, ↓reduceIte, Nat.reduceAdd, Nat.reduceSub, Nat.reduceEqDiff, Nat.reduceLT, Nat.reduceLeDiff, reduceCtorEq, Int.reduceToNat, Int.reduceLT, Int.reduceLE, Int.reduceEq, Int.reduceNeg, Int.reduceBEq, Int.reduceBNe, String.reduceEq, forall_const, ↓vmDA, vmVA, ↓vmQA, vmR, vmRA, ↓vmSA, vmSV, tyS, nuE, SubA.skip, SubA.refl, fr.2, vbRkA, rdate_v, rdue46_v, revCheck_v, l1]
  obtain ⟨e, l, v, B, he, hv, hB, hd, hle, ho, d⟩ : ∃ (e : Nat) (l : List Fo) (v : Value) (B : AH), e = 0 ∧ v = .slice none 0 0 ∧ B = [] ∧ l = F.drop e ∧ e ≤ F.length ∧ OwnL caC 10 47 v B ((F.take e).map fun f => f.d.c) ∧ Dis B E :=
    ⟨0, F, _, [], rfl, rfl, rfl, rfl, by simp, OwnL.nil _ _ _, Dis.nil _⟩
  rw [show (4, some (Value.int .i64 0)) = (4, some (Value.int .i64 (e : Int))) by rw [he]; rfl]
  rw [show (3, some (Value.slice none 0 0)) = (3, some v) by rw [hv]]
  refine LoopA.at (A := B ++ E) (by subst hB; exact SubA.refl _) ?_
  clear he hv hB nuE fr
  induction l generalizing e v B with
  | nil =>
    obtain ⟨hn1, hn2⟩ := drop_nil hd hle
    have lt : ((e : Int) < (F.length : Int)) = False := eq_false (by omega)
    rw [hn2] at ho
    have l1' := d.right _ _ l1
    refine LoopA.intro (by kernel_rfl) ?_
    intro ν fr; have nuE := fr.nu
    simp (maxDischargeDepth := 16) only [argE_nil, argE_cons, ↓vmD, vmV, vmStd, Nat.reduceMul, ↓reduceIte, Nat.reduceAdd, Nat.reduceSub, Nat.reduceEqDiff, Nat.reduceLT, Nat.reduceLeDiff, reduceCtorEq, Int.reduceToNat, Int.reduceLT, Int.reduceLE, Int.reduceEq, Int.reduceNeg, Int.reduceBEq, Int.reduceBNe, String.reduceEq, forall_const, ↓vmDA, vmVA, ↓vmQA, vmR, vmRA, ↓vmSA, vmSV, tyS, nuE, SubA.skip, SubA.refl, fr.2, vbRkA, rdate_v, rdue46_v, revCheck_v, l1', lt]
    exact ⟨_, B, rfl, ho, d, SubA.refl _⟩
  | cons x l ih =>
    obtain ⟨ha, hlt, hd', htk⟩ := drop_some hd
    have lt : ((e : Int) < (F.length : Int)) = True := eq_true (by omega)
    have li : ((e : Int) < 0) = False := eq_false (by omega)
    have we : IntKind.i64.wrap ((e : Int) + 1) = ((e + 1 : Nat) : Int) := by rw [w_i64 (by omega) (by omega)]; omega
    obtain ⟨bk, off, cs, ty, fr0, hp0, hbk, hcr, hcc⟩ := hs.at ha
    subst hp0
    have lbk := d.right _ _ hbk
    have l1' := d.right _ _ l1
    have h10 := rdCS_sub (k := 0) (n := 10) hcr (by omega)
    simp only [foC, List.drop_zero, List.take_succ_cons, List.take_zero, Nat.add_zero] at h10
    have hl : ((F.take e).map fun f => f.d.c).length = e := by rw [List.length_map, List.length_take]; omega
    obtain ⟨q2, vcap, rfl, hvc, hvs⟩ := ho.read caC_len
    rw [hl]
    refine LoopA.intro (by kernel_rfl) ?_
    intro ν fr; have nuE := fr.nu
    have f0 := fr.2 0
    have f1 := fr.2 1
    simp (maxDischargeDepth := 16) only [argE_nil, argE_cons, ↓vmD, vmV, vmStd, Nat.reduceMul, ↓reduceIte, Nat.reduceAdd, Nat.reduceSub, Nat.reduceEqDiff, Nat.reduceLT, Nat.reduceLeDiff, reduceCtorEq, Int.reduceToNat, Int.reduceLT, Int.reduceLE, Int.reduceEq, Int.reduceNeg, Int.reduceBEq, Int.reduceBNe, String.reduceEq, forall_const, ↓vmDA, vmVA, ↓vmQA, vmR, vmRA, ↓vmSA, vmSV, tyS, nuE, SubA.skip, SubA.refl, fr.2, vbRkA, rdate_v, rdue46_v, revCheck_v, l1', lt, li, lbk, h10, we, sc_ca]
    have hE1 : ∀ o1, SubA E ((ν 0, o1) :: (B ++ E)) := fun o1 => SubA.skip (d.right.none f0) d.right
    have hB1 : ∀ o1, SubA B ((ν 0, o1) :: (B ++ E)) := fun o1 => SubA.skip ((SubA.left B E).none f0) (SubA.left B E)
    refine RunA.use ?_
    refine append_src (m := 1) (news := caC x.d.c) (B := B) slc55 zro47 rfl (by decide) (by rw [← hl]; exact ho) (hB1 _) (.inr ⟨ν 0, 0, rfl, by simp (maxDischargeDepth := 16) only [argE_nil, argE_cons, ↓vmD, vmV, vmStd, Nat.reduceMul, ↓reduceIte, Nat.reduceAdd, Nat.reduceSub, Nat.reduceEqDiff, Nat.reduceLT, Nat.reduceLeDiff, reduceCtorEq, Int.reduceToNat, Int.reduceLT, Int.reduceLE, Int.reduceEq, Int.reduceNeg, Int.reduceBEq, Int.reduceBNe, String.reduceEq, forall_const, ↓vmDA, vmVA, ↓vmQA, vmR, vmRA, ↓vmSA, vmSV, tyS, nuE, SubA.skip, SubA.refl, fr.2, vbRkA, rdate_v, rdue46_v, revCheck_v, caC]⟩) (by simp [caC, Value.oneCell']) (by simp only [maxLen]; omega) (by omega) ?_
    intro v' B' ho' hb'
    rw [hl] at ho'
    refine ⟨B' ++ E, SubA.app (hE1 _), ?_⟩
    intro ν3 fr3
    have fr := fr3
    have nuE := fr.nu
    simp (maxDischargeDepth := 16) only [argE_nil, argE_cons, ↓vmD, vmV, vmStd, Nat.reduceMul, ↓reduceIte, Nat.reduceAdd, Nat.reduceSub, Nat.reduceEqDiff, Nat.reduceLT, Nat.reduceLeDiff, reduceCtorEq, Int.reduceToNat, Int.reduceLT, Int.reduceLE, Int.reduceEq, Int.reduceNeg, Int.reduceBEq, Int.reduceBNe, String.reduceEq, forall_const, ↓vmDA, vmVA, ↓vmQA, vmR, vmRA, ↓vmSA, vmSV, tyS, nuE, SubA.skip, SubA.refl, fr.2, vbRkA, rdate_v, rdue46_v, revCheck_v, we]
    exact LoopA.weak (ih (e + 1) v' B' hd' (by omega) (by rw [htk, List.map_append]; unfold OwnL; rw [List.length_append, List.flatMap_append, hl]; simpa only [List.map_cons, List.map_nil, List.length_cons, List.length_nil, List.flatMap_cons, List.flatMap_nil, List.append_nil, Nat.zero_add] using ho') (ap_dis hb' d (hE1 _))) (by simp only [subE, get_cons, Nat.reduceEqDiff, ↓reduceIte, reduceCtorEq, Nat.reduceAdd, and_self, and_true]) (SubA.refl _)

set_option linter.unusedSimpArgs false
set_option linter.unusedVariables false
set_option maxHeartbeats 2000000
set_option maxRecDepth 20000
theorem rnewD_h (A : AH) (L : List Rs) (p : Option Addr) (cap : Nat) (hL : RsR A p L) (hl : L.length ≤ cap ∧ cap ≤ 9223372036854775807) : CallA Tryz.prog 7 #[.slice p L.length cap] A (fun u_ A_ => (chkE (L.map Rs.d) ≠ 0 ∧ u_ = .tuple #[.pointer none, .int .i64 (chkE (L.map Rs.d))] ∧ SubA A A_) ∨ (chkE (L.map Rs.d) = 0 ∧ ∃ db E, u_ = .tuple #[.pointer (some ⟨db, 0, none⟩), .int .i64 0] ∧ RkP E db (.slice none 0 0) p cap L [] ∧ Dis E A ∧ SubA (E ++ A) A_)) := by
  refine callA_of_denA ⟨Tryz.prog, 7, Tryz.f7, 13, [0, 2, 3, 4], [], [], _⟩ (args := [_]) Tryz.func7 rfl (by kernel_rfl) Tryz.ntmps7 (by simp) (by kernel_rfl) ?_
  intro ν fr; have nuE := fr.nu
  have cv := rchk_w A L p cap hL hl A (SubA.refl A)
  by_cases h : chkE (L.map Rs.d) = 0
  · rw [h] at cv
    simp (maxDischargeDepth := 16) only [argE_nil, argE_cons, ↓vmD, vmV, vmStd, Nat.reduceMul, ↓reduceIte, Nat.reduceAdd, Nat.reduceSub, Nat.reduceEqDiff, Nat.reduceLT, Nat.reduceLeDiff, reduceCtorEq, Int.reduceToNat, Int.reduceLT, Int.reduceLE, Int.reduceEq, Int.reduceNeg, Int.reduceBEq, Int.reduceBNe, String.reduceEq, forall_const, ↓vmDA, vmVA, ↓vmQA, vmR, vmRA, ↓vmSA, vmSV, tyS, nuE, SubA.skip, SubA.refl, fr.2, vbRkA, rdate_v, rdue46_v, revCheck_v, cv]
    have f0 := fr.2 0
    refine .inr ⟨h, ν 0, [(ν 0, Obj.cells #[.slice p L.length cap, .slice none 0 0] 71)], rfl, ⟨[], [], rfl, Sep.fresh rfl _ (Sep.cons (Dis.nil _) (Sep.one _)), OwnL.nil _ _ _, fun f hf => by cases hf⟩, Dis.one f0, SubA.refl _⟩
  · simp (maxDischargeDepth := 16) only [argE_nil, argE_cons, ↓vmD, vmV, vmStd, Nat.reduceMul, ↓reduceIte, Nat.reduceAdd, Nat.reduceSub, Nat.reduceEqDiff, Nat.reduceLT, Nat.reduceLeDiff, reduceCtorEq, Int.reduceToNat, Int.reduceLT, Int.reduceLE, Int.reduceEq, Int.reduceNeg, Int.reduceBEq, Int.reduceBNe, String.reduceEq, forall_const, ↓vmDA, vmVA, ↓vmQA, vmR, vmRA, ↓vmSA, vmSV, tyS, nuE, SubA.skip, SubA.refl, fr.2, vbRkA, rdate_v, rdue46_v, revCheck_v, cv, h]

theorem due_eq (r : Rn) (st date : Int) (h : 1 ≤ st ∧ st ≤ 6) {R : List Rn} {code : Txt} (hr : r = (findR code R).getD noRn) : dueS r st date = dueX R code st date := by
  subst hr
  unfold dueS dueX
  by_cases q : 3 < st
  · rw [if_pos q, if_pos (by omega)]
  · have h2 : ¬ (st ≠ 1 ∧ st ≠ 2 ∧ st ≠ 3) := by omega
    rw [if_neg q, if_neg h2]
theorem rmove_h (E : AH) (X : AH) (db : Nat) (fv : Value) (rp : Option Addr) (rcap : Nat) (R : List Rs) (F : List Fo) (hE : RkP E db fv rp rcap R F) (hEX : Dis E X) (hR : RsR X rp R) (hRl : R.length ≤ 32) (i : Nat) (f : Fo) (hi : F[i]? = some f) (hh6 : f.d.h.length ≤ 6) (ev date : Int) (hn : (nextF f.d.c.st ev).2 = 0) : CallA Tryz.prog 34 #[.pointer (some ⟨db, 0, none⟩), .int .i64 (i : Int), .int .i64 ev, .int .i64 date] (E ++ X) (fun u_ A_ => u_ = .tuple #[] ∧ ∃ E' F', RkP E' db fv rp rcap R F' ∧ F'.map Fo.d = (F.map Fo.d).set i (enterX (R.map Rs.d) f.d (nextF f.d.c.st ev).1 date) ∧ Dis E' X ∧ SubA (E' ++ X) A_) := by
  refine callA_of_denA ⟨Tryz.prog, 34, Tryz.f34, 65, [0, 1, 2, 3, 8, 9, 11], [], [(2, .p [(0, 0), (1, 0), (2, 0), (3, 0), (4, 0), (5, 0), (6, 0), (7, 0), (8, 0), (9, 0), (10, 0), (11, 1), (12, 2), (13, 0)]), (7, .p [(0, 0), (1, 0), (2, 0), (3, 0), (4, 0), (5, 0), (6, 0), (7, 2)])], _⟩ (args := [_, _, _, _]) Tryz.func34 rfl (by kernel_rfl) Tryz.ntmps34 (by simp) (by kernel_rfl) ?_
  intro ν fr; have nuE := fr.nu
  obtain ⟨fp, fcap, rfl, hc, l1, hs, hsv⟩ := hE.out
  have sE := SubA.left E X
  have l1' := sE _ _ l1
  have hlt := (List.getElem?_eq_some_iff.1 hi).1
  have li : ((i : Int) < 0) = False := eq_false (by omega)
  have li2 : ((i : Int) < (F.length : Int)) = True := eq_true (by omega)
  obtain ⟨bk, off, cs, ty, fr0, hp0, hbk, hcr, hcc⟩ := hs.at hi
  obtain ⟨sp, scap, hsv1, hsv2, hsv3, hsv4⟩ := hsv f (List.mem_of_getElem? hi)
  simp only [foC, hsv1] at hcr
  have hbk' := sE _ _ hbk
  subst hp0
  have f0 := fr.2 0
  obtain ⟨n1, n2⟩ := look_ne f0 l1'
  obtain ⟨m1, m2⟩ := look_ne f0 hbk'
  have sX : ∀ o, SubA X ((ν 0, o) :: (E ++ X)) := fun o => SubA.skip (hEX.right.none f0) hEX.right
  have fi := fun o => rfind_w X R rp rcap f.d.c.rea hR (by omega) _ (sX o)
  generalize hy : (findS f.d.c.rea R).getD noRs = y at fi
  generalize hyb : (findS f.d.c.rea R).isSome = yb at fi
  simp (maxDischargeDepth := 16) only [argE_nil, argE_cons, ↓vmD, vmV, vmStd, Nat.reduceMul, ↓reduceIte, Nat.reduceAdd, Nat.reduceSub, Nat.reduceEqDiff, Nat.reduceLT, Nat.reduceLeDiff, reduceCtorEq, Int.reduceToNat, Int.reduceLT, Int.reduceLE, Int.reduceEq, Int.reduceNeg, Int.reduceBEq, Int.reduceBNe, String.reduceEq, forall_const, ↓vmDA, vmVA, ↓vmQA, vmR, vmRA, ↓vmSA, vmSV, tyS, nuE, SubA.skip, SubA.refl, fr.2, vbRkA, rdate_v, rdue46_v, revCheck_v, l1', n1, n2, m1, m2, li, li2, hbk', hcr, fi, rsC, sc_in0, sc_in1]
  have f1 := fr.2 1
  have f2 := fr.2 2
  have dst_ : ((ν 0 = ν 1) = False) ∧ ((ν 0 = ν 2) = False) ∧ ((ν 1 = ν 0) = False) ∧ ((ν 1 = ν 2) = False) ∧ ((ν 2 = ν 0) = False) ∧ ((ν 2 = ν 1) = False) := (by simp [nuE]); generalize ν 0 = n0 at dst_  f0 f1 f2 ⊢; generalize ν 1 = nr at dst_  f0 f1 f2 ⊢; generalize ν 2 = nh at dst_  f0 f1 f2 ⊢
  clear nuE fr fi
  have g1 : ∀ o, Vm.look ((n0, o) :: (E ++ X)) nr = none := fun o => by simp [Vm.look, dst_, f1]
  have g2 : ∀ o o', Vm.look ((nr, o) :: (n0, o') :: (E ++ X)) nh = none := fun o o' => by simp [Vm.look, dst_, f2]
  have g3 : ∀ o, Vm.look ((n0, o) :: (E ++ X)) nh = none := fun o => by simp [Vm.look, dst_, f2]
  have sEE : ∀ o o', SubA (E ++ X) ((nr, o) :: (n0, o') :: (E ++ X)) := fun o o' => SubA.fresh (g1 _) (SubA.fresh f0 (SubA.refl _))
  refine RunA.use ?_
  refine append_src (m := f.d.h.length) (news := f.d.h.flatMap intC) (B := [(nh, .cells #[] 3)]) slc51 zro3 rfl (by decide) (OwnL.at0 intC 1 _ _) (SubA.left [_] _) ?_ (flat_one int_one f.d.h) (by simp only [maxLen, List.length_nil]; omega) (by simp only [List.length_nil]; omega) ?_
  · rcases hsv4.src with h | ⟨g, off', h1, h2⟩
    · exact .inl h
    · refine .inr ⟨g, off', h1, ?_⟩
      rw [← h2]
      obtain ⟨cc, ce, cfr, hlook⟩ := rdCS_some h2
      rw [hlook]
      congr 1
      exact (SubA.fresh (g2 _ _) (SubA.trans sE (sEE _ _))) _ _ hlook
  intro v' B' ho' hb'
  refine ⟨B' ++ ((n0, _) :: (E ++ X)), SubA.app (SubA.fresh (g2 _ _) (SubA.fresh (g1 _) (SubA.refl _))), ?_⟩
  have dB := ap_dis hb' (Dis.one (g3 _)) (SubA.fresh (g2 _ _) (SubA.fresh (g1 _) (SubA.refl ((n0, _) :: (E ++ X)))))
  obtain ⟨d1, d2, d3, d4, d5, d6⟩ := dst_
  intro ν3 fr3
  have fr := fr3
  have nuE := And.intro (fr.mem (b := n0) (by simp)) fr.nu
  obtain ⟨hp, hcap, rfl, hhc⟩ : ∃ hp hcap, v' = .slice hp f.d.h.length hcap ∧ f.d.h.length ≤ hcap := by
    have o : OwnL intC 1 3 v' B' f.d.h := by unfold OwnL; simpa using ho'
    obtain ⟨p, cap, e, h1, _⟩ := o.read intC_len
    exact ⟨p, cap, e, h1⟩
  have o1 : OwnL intC 1 3 (.slice hp f.d.h.length hcap) B' f.d.h := by unfold OwnL; simpa using ho'
  have h0 := fr.2 0
  simp (maxDischargeDepth := 16) only [argE_nil, argE_cons, ↓vmD, vmV, vmStd, Nat.reduceMul, ↓reduceIte, Nat.reduceAdd, Nat.reduceSub, Nat.reduceEqDiff, Nat.reduceLT, Nat.reduceLeDiff, reduceCtorEq, Int.reduceToNat, Int.reduceLT, Int.reduceLE, Int.reduceEq, Int.reduceNeg, Int.reduceBEq, Int.reduceBNe, String.reduceEq, forall_const, ↓vmDA, vmVA, ↓vmQA, vmR, vmRA, ↓vmSA, vmSV, tyS, nuE, SubA.skip, SubA.refl, fr.2, vbRkA, rdate_v, rdue46_v, revCheck_v, sc_in1]
  refine RunA.use ?_
  refine append_src (m := 1) (news := intC (nextF f.d.c.st ev).1) (B := B') slc51 zro3 rfl (by decide) o1 (SubA.skip ((SubA.left B' _).none h0) (SubA.left B' _)) (.inr ⟨ν3 0, 0, rfl, by simp (maxDischargeDepth := 16) only [argE_nil, argE_cons, ↓vmD, vmV, vmStd, Nat.reduceMul, ↓reduceIte, Nat.reduceAdd, Nat.reduceSub, Nat.reduceEqDiff, Nat.reduceLT, Nat.reduceLeDiff, reduceCtorEq, Int.reduceToNat, Int.reduceLT, Int.reduceLE, Int.reduceEq, Int.reduceNeg, Int.reduceBEq, Int.reduceBNe, String.reduceEq, forall_const, ↓vmDA, vmVA, ↓vmQA, vmR, vmRA, ↓vmSA, vmSV, tyS, nuE, SubA.skip, SubA.refl, fr.2, vbRkA, rdate_v, rdue46_v, revCheck_v, intC]⟩) (int_one _) (by simp only [maxLen]; omega) (by omega) ?_
  intro v2 B2 ho2 hb2
  have dB2 := ap_dis hb2 dB (SubA.skip (dB.right.none h0) dB.right)
  have hn2 : Vm.look B2 n0 = none := Dis.headn dB2
  have o2 : OwnL intC 1 3 v2 B2 (f.d.h ++ [(nextF f.d.c.st ev).1]) := by unfold OwnL; simpa using ho2
  obtain ⟨hp2, hcap2, rfl, hhc2, hhs2⟩ := o2.read intC_len
  have hcap2' := own_cap o2
  have hl2 : (f.d.h ++ [(nextF f.d.c.st ev).1]).length = f.d.h.length + 1 := by simp
  have dEX : Dis B2 (E ++ X) := Dis.tailn dB2 f0
  -- the parts
  obtain ⟨FB, HX, rfl, sp, h4, h5⟩ := hE
  have hne : F ≠ [] := by intro h; subst h; simp at hi
  obtain ⟨fb, fcap', cur, q1, rfl, hc1, hc2, hc3, hc4⟩ := h4.blk hne
  obtain ⟨hset, hcs⟩ := h4.set foC_len hlt (⟨enterX (R.map Rs.d) f.d (nextF f.d.c.st ev).1 date, .slice hp2 (f.d.h ++ [(nextF f.d.c.st ev).1]).length hcap2, []⟩ : Fo)
  cases q1
  have lfb : Vm.look (cat ([(db, (Obj.cells #[.slice rp R.length rcap, .slice (some ⟨bk, 0, none⟩) F.length fcap] 71))] :: [(bk, Obj.cells cur 78)] :: HX :: [])) bk = some (Obj.cells cur 78) := sp.sub [(bk, Obj.cells cur 78)] (by simp) _ _ (by simp [Vm.look])
  have lE : Vm.look (B2 ++ (cat ([(db, (Obj.cells #[.slice rp R.length rcap, .slice (some ⟨bk, 0, none⟩) F.length fcap] 71))] :: [(bk, Obj.cells cur 78)] :: HX :: []) ++ X)) db = _ := dEX.right _ _ l1'
  have lF : Vm.look (B2 ++ (cat ([(db, (Obj.cells #[.slice rp R.length rcap, .slice (some ⟨bk, 0, none⟩) F.length fcap] 71))] :: [(bk, Obj.cells cur 78)] :: HX :: []) ++ X)) bk = _ := dEX.right _ _ (SubA.left _ X _ _ lfb)
  have fn0 : Vm.look (B2 ++ (cat ([(db, (Obj.cells #[.slice rp R.length rcap, .slice (some ⟨bk, 0, none⟩) F.length fcap] 71))] :: [(bk, Obj.cells cur 78)] :: HX :: []) ++ X)) n0 = none := look_app_none hn2 f0
  obtain ⟨e1, e2⟩ := look_ne fn0 lE
  obtain ⟨e3, e4⟩ := look_ne fn0 lF
  have dfb : (db = bk) = False := eq_false (fun e => by
    have := sp.1.1 bk (by simp [Vm.look])
    simp [Vm.look, e] at this)
  have dfb' : (bk = db) = False := eq_false (fun e => by rw [e] at dfb; simp at dfb)
  have sHX : SubA HX (cat ([(db, (Obj.cells #[.slice rp R.length rcap, .slice (some ⟨bk, 0, none⟩) F.length fcap] 71))] :: [(bk, Obj.cells cur 78)] :: HX :: [])) := sp.sub HX (by simp)
  refine ⟨(n0, _) :: (db, (Obj.cells #[.slice rp R.length rcap, .slice (some ⟨bk, 0, none⟩) F.length fcap] 71)) :: (bk, Obj.cells cur 78) :: (B2 ++ (HX ++ X)), SubA.trans (SubA.trans (cons_in (SubA.cons lE (SubA.cons lF (SubA.both (SubA.left _ _) (SubA.both (SubA.trans (SubA.trans sHX (SubA.left _ _)) dEX.right) (SubA.trans hEX.right dEX.right)))))) (cons_out hn2)) (SubA.app (SubA.skip (dB.right.none h0) dB.right)), ?_⟩
  intro ν4 fr4
  have fr := fr4
  have nuE := And.intro e1 (And.intro e2 (And.intro e3 (And.intro e4 (And.intro dfb (And.intro dfb' (And.intro (fr.mem (b := n0) (by simp)) (And.intro (fr.mem (b := db) (by simp)) (And.intro (fr.mem (b := bk) (by simp)) fr.nu))))))))
  have hle : (i * 12 + 12 ≤ cur.size) = True := eq_true hcs
  simp (maxDischargeDepth := 16) only [argE_nil, argE_cons, ↓vmD, vmV, vmStd, Nat.reduceMul, ↓reduceIte, Nat.reduceAdd, Nat.reduceSub, Nat.reduceEqDiff, Nat.reduceLT, Nat.reduceLeDiff, reduceCtorEq, Int.reduceToNat, Int.reduceLT, Int.reduceLE, Int.reduceEq, Int.reduceNeg, Int.reduceBEq, Int.reduceBNe, String.reduceEq, forall_const, ↓vmDA, vmVA, ↓vmQA, vmR, vmRA, ↓vmSA, vmSV, tyS, nuE, SubA.skip, SubA.refl, fr.2, vbRkA, rdate_v, rdue46_v, revCheck_v, li, li2, hle]
  have hyd : y.d = (findR f.d.c.rea (R.map Rs.d)).getD noRn := by
    rw [← hy, ← findS_d]
    cases findS f.d.c.rea R <;> rfl
  have hdue : dueS y.d (nextF f.d.c.st ev).1 date = dueX (R.map Rs.d) f.d.c.rea (nextF f.d.c.st ev).1 date := by
    rw [hyd]
    obtain ⟨a1, a2, a3, a4⟩ := next_up hn
    exact due_eq _ _ _ (by omega) rfl
  have dBX : Dis B2 (cat ([(db, (Obj.cells #[.slice rp R.length rcap, .slice (some ⟨bk, 0, none⟩) F.length fcap] 71))] :: [(bk, Obj.cells cur 78)] :: HX :: [])) := Dis.subr dEX (SubA.left _ _)
  have dBH : Dis B2 HX := Dis.subr dBX sHX
  have sp2 : Sep [[(db, (Obj.cells #[.slice rp R.length rcap, .slice (some ⟨bk, 0, none⟩) F.length fcap] 71))], [(bk, Obj.cells cur 78)], B2 ++ HX] := Sep.coarse (a := [_, _]) (m := [B2, HX]) (Sep.pick (Sep.cons dBX sp) [1, 2, 0, 3] rfl rfl)
  have sp3 := Sep.set 1 [(bk, Obj.cells (splice cur (i * 12) (foC (⟨enterX (R.map Rs.d) f.d (nextF f.d.c.st ev).1 date, .slice hp2 (f.d.h ++ [(nextF f.d.c.st ev).1]).length hcap2, []⟩ : Fo))) 78)] sp2 one_less
  refine ⟨rfl, _, F.set i (⟨enterX (R.map Rs.d) f.d (nextF f.d.c.st ev).1 date, .slice hp2 (f.d.h ++ [(nextF f.d.c.st ev).1]).length hcap2, []⟩ : Fo), ⟨_, _, rfl, sp3, hset, fun g hg => ?_⟩, by rw [List.map_set], ?_, ?_⟩
  · rcases List.mem_or_eq_of_mem_set hg with h | h
    · obtain ⟨p, c, h1, h2, h3, h4⟩ := h5 g h
      exact ⟨p, c, h1, h2, h3, h4.mono dBH.right⟩
    · subst h
      exact ⟨hp2, hcap2, rfl, hhc2, hcap2', hhs2.mono (SubA.left _ _)⟩
  · have dX : Dis (cat ([(db, (Obj.cells #[.slice rp R.length rcap, .slice (some ⟨bk, 0, none⟩) F.length fcap] 71))] :: [(bk, Obj.cells cur 78)] :: (B2 ++ HX) :: [])) X := fun x hx => by
      have h1 := hEX x hx
      have h2 : Vm.look B2 x = none := dEX x (by
        rw [look_append]
        cases hq : Vm.look (cat ([(db, (Obj.cells #[.slice rp R.length rcap, .slice (some ⟨bk, 0, none⟩) F.length fcap] 71))] :: [(bk, Obj.cells cur 78)] :: HX :: [])) x <;> simp [hx])
      simp only [cat, List.cons_append, List.nil_append, Vm.look] at h1 ⊢
      split at h1
      · cases h1
      · rename_i q1
        split at h1
        · cases h1
        · rename_i q2
          rw [if_neg q1, if_neg q2]
          exact look_app_none h2 h1
    refine Dis.less dX fun x hx => ?_
    simp only [cat, List.cons_append, List.nil_append, Vm.look] at hx ⊢
    split at hx
    · cases hx
    · rename_i q1
      split at hx
      · cases hx
      · rename_i q2
        rw [if_neg q1, if_neg q2]
        exact hx
  · rw [hdue]
    simp only [cat, List.cons_append, List.nil_append, List.append_assoc]
    refine SubA.skip ?_ (SubA.refl _)
    simp only [Vm.look, e1, e2, e3, e4, if_false]
    exact look_app_none hn2 ((SubA.both (SubA.trans sHX (SubA.left _ _)) hEX.right).none f0)

end Go.Proofs.YtkkpmcomloekoaaGreat
