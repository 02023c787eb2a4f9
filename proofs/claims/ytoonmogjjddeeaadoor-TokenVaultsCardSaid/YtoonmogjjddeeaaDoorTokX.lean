/-
Tokens: the walk of the law TokenVaults.
Conditions: none.
-/
import Derived.Test.YtoonmogjjddeeaaDoorTokN
import Derived.Test.YtoonmogjjddeeaaDoorTokA
import Derived.Test.YtoonmogjjddeeaaDoorTokY
import Derived.Test.YtoonmogjjddeeaaDoorVmAG
namespace Go.Proofs.YtoonmogjjddeeaaDoor
open Go.Vm
set_option linter.unusedSimpArgs false
set_option linter.unusedVariables false
set_option maxHeartbeats 8000000
set_option maxRecDepth 20000
def SzT (x : DoT) : Prop := x.num.length ≤ 140737488351232 ∧ x.tok.length ≤ 140737488351232 ∧ x.req.length ≤ 140737488351232 ∧ x.mer.length ≤ 140737488351232 ∧ x.dq.length ≤ 140737488351232 ∧ x.dm.length ≤ 140737488351232
def sumT (x : DoT) : Nat := x.num.length + x.tok.length + x.req.length + x.mer.length + x.dq.length + x.dm.length
def shortB (L : List DoT) : Bool := L.all (fun x => decide (sumT x ≤ 300)) && decide (L.length ≤ 150)
theorem short_h (A : AH) (L : List DoT) (p : Option Addr) (cap : Nat) (hL : StR doC 10 A p L) (hz : ∀ x ∈ L, SzT x) (hl : L.length ≤ 9223372036854775807) : CallA Tryd.prog 16 #[.slice p L.length cap] A (fun u_ A_ => u_ = .bool (shortB L) ∧ SubA A A_) := by
  refine callA_of_denA ⟨Tryd.prog, 16, Tryd.f16, 44, [0, 2, 3, 4], [], [], _⟩ (args := [_]) Tryd.func16 rfl (by kernel_rfl) Tryd.ntmps16 (by simp) (by kernel_rfl) ?_
  intro ν fr; have nuE := fr.nu
  simp (maxDischargeDepth := 16) only [argE_nil, argE_cons, ↓vmD, vmV, vmStd, Nat.reduceMul, ↓reduceIte, Nat.reduceAdd, Nat.reduceSub, Nat.reduceEqDiff, Nat.reduceLT, Nat.reduceLeDiff, reduceCtorEq, Int.reduceToNat, Int.reduceLT, Int.reduceLE, Int.reduceEq, Int.reduceNeg, Int.reduceBEq, Int.reduceBNe, String.reduceEq, forall_const, ↓vmDA, vmVA, ↓vmQA, vmR, vmRA, ↓vmSA, vmSV, tyS, nuE, SubA.skip, SubA.refl, fr.2, areDigits_v, panSum_v, rdigits_v, rsum_v, panLuhn_v, rLuhn_v, panCheck_v, rCheck_v, panCd_v, rCd_v, isPrefix_v, rMake_v, isLet_v, isId_v, isNm_v, isTm_v, rIsId_v, rIsNm_v, rDomain_v]
  obtain ⟨e, l, he, hd, hn⟩ : ∃ (e : Nat) (l : List DoT), e = 0 ∧ l = L.drop e ∧ ∀ y ∈ L.take e, sumT y ≤ 300 := ⟨0, L, rfl, rfl, by simp⟩
  rw [show (3, some (Value.int .i64 0)) = (3, some (Value.int .i64 (e : Int))) by rw [he]; rfl]
  clear he nuE fr
  induction l generalizing e with
  | nil =>
    have hle := drop_nil hd
    have lt : ((e : Int) < (L.length : Int)) = False := eq_false (by omega)
    have hall : L.all (fun x => decide (sumT x ≤ 300)) = true := by
      rw [List.all_eq_true]
      intro y hy
      have := hn y (by rw [List.take_of_length_le hle]; exact hy)
      simpa using this
    have q : ((L.length : Int) ≤ 150) = (L.length ≤ 150) := propext ⟨fun h => by omega, fun h => by omega⟩
    refine LoopA.intro (by kernel_rfl) ?_
    intro ν fr; have nuE := fr.nu
    simp (maxDischargeDepth := 16) only [argE_nil, argE_cons, ↓vmD, vmV, vmStd, Nat.reduceMul, ↓reduceIte, Nat.reduceAdd, Nat.reduceSub, Nat.reduceEqDiff, Nat.reduceLT, Nat.reduceLeDiff, reduceCtorEq, Int.reduceToNat, Int.reduceLT, Int.reduceLE, Int.reduceEq, Int.reduceNeg, Int.reduceBEq, Int.reduceBNe, String.reduceEq, forall_const, ↓vmDA, vmVA, ↓vmQA, vmR, vmRA, ↓vmSA, vmSV, tyS, nuE, SubA.skip, SubA.refl, fr.2, areDigits_v, panSum_v, rdigits_v, rsum_v, panLuhn_v, rLuhn_v, panCheck_v, rCheck_v, panCd_v, rCd_v, isPrefix_v, rMake_v, isLet_v, isId_v, isNm_v, isTm_v, rIsId_v, rIsNm_v, rDomain_v, lt, q, shortB, hall, Bool.true_and]
  | cons x l ih =>
    obtain ⟨ha, hlt, hd'⟩ := drop_some hd
    have lt : ((e : Int) < (L.length : Int)) = True := eq_true (by omega)
    have we : IntKind.i64.wrap ((e : Int) + 1) = ((e + 1 : Nat) : Int) := by rw [w_i64 (by omega) (by omega)]; omega
    obtain ⟨bk, off, cs, ty, fr0, hp0, hbk, hcr, hcc⟩ := hL.at ha
    subst hp0
    have hm : x ∈ L := List.mem_of_getElem? ha
    obtain ⟨z1, z2, z3, z4, z5, z6⟩ := hz x hm
    have w1 : IntKind.i64.wrap ((x.num.length : Int) + (x.tok.length : Int)) = ((x.num.length + x.tok.length : Nat) : Int) := by rw [w_i64 (by omega) (by omega)]; omega
    have w2 : IntKind.i64.wrap (((x.num.length + x.tok.length : Nat) : Int) + (x.req.length : Int)) = ((x.num.length + x.tok.length + x.req.length : Nat) : Int) := by rw [w_i64 (by omega) (by omega)]; omega
    have w3 : IntKind.i64.wrap (((x.num.length + x.tok.length + x.req.length : Nat) : Int) + (x.mer.length : Int)) = ((x.num.length + x.tok.length + x.req.length + x.mer.length : Nat) : Int) := by rw [w_i64 (by omega) (by omega)]; omega
    have w4 : IntKind.i64.wrap (((x.num.length + x.tok.length + x.req.length + x.mer.length : Nat) : Int) + (x.dq.length : Int)) = ((x.num.length + x.tok.length + x.req.length + x.mer.length + x.dq.length : Nat) : Int) := by rw [w_i64 (by omega) (by omega)]; omega
    have w5 : IntKind.i64.wrap (((x.num.length + x.tok.length + x.req.length + x.mer.length + x.dq.length : Nat) : Int) + (x.dm.length : Int)) = (sumT x : Int) := by rw [w_i64 (by omega) (by omega)]; unfold sumT; omega
    refine LoopA.intro (by kernel_rfl) ?_
    intro ν fr; have nuE := fr.nu
    by_cases h3 : sumT x ≤ 300
    · have q : ((300 : Int) < (sumT x : Int)) = False := eq_false (by omega)
      simp (maxDischargeDepth := 16) only [argE_nil, argE_cons, ↓vmD, vmV, vmStd, Nat.reduceMul, ↓reduceIte, Nat.reduceAdd, Nat.reduceSub, Nat.reduceEqDiff, Nat.reduceLT, Nat.reduceLeDiff, reduceCtorEq, Int.reduceToNat, Int.reduceLT, Int.reduceLE, Int.reduceEq, Int.reduceNeg, Int.reduceBEq, Int.reduceBNe, String.reduceEq, forall_const, ↓vmDA, vmVA, ↓vmQA, vmR, vmRA, ↓vmSA, vmSV, tyS, nuE, SubA.skip, SubA.refl, fr.2, areDigits_v, panSum_v, rdigits_v, rsum_v, panLuhn_v, rLuhn_v, panCheck_v, rCheck_v, panCd_v, rCd_v, isPrefix_v, rMake_v, isLet_v, isId_v, isNm_v, isTm_v, rIsId_v, rIsNm_v, rDomain_v, lt, hbk, hcr, doC, bs_size, w1, w2, w3, w4, w5, q, we]
      exact LoopA.weak (ih (e + 1) hd' (fun y hy => by
        rw [List.take_add_one, ha] at hy
        rcases List.mem_append.1 hy with h1 | h1
        · exact hn y h1
        · simp at h1; rw [h1]; exact h3)) (by simp only [subE, get_cons, Nat.reduceEqDiff, ↓reduceIte, reduceCtorEq, Nat.reduceAdd, and_self, and_true]) (by (repeat (first | exact SubA.refl _ | refine SubA.skip (fr.2 _) ?_)))
    · have q : ((300 : Int) < (sumT x : Int)) = True := eq_true (by omega)
      have hf : shortB L = false := by
        unfold shortB
        have : L.all (fun x => decide (sumT x ≤ 300)) = false := by
          rw [← Bool.not_eq_true, List.all_eq_true]
          intro h
          exact h3 (by simpa using h x hm)
        rw [this]; rfl
      simp (maxDischargeDepth := 16) only [argE_nil, argE_cons, ↓vmD, vmV, vmStd, Nat.reduceMul, ↓reduceIte, Nat.reduceAdd, Nat.reduceSub, Nat.reduceEqDiff, Nat.reduceLT, Nat.reduceLeDiff, reduceCtorEq, Int.reduceToNat, Int.reduceLT, Int.reduceLE, Int.reduceEq, Int.reduceNeg, Int.reduceBEq, Int.reduceBNe, String.reduceEq, forall_const, ↓vmDA, vmVA, ↓vmQA, vmR, vmRA, ↓vmSA, vmSV, tyS, nuE, SubA.skip, SubA.refl, fr.2, areDigits_v, panSum_v, rdigits_v, rsum_v, panLuhn_v, rLuhn_v, panCheck_v, rCheck_v, panCd_v, rCd_v, isPrefix_v, rMake_v, isLet_v, isId_v, isNm_v, isTm_v, rIsId_v, rIsNm_v, rDomain_v, lt, hbk, hcr, doC, bs_size, w1, w2, w3, w4, w5, q, hf]
theorem short_w (A : AH) (L : List DoT) (p : Option Addr) (cap : Nat) (hL : StR doC 10 A p L) (hz : ∀ x ∈ L, SzT x) (hl : L.length ≤ 9223372036854775807) (B_ : AH) (hB_ : SubA A B_) : valA Tryd.prog 16 #[.slice p L.length cap] B_ = some (.bool (shortB L)) := valA_eq (pureA_at (by kernel_rfl) (short_h A L p cap hL hz hl) hB_)
theorem short_v (A : AH) (L : List DoT) (p : Option Addr) (cap : Nat) (hL : StR doC 10 A p L) (hz : ∀ x ∈ L, SzT x) (hl : L.length ≤ 9223372036854775807) : valA Tryd.prog 16 #[.slice p L.length cap] A = some (.bool (shortB L)) := valA_eq (pureA_at (by kernel_rfl) (short_h A L p cap hL hz hl) (SubA.refl _))
theorem same_h (A : AH) (M : List (List UInt8)) (p1 p2 : Option Addr) (c1 c2 : Nat) (h1 : StR bsC 1 A p1 M) (h2 : StR bsC 1 A p2 M) (hl : M.length ≤ 1000) : CallA Tryd.prog 22 #[.slice p1 M.length c1, .slice p2 M.length c2] A (fun u_ A_ => u_ = .bool true ∧ SubA A A_) := by
  refine callA_of_denA ⟨Tryd.prog, 22, Tryd.f22, 26, [0, 1, 4, 5], [], [(6, .q false)], _⟩ (args := [_, _]) Tryd.func22 rfl (by kernel_rfl) Tryd.ntmps22 (by simp) (by kernel_rfl) ?_
  intro ν fr; have nuE := fr.nu
  simp (maxDischargeDepth := 16) only [argE_nil, argE_cons, ↓vmD, vmV, vmStd, Nat.reduceMul, ↓reduceIte, Nat.reduceAdd, Nat.reduceSub, Nat.reduceEqDiff, Nat.reduceLT, Nat.reduceLeDiff, reduceCtorEq, Int.reduceToNat, Int.reduceLT, Int.reduceLE, Int.reduceEq, Int.reduceNeg, Int.reduceBEq, Int.reduceBNe, String.reduceEq, forall_const, ↓vmDA, vmVA, ↓vmQA, vmR, vmRA, ↓vmSA, vmSV, tyS, nuE, SubA.skip, SubA.refl, fr.2, areDigits_v, panSum_v, rdigits_v, rsum_v, panLuhn_v, rLuhn_v, panCheck_v, rCheck_v, panCd_v, rCd_v, isPrefix_v, rMake_v, isLet_v, isId_v, isNm_v, isTm_v, rIsId_v, rIsNm_v, rDomain_v]
  obtain ⟨e, l, he, hd⟩ : ∃ (e : Nat) (l : List (List UInt8)), e = 0 ∧ l = M.drop e := ⟨0, M, rfl, rfl⟩
  rw [show (5, some (Value.int .i64 0)) = (5, some (Value.int .i64 (e : Int))) by rw [he]; rfl]
  clear he nuE fr
  induction l generalizing e with
  | nil =>
    have hle := drop_nil hd
    have lt : ((e : Int) < (M.length : Int)) = False := eq_false (by omega)
    refine LoopA.intro (by kernel_rfl) ?_
    intro ν fr; have nuE := fr.nu
    simp (maxDischargeDepth := 16) only [argE_nil, argE_cons, ↓vmD, vmV, vmStd, Nat.reduceMul, ↓reduceIte, Nat.reduceAdd, Nat.reduceSub, Nat.reduceEqDiff, Nat.reduceLT, Nat.reduceLeDiff, reduceCtorEq, Int.reduceToNat, Int.reduceLT, Int.reduceLE, Int.reduceEq, Int.reduceNeg, Int.reduceBEq, Int.reduceBNe, String.reduceEq, forall_const, ↓vmDA, vmVA, ↓vmQA, vmR, vmRA, ↓vmSA, vmSV, tyS, nuE, SubA.skip, SubA.refl, fr.2, areDigits_v, panSum_v, rdigits_v, rsum_v, panLuhn_v, rLuhn_v, panCheck_v, rCheck_v, panCd_v, rCd_v, isPrefix_v, rMake_v, isLet_v, isId_v, isNm_v, isTm_v, rIsId_v, rIsNm_v, rDomain_v, lt]
  | cons x l ih =>
    obtain ⟨ha, hlt, hd'⟩ := drop_some hd
    have lt : ((e : Int) < (M.length : Int)) = True := eq_true (by omega)
    have we : IntKind.i64.wrap ((e : Int) + 1) = ((e + 1 : Nat) : Int) := by rw [w_i64 (by omega) (by omega)]; omega
    obtain ⟨b1, o1, cs1, t1, f1, e1, k1, r1, g1⟩ := h1.at ha
    obtain ⟨b2, o2, cs2, t2, f2, e2, k2, r2, g2⟩ := h2.at ha
    subst e1 e2
    have j1 : cs1[o1 + e * 1]? = some (.string (bs x)) := g1 0 _ rfl
    have j2 : cs2[o2 + e * 1]? = some (.string (bs x)) := g2 0 _ rfl
    refine LoopA.intro (by kernel_rfl) ?_
    intro ν fr; have nuE := fr.nu
    simp (maxDischargeDepth := 16) only [argE_nil, argE_cons, ↓vmD, vmV, vmStd, Nat.reduceMul, ↓reduceIte, Nat.reduceAdd, Nat.reduceSub, Nat.reduceEqDiff, Nat.reduceLT, Nat.reduceLeDiff, reduceCtorEq, Int.reduceToNat, Int.reduceLT, Int.reduceLE, Int.reduceEq, Int.reduceNeg, Int.reduceBEq, Int.reduceBNe, String.reduceEq, forall_const, ↓vmDA, vmVA, ↓vmQA, vmR, vmRA, ↓vmSA, vmSV, tyS, nuE, SubA.skip, SubA.refl, fr.2, areDigits_v, panSum_v, rdigits_v, rsum_v, panLuhn_v, rLuhn_v, panCheck_v, rCheck_v, panCd_v, rCd_v, isPrefix_v, rMake_v, isLet_v, isId_v, isNm_v, isTm_v, rIsId_v, rIsNm_v, rDomain_v, lt, k1, k2, j1, j2, we, BEq.rfl, bne_self_eq_false]
    exact LoopA.weak (ih (e + 1) hd') (by simp only [subE, get_cons, Nat.reduceEqDiff, ↓reduceIte, reduceCtorEq, Nat.reduceAdd, and_self, and_true]) (SubA.refl _)
theorem same_w (A : AH) (M : List (List UInt8)) (p1 p2 : Option Addr) (c1 c2 : Nat) (h1 : StR bsC 1 A p1 M) (h2 : StR bsC 1 A p2 M) (hl : M.length ≤ 1000) (B_ : AH) (hB_ : SubA A B_) : valA Tryd.prog 22 #[.slice p1 M.length c1, .slice p2 M.length c2] B_ = some (.bool true) := valA_eq (pureA_at (by kernel_rfl) (same_h A M p1 p2 c1 c2 h1 h2 hl) hB_)
theorem same_v (A : AH) (M : List (List UInt8)) (p1 p2 : Option Addr) (c1 c2 : Nat) (h1 : StR bsC 1 A p1 M) (h2 : StR bsC 1 A p2 M) (hl : M.length ≤ 1000) : valA Tryd.prog 22 #[.slice p1 M.length c1, .slice p2 M.length c2] A = some (.bool true) := valA_eq (pureA_at (by kernel_rfl) (same_h A M p1 p2 c1 c2 h1 h2 hl) (SubA.refl _))
theorem nilProv_h : CallA Tryd.prog 9 #[.pointer none, .string ⟨#[]⟩, .agg #[.string ⟨#[]⟩, .string ⟨#[]⟩, .int .i64 0], .int .i64 0] [] (fun u_ _ => u_ = .tuple #[.string ⟨#[]⟩, .int .i64 6]) := by
  refine callA_of_denA ⟨Tryd.prog, 9, Tryd.f9, 100, [0, 1, 2, 3, 6, 8, 9, 10, 11, 12, 13], [], [(13, .q false), (16, .p [(0, 0), (1, 0), (2, 0), (3, 0), (4, 0), (5, 0), (6, 0), (7, 0), (8, 0), (9, 0), (10, 0), (11, 1), (12, 0), (13, 0), (14, 2)])], _⟩ (args := [_, _, _, _]) Tryd.func9 rfl (by kernel_rfl) Tryd.ntmps9 (by simp) (by kernel_rfl) ?_
  intro ν fr; have nuE := fr.nu
  simp (maxDischargeDepth := 16) only [argE_nil, argE_cons, ↓vmD, vmV, vmStd, Nat.reduceMul, ↓reduceIte, Nat.reduceAdd, Nat.reduceSub, Nat.reduceEqDiff, Nat.reduceLT, Nat.reduceLeDiff, reduceCtorEq, Int.reduceToNat, Int.reduceLT, Int.reduceLE, Int.reduceEq, Int.reduceNeg, Int.reduceBEq, Int.reduceBNe, String.reduceEq, forall_const, ↓vmDA, vmVA, ↓vmQA, vmR, vmRA, ↓vmSA, vmSV, tyS, nuE, SubA.skip, SubA.refl, fr.2, areDigits_v, panSum_v, rdigits_v, rsum_v, panLuhn_v, rLuhn_v, panCheck_v, rCheck_v, panCd_v, rCd_v, isPrefix_v, rMake_v, isLet_v, isId_v, isNm_v, isTm_v, rIsId_v, rIsNm_v, rDomain_v]
theorem nilProv_v (A_ : AH) : valA Tryd.prog 9 #[.pointer none, .string ⟨#[]⟩, .agg #[.string ⟨#[]⟩, .string ⟨#[]⟩, .int .i64 0], .int .i64 0] A_ = some (.tuple #[.string ⟨#[]⟩, .int .i64 6]) := valA_eq (pureA_of (by kernel_rfl) (nilProv_h ))
theorem nilFind_h : CallA Tryd.prog 34 #[.pointer none, .string ⟨#[]⟩] [] (fun u_ _ => u_ = .pointer none) := by
  refine callA_of_denA ⟨Tryd.prog, 34, Tryd.f34, 26, [0, 1, 4, 5, 6], [], [], _⟩ (args := [_, _]) Tryd.func34 rfl (by kernel_rfl) Tryd.ntmps34 (by simp) (by kernel_rfl) ?_
  intro ν fr; have nuE := fr.nu
  simp (maxDischargeDepth := 16) only [argE_nil, argE_cons, ↓vmD, vmV, vmStd, Nat.reduceMul, ↓reduceIte, Nat.reduceAdd, Nat.reduceSub, Nat.reduceEqDiff, Nat.reduceLT, Nat.reduceLeDiff, reduceCtorEq, Int.reduceToNat, Int.reduceLT, Int.reduceLE, Int.reduceEq, Int.reduceNeg, Int.reduceBEq, Int.reduceBNe, String.reduceEq, forall_const, ↓vmDA, vmVA, ↓vmQA, vmR, vmRA, ↓vmSA, vmSV, tyS, nuE, SubA.skip, SubA.refl, fr.2, areDigits_v, panSum_v, rdigits_v, rsum_v, panLuhn_v, rLuhn_v, panCheck_v, rCheck_v, panCd_v, rCd_v, isPrefix_v, rMake_v, isLet_v, isId_v, isNm_v, isTm_v, rIsId_v, rIsNm_v, rDomain_v, nilProv_v]
theorem nilFind_v (A_ : AH) : valA Tryd.prog 34 #[.pointer none, .string ⟨#[]⟩] A_ = some (.pointer none) := valA_eq (pureA_of (by kernel_rfl) (nilFind_h ))
theorem nilRes_h : CallA Tryd.prog 11 #[.pointer none, .string ⟨#[]⟩, .string ⟨#[]⟩, .string ⟨#[]⟩, .int .i64 0] [] (fun u_ _ => u_ = .tuple #[.string ⟨#[]⟩, .int .i64 6]) := by
  refine callA_of_denA ⟨Tryd.prog, 11, Tryd.f11, 64, [0, 1, 2, 3, 4, 10, 11, 12, 13], [], [], _⟩ (args := [_, _, _, _, _]) Tryd.func11 rfl (by kernel_rfl) Tryd.ntmps11 (by simp) (by kernel_rfl) ?_
  intro ν fr; have nuE := fr.nu
  simp (maxDischargeDepth := 16) only [argE_nil, argE_cons, ↓vmD, vmV, vmStd, Nat.reduceMul, ↓reduceIte, Nat.reduceAdd, Nat.reduceSub, Nat.reduceEqDiff, Nat.reduceLT, Nat.reduceLeDiff, reduceCtorEq, Int.reduceToNat, Int.reduceLT, Int.reduceLE, Int.reduceEq, Int.reduceNeg, Int.reduceBEq, Int.reduceBNe, String.reduceEq, forall_const, ↓vmDA, vmVA, ↓vmQA, vmR, vmRA, ↓vmSA, vmSV, tyS, nuE, SubA.skip, SubA.refl, fr.2, areDigits_v, panSum_v, rdigits_v, rsum_v, panLuhn_v, rLuhn_v, panCheck_v, rCheck_v, panCd_v, rCd_v, isPrefix_v, rMake_v, isLet_v, isId_v, isNm_v, isTm_v, rIsId_v, rIsNm_v, rDomain_v, nilProv_v, nilFind_v]
theorem nilRes_v (A_ : AH) : valA Tryd.prog 11 #[.pointer none, .string ⟨#[]⟩, .string ⟨#[]⟩, .string ⟨#[]⟩, .int .i64 0] A_ = some (.tuple #[.string ⟨#[]⟩, .int .i64 6]) := valA_eq (pureA_of (by kernel_rfl) (nilRes_h ))
theorem nilGet_h : CallA Tryd.prog 20 #[.pointer none, .string ⟨#[]⟩] [] (fun u_ _ => u_ = .tuple #[.agg #[.string ⟨#[]⟩, .string ⟨#[]⟩, .string ⟨#[]⟩, .string ⟨#[]⟩, .int .i64 0, .int .i64 0, .int .i64 0], .bool false]) := by
  refine callA_of_denA ⟨Tryd.prog, 20, Tryd.f20, 16, [0, 1, 4, 5, 6], [], [], _⟩ (args := [_, _]) Tryd.func20 rfl (by kernel_rfl) Tryd.ntmps20 (by simp) (by kernel_rfl) ?_
  intro ν fr; have nuE := fr.nu
  simp (maxDischargeDepth := 16) only [argE_nil, argE_cons, ↓vmD, vmV, vmStd, Nat.reduceMul, ↓reduceIte, Nat.reduceAdd, Nat.reduceSub, Nat.reduceEqDiff, Nat.reduceLT, Nat.reduceLeDiff, reduceCtorEq, Int.reduceToNat, Int.reduceLT, Int.reduceLE, Int.reduceEq, Int.reduceNeg, Int.reduceBEq, Int.reduceBNe, String.reduceEq, forall_const, ↓vmDA, vmVA, ↓vmQA, vmR, vmRA, ↓vmSA, vmSV, tyS, nuE, SubA.skip, SubA.refl, fr.2, areDigits_v, panSum_v, rdigits_v, rsum_v, panLuhn_v, rLuhn_v, panCheck_v, rCheck_v, panCd_v, rCd_v, isPrefix_v, rMake_v, isLet_v, isId_v, isNm_v, isTm_v, rIsId_v, rIsNm_v, rDomain_v, nilProv_v, nilFind_v, nilRes_v]
theorem nilGet_v (A_ : AH) : valA Tryd.prog 20 #[.pointer none, .string ⟨#[]⟩] A_ = some (.tuple #[.agg #[.string ⟨#[]⟩, .string ⟨#[]⟩, .string ⟨#[]⟩, .string ⟨#[]⟩, .int .i64 0, .int .i64 0, .int .i64 0], .bool false]) := valA_eq (pureA_of (by kernel_rfl) (nilGet_h ))
theorem nilChg_h (b n : Nat) (t : Int) : CallA Tryd.prog 33 #[.pointer none, .string ⟨#[]⟩, .int .i64 t, .slice (some ⟨b, 0, none⟩) n n] [] (fun u_ _ => u_ = .int .i64 6) := by
  refine callA_of_denA ⟨Tryd.prog, 33, Tryd.f33, 34, [0, 1, 2, 3, 8, 9, 11, 17, 18, 19], [], [], _⟩ (args := [_, _, _, _]) Tryd.func33 rfl (by kernel_rfl) Tryd.ntmps33 (by simp) (by kernel_rfl) ?_
  intro ν fr; have nuE := fr.nu
  simp (maxDischargeDepth := 16) only [argE_nil, argE_cons, ↓vmD, vmV, vmStd, Nat.reduceMul, ↓reduceIte, Nat.reduceAdd, Nat.reduceSub, Nat.reduceEqDiff, Nat.reduceLT, Nat.reduceLeDiff, reduceCtorEq, Int.reduceToNat, Int.reduceLT, Int.reduceLE, Int.reduceEq, Int.reduceNeg, Int.reduceBEq, Int.reduceBNe, String.reduceEq, forall_const, ↓vmDA, vmVA, ↓vmQA, vmR, vmRA, ↓vmSA, vmSV, tyS, nuE, SubA.skip, SubA.refl, fr.2, areDigits_v, panSum_v, rdigits_v, rsum_v, panLuhn_v, rLuhn_v, panCheck_v, rCheck_v, panCd_v, rCd_v, isPrefix_v, rMake_v, isLet_v, isId_v, isNm_v, isTm_v, rIsId_v, rIsNm_v, rDomain_v, nilProv_v, nilFind_v, nilRes_v, nilGet_v]
theorem nilChg_v (b n : Nat) (t : Int) (A_ : AH) : valA Tryd.prog 33 #[.pointer none, .string ⟨#[]⟩, .int .i64 t, .slice (some ⟨b, 0, none⟩) n n] A_ = some (.int .i64 6) := valA_eq (pureA_of (by kernel_rfl) (nilChg_h b n t))
theorem nilSus_h : CallA Tryd.prog 10 #[.pointer none, .string ⟨#[]⟩] [] (fun u_ _ => u_ = .int .i64 6) := by
  refine callA_of_denA ⟨Tryd.prog, 10, Tryd.f10, 9, [0, 1, 4], [], [], _⟩ (args := [_, _]) Tryd.func10 rfl (by kernel_rfl) Tryd.ntmps10 (by simp) (by kernel_rfl) ?_
  intro ν fr; have nuE := fr.nu
  simp (maxDischargeDepth := 16) only [argE_nil, argE_cons, ↓vmD, vmV, vmStd, Nat.reduceMul, ↓reduceIte, Nat.reduceAdd, Nat.reduceSub, Nat.reduceEqDiff, Nat.reduceLT, Nat.reduceLeDiff, reduceCtorEq, Int.reduceToNat, Int.reduceLT, Int.reduceLE, Int.reduceEq, Int.reduceNeg, Int.reduceBEq, Int.reduceBNe, String.reduceEq, forall_const, ↓vmDA, vmVA, ↓vmQA, vmR, vmRA, ↓vmSA, vmSV, tyS, nuE, SubA.skip, SubA.refl, fr.2, areDigits_v, panSum_v, rdigits_v, rsum_v, panLuhn_v, rLuhn_v, panCheck_v, rCheck_v, panCd_v, rCd_v, isPrefix_v, rMake_v, isLet_v, isId_v, isNm_v, isTm_v, rIsId_v, rIsNm_v, rDomain_v, nilProv_v, nilFind_v, nilRes_v, nilGet_v, nilChg_v, sc_int]
theorem nilSus_v (A_ : AH) : valA Tryd.prog 10 #[.pointer none, .string ⟨#[]⟩] A_ = some (.int .i64 6) := valA_eq (pureA_of (by kernel_rfl) (nilSus_h ))
theorem nilResu_h : CallA Tryd.prog 14 #[.pointer none, .string ⟨#[]⟩] [] (fun u_ _ => u_ = .int .i64 6) := by
  refine callA_of_denA ⟨Tryd.prog, 14, Tryd.f14, 9, [0, 1, 4], [], [], _⟩ (args := [_, _]) Tryd.func14 rfl (by kernel_rfl) Tryd.ntmps14 (by simp) (by kernel_rfl) ?_
  intro ν fr; have nuE := fr.nu
  simp (maxDischargeDepth := 16) only [argE_nil, argE_cons, ↓vmD, vmV, vmStd, Nat.reduceMul, ↓reduceIte, Nat.reduceAdd, Nat.reduceSub, Nat.reduceEqDiff, Nat.reduceLT, Nat.reduceLeDiff, reduceCtorEq, Int.reduceToNat, Int.reduceLT, Int.reduceLE, Int.reduceEq, Int.reduceNeg, Int.reduceBEq, Int.reduceBNe, String.reduceEq, forall_const, ↓vmDA, vmVA, ↓vmQA, vmR, vmRA, ↓vmSA, vmSV, tyS, nuE, SubA.skip, SubA.refl, fr.2, areDigits_v, panSum_v, rdigits_v, rsum_v, panLuhn_v, rLuhn_v, panCheck_v, rCheck_v, panCd_v, rCd_v, isPrefix_v, rMake_v, isLet_v, isId_v, isNm_v, isTm_v, rIsId_v, rIsNm_v, rDomain_v, nilProv_v, nilFind_v, nilRes_v, nilGet_v, nilChg_v, nilSus_v, sc_int]
theorem nilResu_v (A_ : AH) : valA Tryd.prog 14 #[.pointer none, .string ⟨#[]⟩] A_ = some (.int .i64 6) := valA_eq (pureA_of (by kernel_rfl) (nilResu_h ))
theorem nilDel_h : CallA Tryd.prog 13 #[.pointer none, .string ⟨#[]⟩] [] (fun u_ _ => u_ = .int .i64 6) := by
  refine callA_of_denA ⟨Tryd.prog, 13, Tryd.f13, 9, [0, 1, 4], [], [], _⟩ (args := [_, _]) Tryd.func13 rfl (by kernel_rfl) Tryd.ntmps13 (by simp) (by kernel_rfl) ?_
  intro ν fr; have nuE := fr.nu
  simp (maxDischargeDepth := 16) only [argE_nil, argE_cons, ↓vmD, vmV, vmStd, Nat.reduceMul, ↓reduceIte, Nat.reduceAdd, Nat.reduceSub, Nat.reduceEqDiff, Nat.reduceLT, Nat.reduceLeDiff, reduceCtorEq, Int.reduceToNat, Int.reduceLT, Int.reduceLE, Int.reduceEq, Int.reduceNeg, Int.reduceBEq, Int.reduceBNe, String.reduceEq, forall_const, ↓vmDA, vmVA, ↓vmQA, vmR, vmRA, ↓vmSA, vmSV, tyS, nuE, SubA.skip, SubA.refl, fr.2, areDigits_v, panSum_v, rdigits_v, rsum_v, panLuhn_v, rLuhn_v, panCheck_v, rCheck_v, panCd_v, rCd_v, isPrefix_v, rMake_v, isLet_v, isId_v, isNm_v, isTm_v, rIsId_v, rIsNm_v, rDomain_v, nilProv_v, nilFind_v, nilRes_v, nilGet_v, nilChg_v, nilSus_v, nilResu_v, sc_int2]
theorem nilDel_v (A_ : AH) : valA Tryd.prog 13 #[.pointer none, .string ⟨#[]⟩] A_ = some (.int .i64 6) := valA_eq (pureA_of (by kernel_rfl) (nilDel_h ))
theorem nilRepl_h : CallA Tryd.prog 15 #[.pointer none, .string ⟨#[]⟩, .string ⟨#[]⟩] [] (fun u_ _ => u_ = .int .i64 6) := by
  refine callA_of_denA ⟨Tryd.prog, 15, Tryd.f15, 29, [0, 1, 2, 6, 7, 8], [], [], _⟩ (args := [_, _, _]) Tryd.func15 rfl (by kernel_rfl) Tryd.ntmps15 (by simp) (by kernel_rfl) ?_
  intro ν fr; have nuE := fr.nu
  simp (maxDischargeDepth := 16) only [argE_nil, argE_cons, ↓vmD, vmV, vmStd, Nat.reduceMul, ↓reduceIte, Nat.reduceAdd, Nat.reduceSub, Nat.reduceEqDiff, Nat.reduceLT, Nat.reduceLeDiff, reduceCtorEq, Int.reduceToNat, Int.reduceLT, Int.reduceLE, Int.reduceEq, Int.reduceNeg, Int.reduceBEq, Int.reduceBNe, String.reduceEq, forall_const, ↓vmDA, vmVA, ↓vmQA, vmR, vmRA, ↓vmSA, vmSV, tyS, nuE, SubA.skip, SubA.refl, fr.2, areDigits_v, panSum_v, rdigits_v, rsum_v, panLuhn_v, rLuhn_v, panCheck_v, rCheck_v, panCd_v, rCd_v, isPrefix_v, rMake_v, isLet_v, isId_v, isNm_v, isTm_v, rIsId_v, rIsNm_v, rDomain_v, nilProv_v, nilFind_v, nilRes_v, nilGet_v, nilChg_v, nilSus_v, nilResu_v, nilDel_v]
theorem nilRepl_v (A_ : AH) : valA Tryd.prog 15 #[.pointer none, .string ⟨#[]⟩, .string ⟨#[]⟩] A_ = some (.int .i64 6) := valA_eq (pureA_of (by kernel_rfl) (nilRepl_h ))
theorem nilOf_h : CallA Tryd.prog 23 #[.pointer none, .string ⟨#[]⟩] [] (fun u_ _ => u_ = .slice none 0 0) := by
  refine callA_of_denA ⟨Tryd.prog, 23, Tryd.f23, 35, [0, 1, 4, 5, 7, 13, 14, 15], [], [], _⟩ (args := [_, _]) Tryd.func23 rfl (by kernel_rfl) Tryd.ntmps23 (by simp) (by kernel_rfl) ?_
  intro ν fr; have nuE := fr.nu
  simp (maxDischargeDepth := 16) only [argE_nil, argE_cons, ↓vmD, vmV, vmStd, Nat.reduceMul, ↓reduceIte, Nat.reduceAdd, Nat.reduceSub, Nat.reduceEqDiff, Nat.reduceLT, Nat.reduceLeDiff, reduceCtorEq, Int.reduceToNat, Int.reduceLT, Int.reduceLE, Int.reduceEq, Int.reduceNeg, Int.reduceBEq, Int.reduceBNe, String.reduceEq, forall_const, ↓vmDA, vmVA, ↓vmQA, vmR, vmRA, ↓vmSA, vmSV, tyS, nuE, SubA.skip, SubA.refl, fr.2, areDigits_v, panSum_v, rdigits_v, rsum_v, panLuhn_v, rLuhn_v, panCheck_v, rCheck_v, panCd_v, rCd_v, isPrefix_v, rMake_v, isLet_v, isId_v, isNm_v, isTm_v, rIsId_v, rIsNm_v, rDomain_v, nilProv_v, nilFind_v, nilRes_v, nilGet_v, nilChg_v, nilSus_v, nilResu_v, nilDel_v, nilRepl_v]
theorem nilOf_v (A_ : AH) : valA Tryd.prog 23 #[.pointer none, .string ⟨#[]⟩] A_ = some (.slice none 0 0) := valA_eq (pureA_of (by kernel_rfl) (nilOf_h ))
theorem nilIs_h : CallA Tryd.prog 12 #[.pointer none, .string ⟨#[]⟩] [] (fun u_ _ => u_ = .bool false) := by
  refine callA_of_denA ⟨Tryd.prog, 12, Tryd.f12, 29, [0, 1, 4], [], [], _⟩ (args := [_, _]) Tryd.func12 rfl (by kernel_rfl) Tryd.ntmps12 (by simp) (by kernel_rfl) ?_
  intro ν fr; have nuE := fr.nu
  simp (maxDischargeDepth := 16) only [argE_nil, argE_cons, ↓vmD, vmV, vmStd, Nat.reduceMul, ↓reduceIte, Nat.reduceAdd, Nat.reduceSub, Nat.reduceEqDiff, Nat.reduceLT, Nat.reduceLeDiff, reduceCtorEq, Int.reduceToNat, Int.reduceLT, Int.reduceLE, Int.reduceEq, Int.reduceNeg, Int.reduceBEq, Int.reduceBNe, String.reduceEq, forall_const, ↓vmDA, vmVA, ↓vmQA, vmR, vmRA, ↓vmSA, vmSV, tyS, nuE, SubA.skip, SubA.refl, fr.2, areDigits_v, panSum_v, rdigits_v, rsum_v, panLuhn_v, rLuhn_v, panCheck_v, rCheck_v, panCd_v, rCd_v, isPrefix_v, rMake_v, isLet_v, isId_v, isNm_v, isTm_v, rIsId_v, rIsNm_v, rDomain_v, nilProv_v, nilFind_v, nilRes_v, nilGet_v, nilChg_v, nilSus_v, nilResu_v, nilDel_v, nilRepl_v, nilOf_v]
theorem nilIs_v (A_ : AH) : valA Tryd.prog 12 #[.pointer none, .string ⟨#[]⟩] A_ = some (.bool false) := valA_eq (pureA_of (by kernel_rfl) (nilIs_h ))
theorem doY_two (p : List UInt8) (len : Nat) (L : List Tok) (x : DoT) (s : List UInt8) : ∃ a e, (doY p len L x s).1 = .tuple #[.string a, .int .i64 e] := by
  unfold doY
  split
  · exact provV_two _ _ _ _ _ _ _ _
  split
  · exact resV_two _ _ _ _ _
  repeat' split
  all_goals exact ⟨_, _, rfl⟩
theorem getV_two (L : List Tok) (s : List UInt8) : ∃ (y : Tok) (b : Bool), getV L s = .tuple #[.agg #[.string (bs y.tok), .string (bs y.pan), .string (bs y.req), .string (bs y.mer), .int .i64 y.unt, .int .i64 y.st, .int .i64 y.cr], .bool b] := by
  unfold getV
  split
  · exact ⟨⟨[], [], [], [], 0, 0, 0⟩, false, rfl⟩
  split
  · exact ⟨⟨[], [], [], [], 0, 0, 0⟩, false, rfl⟩
  · rename_i x _
    exact ⟨x, true, rfl⟩
theorem vaultLaw_h (A : AH) (hT : TabA A) (p : List UInt8) (len : Int) (L : List DoT) (q : Option Addr) (cap : Nat) (hL : StR doC 10 A q L) (hz : ∀ x ∈ L, SzT x) (hpk8 : ∀ x ∈ L, x.pick ≤ 255) (hl : L.length ≤ 9223372036854775807) : CallA Tryd.prog 5 #[.string (bs p), .int .i64 len, .slice q L.length cap] A (fun u_ A_ => u_ = .bool true ∧ SubA A A_) := by
  refine callA_of_denA ⟨Tryd.prog, 5, Tryd.f5, 230, [0, 1, 2, 6, 7, 8, 9, 10, 11, 12, 13, 14, 15, 16, 17, 18, 19, 20, 21, 22, 24, 26, 28], [7, 17, 18, 19, 23, 24], [(13, .q false)], _⟩ (args := [_, _, _]) Tryd.func5 rfl (by kernel_rfl) Tryd.ntmps5 (by simp) (by kernel_rfl) ?_
  intro ν fr; have nuE := fr.nu
  have aw := awk_w A hT
  have aw0 := aw A (SubA.refl _)
  have sv := short_v A L q cap hL hz hl
  by_cases h50 : 50 < p.length
  · have q50 : ((50 : Int) < (p.length : Int)) = True := eq_true (by omega)
    simp (maxDischargeDepth := 16) only [argE_nil, argE_cons, ↓vmD, vmV, vmStd, Nat.reduceMul, ↓reduceIte, Nat.reduceAdd, Nat.reduceSub, Nat.reduceEqDiff, Nat.reduceLT, Nat.reduceLeDiff, reduceCtorEq, Int.reduceToNat, Int.reduceLT, Int.reduceLE, Int.reduceEq, Int.reduceNeg, Int.reduceBEq, Int.reduceBNe, String.reduceEq, forall_const, ↓vmDA, vmVA, ↓vmQA, vmR, vmRA, ↓vmSA, vmSV, tyS, nuE, SubA.skip, SubA.refl, fr.2, areDigits_v, panSum_v, rdigits_v, rsum_v, panLuhn_v, rLuhn_v, panCheck_v, rCheck_v, panCd_v, rCd_v, isPrefix_v, rMake_v, isLet_v, isId_v, isNm_v, isTm_v, rIsId_v, rIsNm_v, rDomain_v, nilProv_v, nilFind_v, nilRes_v, nilGet_v, nilChg_v, nilSus_v, nilResu_v, nilDel_v, nilRepl_v, nilOf_v, nilIs_v, bs_size, q50, aw0]
  have q50 : ((50 : Int) < (p.length : Int)) = False := eq_false (by omega)
  cases hsh : shortB L with
  | false => simp (maxDischargeDepth := 16) only [argE_nil, argE_cons, ↓vmD, vmV, vmStd, Nat.reduceMul, ↓reduceIte, Nat.reduceAdd, Nat.reduceSub, Nat.reduceEqDiff, Nat.reduceLT, Nat.reduceLeDiff, reduceCtorEq, Int.reduceToNat, Int.reduceLT, Int.reduceLE, Int.reduceEq, Int.reduceNeg, Int.reduceBEq, Int.reduceBNe, String.reduceEq, forall_const, ↓vmDA, vmVA, ↓vmQA, vmR, vmRA, ↓vmSA, vmSV, tyS, nuE, SubA.skip, SubA.refl, fr.2, areDigits_v, panSum_v, rdigits_v, rsum_v, panLuhn_v, rLuhn_v, panCheck_v, rCheck_v, panCd_v, rCd_v, isPrefix_v, rMake_v, isLet_v, isId_v, isNm_v, isTm_v, rIsId_v, rIsNm_v, rDomain_v, nilProv_v, nilFind_v, nilRes_v, nilGet_v, nilChg_v, nilSus_v, nilResu_v, nilDel_v, nilRepl_v, nilOf_v, nilIs_v, bs_size, q50, sv, hsh, aw0]
  | true =>
  have h150 : L.length ≤ 150 := by unfold shortB at hsh; simp at hsh; exact hsh.2
  have h300 : ∀ x ∈ L, sumT x ≤ 300 := by unfold shortB at hsh; simp at hsh; exact hsh.1
  simp (maxDischargeDepth := 16) only [argE_nil, argE_cons, ↓vmD, vmV, vmStd, Nat.reduceMul, ↓reduceIte, Nat.reduceAdd, Nat.reduceSub, Nat.reduceEqDiff, Nat.reduceLT, Nat.reduceLeDiff, reduceCtorEq, Int.reduceToNat, Int.reduceLT, Int.reduceLE, Int.reduceEq, Int.reduceNeg, Int.reduceBEq, Int.reduceBNe, String.reduceEq, forall_const, ↓vmDA, vmVA, ↓vmQA, vmR, vmRA, ↓vmSA, vmSV, tyS, nuE, SubA.skip, SubA.refl, fr.2, areDigits_v, panSum_v, rdigits_v, rsum_v, panLuhn_v, rLuhn_v, panCheck_v, rCheck_v, panCd_v, rCd_v, isPrefix_v, rMake_v, isLet_v, isId_v, isNm_v, isTm_v, rIsId_v, rIsNm_v, rDomain_v, nilProv_v, nilFind_v, nilRes_v, nilGet_v, nilChg_v, nilSus_v, nilResu_v, nilDel_v, nilRepl_v, nilOf_v, nilIs_v, bs_size, q50, sv, hsh]
  cases hO : mkO p 0 len with
  | false =>
    refine CallA.keep0 (newP_h A hT p (by omega) len) (SubA.refl _) (fun v D h => ?_) (fun v D h => ?_)
    · rcases h with ⟨_, _, h⟩ | ⟨h, _⟩
      · exact sub_dom h
      · rw [hO] at h; cases h
    rcases h with ⟨_, rfl, h⟩ | ⟨h, _⟩
    rotate_left
    · rw [hO] at h; cases h
    intro ν1 fr1
    have fr := fr1
    have nuE := fr.nu
    simp (maxDischargeDepth := 16) only [argE_nil, argE_cons, ↓vmD, vmV, vmStd, Nat.reduceMul, ↓reduceIte, Nat.reduceAdd, Nat.reduceSub, Nat.reduceEqDiff, Nat.reduceLT, Nat.reduceLeDiff, reduceCtorEq, Int.reduceToNat, Int.reduceLT, Int.reduceLE, Int.reduceEq, Int.reduceNeg, Int.reduceBEq, Int.reduceBNe, String.reduceEq, forall_const, ↓vmDA, vmVA, ↓vmQA, vmR, vmRA, ↓vmSA, vmSV, tyS, nuE, SubA.skip, SubA.refl, fr.2, areDigits_v, panSum_v, rdigits_v, rsum_v, panLuhn_v, rLuhn_v, panCheck_v, rCheck_v, panCd_v, rCd_v, isPrefix_v, rMake_v, isLet_v, isId_v, isNm_v, isTm_v, rIsId_v, rIsNm_v, rDomain_v, nilProv_v, nilFind_v, nilRes_v, nilGet_v, nilChg_v, nilSus_v, nilResu_v, nilDel_v, nilRepl_v, nilOf_v, nilIs_v]
    refine CallA.keepX (X := D) (rnew_h p (by omega) len) (SubA.nil _) (SubA.refl _) (Dis.nil _) (fun v D h b hb => absurd rfl hb) (fun v D' h' dD => ?_)
    rcases h' with ⟨_, rfl⟩ | ⟨h', _⟩
    rotate_left
    · rw [hO] at h'; cases h'
    have sA : SubA A (D' ++ D) := SubA.trans h dD.right
    intro ν2 fr2
    have fr := fr2
    have nuE := fr.nu
    have hlq : ((0 : Int) < (L.length : Int)) = (0 < L.length) := propext ⟨fun h => by omega, fun h => by omega⟩
    simp (maxDischargeDepth := 16) only [argE_nil, argE_cons, ↓vmD, vmV, vmStd, Nat.reduceMul, ↓reduceIte, Nat.reduceAdd, Nat.reduceSub, Nat.reduceEqDiff, Nat.reduceLT, Nat.reduceLeDiff, reduceCtorEq, Int.reduceToNat, Int.reduceLT, Int.reduceLE, Int.reduceEq, Int.reduceNeg, Int.reduceBEq, Int.reduceBNe, String.reduceEq, forall_const, ↓vmDA, vmVA, ↓vmQA, vmR, vmRA, ↓vmSA, vmSV, tyS, nuE, SubA.skip, SubA.refl, fr.2, areDigits_v, panSum_v, rdigits_v, rsum_v, panLuhn_v, rLuhn_v, panCheck_v, rCheck_v, panCd_v, rCd_v, isPrefix_v, rMake_v, isLet_v, isId_v, isNm_v, isTm_v, rIsId_v, rIsNm_v, rDomain_v, nilProv_v, nilFind_v, nilRes_v, nilGet_v, nilChg_v, nilSus_v, nilResu_v, nilDel_v, nilRepl_v, nilOf_v, nilIs_v]
    refine LoopA.intro (by kernel_rfl) ?_
    intro ν fr; have nuE := fr.nu
    have f0 := fr.2 0
    have aw1 := aw _ (SubA.fresh (o := (Obj.cells #[.string ⟨#[]⟩, .string ⟨#[]⟩, .string ⟨#[]⟩, .string ⟨#[]⟩, .int .i64 0, .int .i64 0, .int .i64 0] 53)) f0 sA)
    by_cases h0 : 0 < L.length
    · simp (maxDischargeDepth := 16) only [argE_nil, argE_cons, ↓vmD, vmV, vmStd, Nat.reduceMul, ↓reduceIte, Nat.reduceAdd, Nat.reduceSub, Nat.reduceEqDiff, Nat.reduceLT, Nat.reduceLeDiff, reduceCtorEq, Int.reduceToNat, Int.reduceLT, Int.reduceLE, Int.reduceEq, Int.reduceNeg, Int.reduceBEq, Int.reduceBNe, String.reduceEq, forall_const, ↓vmDA, vmVA, ↓vmQA, vmR, vmRA, ↓vmSA, vmSV, tyS, nuE, SubA.skip, SubA.refl, fr.2, areDigits_v, panSum_v, rdigits_v, rsum_v, panLuhn_v, rLuhn_v, panCheck_v, rCheck_v, panCd_v, rCd_v, isPrefix_v, rMake_v, isLet_v, isId_v, isNm_v, isTm_v, rIsId_v, rIsNm_v, rDomain_v, nilProv_v, nilFind_v, nilRes_v, nilGet_v, nilChg_v, nilSus_v, nilResu_v, nilDel_v, nilRepl_v, nilOf_v, nilIs_v, hlq, h0]
      refine CallA.of_pure (valA_out (nilOf_v _)) ?_
      intro ν9 fr9
      have fr := fr9
      have nuE := fr.nu
      simp (maxDischargeDepth := 16) only [argE_nil, argE_cons, ↓vmD, vmV, vmStd, Nat.reduceMul, ↓reduceIte, Nat.reduceAdd, Nat.reduceSub, Nat.reduceEqDiff, Nat.reduceLT, Nat.reduceLeDiff, reduceCtorEq, Int.reduceToNat, Int.reduceLT, Int.reduceLE, Int.reduceEq, Int.reduceNeg, Int.reduceBEq, Int.reduceBNe, String.reduceEq, forall_const, ↓vmDA, vmVA, ↓vmQA, vmR, vmRA, ↓vmSA, vmSV, tyS, nuE, SubA.skip, SubA.refl, fr.2, areDigits_v, panSum_v, rdigits_v, rsum_v, panLuhn_v, rLuhn_v, panCheck_v, rCheck_v, panCd_v, rCd_v, isPrefix_v, rMake_v, isLet_v, isId_v, isNm_v, isTm_v, rIsId_v, rIsNm_v, rDomain_v, nilProv_v, nilFind_v, nilRes_v, nilGet_v, nilChg_v, nilSus_v, nilResu_v, nilDel_v, nilRepl_v, nilOf_v, nilIs_v, aw1]
      exact SubA.fresh f0 sA
    · simp (maxDischargeDepth := 16) only [argE_nil, argE_cons, ↓vmD, vmV, vmStd, Nat.reduceMul, ↓reduceIte, Nat.reduceAdd, Nat.reduceSub, Nat.reduceEqDiff, Nat.reduceLT, Nat.reduceLeDiff, reduceCtorEq, Int.reduceToNat, Int.reduceLT, Int.reduceLE, Int.reduceEq, Int.reduceNeg, Int.reduceBEq, Int.reduceBNe, String.reduceEq, forall_const, ↓vmDA, vmVA, ↓vmQA, vmR, vmRA, ↓vmSA, vmSV, tyS, nuE, SubA.skip, SubA.refl, fr.2, areDigits_v, panSum_v, rdigits_v, rsum_v, panLuhn_v, rLuhn_v, panCheck_v, rCheck_v, panCd_v, rCd_v, isPrefix_v, rMake_v, isLet_v, isId_v, isNm_v, isTm_v, rIsId_v, rIsNm_v, rDomain_v, nilProv_v, nilFind_v, nilRes_v, nilGet_v, nilChg_v, nilSus_v, nilResu_v, nilDel_v, nilRepl_v, nilOf_v, nilIs_v, hlq, h0]
      refine CallA.of_pure (valA_out (nilOf_v _)) ?_
      intro ν9 fr9
      have fr := fr9
      have nuE := fr.nu
      simp (maxDischargeDepth := 16) only [argE_nil, argE_cons, ↓vmD, vmV, vmStd, Nat.reduceMul, ↓reduceIte, Nat.reduceAdd, Nat.reduceSub, Nat.reduceEqDiff, Nat.reduceLT, Nat.reduceLeDiff, reduceCtorEq, Int.reduceToNat, Int.reduceLT, Int.reduceLE, Int.reduceEq, Int.reduceNeg, Int.reduceBEq, Int.reduceBNe, String.reduceEq, forall_const, ↓vmDA, vmVA, ↓vmQA, vmR, vmRA, ↓vmSA, vmSV, tyS, nuE, SubA.skip, SubA.refl, fr.2, areDigits_v, panSum_v, rdigits_v, rsum_v, panLuhn_v, rLuhn_v, panCheck_v, rCheck_v, panCd_v, rCd_v, isPrefix_v, rMake_v, isLet_v, isId_v, isNm_v, isTm_v, rIsId_v, rIsNm_v, rDomain_v, nilProv_v, nilFind_v, nilRes_v, nilGet_v, nilChg_v, nilSus_v, nilResu_v, nilDel_v, nilRepl_v, nilOf_v, nilIs_v, aw1]
      exact SubA.fresh f0 sA
  | true =>
    refine New.use (X := []) hO (newP_h A hT p (by omega) len) (SubA.refl _) (SubA.nil _) (fun x hx => absurd rfl hx) ?_
    intro vb E0 hE0 d0 _
    rw [List.append_nil]
    intro ν1 fr1
    have fr := fr1
    have nuE := fr.nu
    simp (maxDischargeDepth := 16) only [argE_nil, argE_cons, ↓vmD, vmV, vmStd, Nat.reduceMul, ↓reduceIte, Nat.reduceAdd, Nat.reduceSub, Nat.reduceEqDiff, Nat.reduceLT, Nat.reduceLeDiff, reduceCtorEq, Int.reduceToNat, Int.reduceLT, Int.reduceLE, Int.reduceEq, Int.reduceNeg, Int.reduceBEq, Int.reduceBNe, String.reduceEq, forall_const, ↓vmDA, vmVA, ↓vmQA, vmR, vmRA, ↓vmSA, vmSV, tyS, nuE, SubA.skip, SubA.refl, fr.2, areDigits_v, panSum_v, rdigits_v, rsum_v, panLuhn_v, rLuhn_v, panCheck_v, rCheck_v, panCd_v, rCd_v, isPrefix_v, rMake_v, isLet_v, isId_v, isNm_v, isTm_v, rIsId_v, rIsNm_v, rDomain_v, nilProv_v, nilFind_v, nilRes_v, nilGet_v, nilChg_v, nilSus_v, nilResu_v, nilDel_v, nilRepl_v, nilOf_v, nilIs_v]
    refine CallA.keepX (X := E0 ++ A) (rnew_h p (by omega) len) (SubA.nil _) (SubA.refl _) (Dis.nil _) (fun v D h b hb => absurd rfl hb) (fun v D' h' dD => ?_)
    rcases h' with ⟨h', _⟩ | ⟨_, rb, R0, rfl, hR0, hs0⟩
    · rw [hO] at h'; cases h'
    have spI : Sep [E0, R0, A] := (Sep.cons (x := R0) (l := [E0, A]) (dD.subl hs0) (Sep.cons d0 (Sep.one A))).pick [1, 0, 2] rfl rfl
    have sI : SubA (cat [E0, R0, A]) (D' ++ (E0 ++ A)) := SubA.trans ((Sep.cons (x := R0) (l := [E0, A]) (dD.subl hs0) (Sep.cons d0 (Sep.one A))).subs [1, 0, 2] rfl) (SubA.app2 hs0 dD)
    intro ν2 fr2
    have fr := fr2
    have nuE := fr.nu
    simp (maxDischargeDepth := 16) only [argE_nil, argE_cons, ↓vmD, vmV, vmStd, Nat.reduceMul, ↓reduceIte, Nat.reduceAdd, Nat.reduceSub, Nat.reduceEqDiff, Nat.reduceLT, Nat.reduceLeDiff, reduceCtorEq, Int.reduceToNat, Int.reduceLT, Int.reduceLE, Int.reduceEq, Int.reduceNeg, Int.reduceBEq, Int.reduceBNe, String.reduceEq, forall_const, ↓vmDA, vmVA, ↓vmQA, vmR, vmRA, ↓vmSA, vmSV, tyS, nuE, SubA.skip, SubA.refl, fr.2, areDigits_v, panSum_v, rdigits_v, rsum_v, panLuhn_v, rLuhn_v, panCheck_v, rCheck_v, panCd_v, rCd_v, isPrefix_v, rMake_v, isLet_v, isId_v, isNm_v, isTm_v, rIsId_v, rIsNm_v, rDomain_v, nilProv_v, nilFind_v, nilRes_v, nilGet_v, nilChg_v, nilSus_v, nilResu_v, nilDel_v, nilRepl_v, nilOf_v, nilIs_v]
    obtain ⟨ln, hln⟩ : ∃ ln, ln = len.toNat := ⟨_, rfl⟩
    rw [← hln] at hE0 hR0
    obtain ⟨e, l, T, E, R, he, hd, hET, hE, hR, sp, hEE, hRR⟩ : ∃ (e : Nat) (l : List DoT) (T : List Tok) (E R : AH), e = 0 ∧ l = L.drop e ∧ T = [] ∧ VauP E vb p ln T ∧ VauR R rb p ln T ∧ Sep [E, R, A] ∧ E = E0 ∧ R = R0 :=
      ⟨0, L, [], E0, R0, rfl, rfl, rfl, hE0, hR0, spI, rfl, rfl⟩
    rw [show (11, some (Value.int .i64 0)) = (11, some (Value.int .i64 (e : Int))) by rw [he]; rfl]
    refine LoopA.at (A := cat [E, R, A]) (by rw [hEE, hRR]; exact sI) ?_
    clear he hET hEE hRR hE0 hR0 spI sI d0 dD hs0 nuE fr fr1 fr2
    simp only [cat]
    induction l generalizing e T E R with
    | nil =>
      have hle := drop_nil hd
      have lt : ((e : Int) < (L.length : Int)) = False := eq_false (by omega)
      have sA : SubA A (E ++ (R ++ A)) := sp.subs [2] rfl
      refine LoopA.intro (by kernel_rfl) ?_
      intro ν fr; have nuE := fr.nu
      have f0 := fr.2 0
      have aw1 := aw _ (SubA.fresh (o := (Obj.cells #[.string ⟨#[]⟩, .string ⟨#[]⟩, .string ⟨#[]⟩, .string ⟨#[]⟩, .int .i64 0, .int .i64 0, .int .i64 0] 53)) f0 sA)
      simp (maxDischargeDepth := 16) only [argE_nil, argE_cons, ↓vmD, vmV, vmStd, Nat.reduceMul, ↓reduceIte, Nat.reduceAdd, Nat.reduceSub, Nat.reduceEqDiff, Nat.reduceLT, Nat.reduceLeDiff, reduceCtorEq, Int.reduceToNat, Int.reduceLT, Int.reduceLE, Int.reduceEq, Int.reduceNeg, Int.reduceBEq, Int.reduceBNe, String.reduceEq, forall_const, ↓vmDA, vmVA, ↓vmQA, vmR, vmRA, ↓vmSA, vmSV, tyS, nuE, SubA.skip, SubA.refl, fr.2, areDigits_v, panSum_v, rdigits_v, rsum_v, panLuhn_v, rLuhn_v, panCheck_v, rCheck_v, panCd_v, rCd_v, isPrefix_v, rMake_v, isLet_v, isId_v, isNm_v, isTm_v, rIsId_v, rIsNm_v, rDomain_v, nilProv_v, nilFind_v, nilRes_v, nilGet_v, nilChg_v, nilSus_v, nilResu_v, nilDel_v, nilRepl_v, nilOf_v, nilIs_v, lt]
      refine CallA.of_pure (valA_out (nilOf_v _)) ?_
      intro ν9 fr9
      have fr := fr9
      have nuE := fr.nu
      simp (maxDischargeDepth := 16) only [argE_nil, argE_cons, ↓vmD, vmV, vmStd, Nat.reduceMul, ↓reduceIte, Nat.reduceAdd, Nat.reduceSub, Nat.reduceEqDiff, Nat.reduceLT, Nat.reduceLeDiff, reduceCtorEq, Int.reduceToNat, Int.reduceLT, Int.reduceLE, Int.reduceEq, Int.reduceNeg, Int.reduceBEq, Int.reduceBNe, String.reduceEq, forall_const, ↓vmDA, vmVA, ↓vmQA, vmR, vmRA, ↓vmSA, vmSV, tyS, nuE, SubA.skip, SubA.refl, fr.2, areDigits_v, panSum_v, rdigits_v, rsum_v, panLuhn_v, rLuhn_v, panCheck_v, rCheck_v, panCd_v, rCd_v, isPrefix_v, rMake_v, isLet_v, isId_v, isNm_v, isTm_v, rIsId_v, rIsNm_v, rDomain_v, nilProv_v, nilFind_v, nilRes_v, nilGet_v, nilChg_v, nilSus_v, nilResu_v, nilDel_v, nilRepl_v, nilOf_v, nilIs_v, aw1]
      exact SubA.fresh f0 sA
    | cons x l ih =>
      obtain ⟨ha, hlt, hd'⟩ := drop_some hd
      have lt : ((e : Int) < (L.length : Int)) = True := eq_true (by omega)
      have we : IntKind.i64.wrap ((e : Int) + 1) = ((e + 1 : Nat) : Int) := by rw [w_i64 (by omega) (by omega)]; omega
      obtain ⟨bk, off, cs, ty, fr0, hp0, hbk, hcr, hcc⟩ := hL.at ha
      subst hp0
      have hm : x ∈ L := List.mem_of_getElem? ha
      have h3 := h300 x hm
      unfold sumT at h3
      have sA : SubA A (E ++ (R ++ A)) := sp.subs [2] rfl
      have lbk := sA _ _ hbk
      obtain ⟨rq, rcap, lr, hrs, hok⟩ := hR.out
      have sR0 : SubA R (E ++ (R ++ A)) := sp.subs [1] rfl
      have lr2 := sR0 _ _ lr
      refine LoopA.intro (by kernel_rfl) ?_
      intro ν fr; have nuE := fr.nu
      have f0 := fr.2 0
      have nrb := fr.ne (b := rb) (by rw [lr2]; simp)
      have sp0 : Sep [[(ν 0, (Obj.cells #[.int .u8 (x.kind : Int), .int .u8 (x.pick : Int), .string (bs x.num), .string (bs x.tok), .string (bs x.req), .string (bs x.mer), .string (bs x.dq), .string (bs x.dm), .int .i64 x.unt, .int .i64 x.at_] 48))], E, R, A] := Sep.fresh (by simpa [cat] using f0) _ sp
      by_cases hpk : x.pick ≠ 0 ∧ 0 < T.length
      · obtain ⟨y0, hy0⟩ : ∃ y, T[x.pick % T.length]? = some y := ⟨_, List.getElem?_eq_getElem (Nat.mod_lt _ hpk.2)⟩
        have q1 : ((x.pick : Int) != 0) = true := by simp; omega
        have q2 : ((0 : Int) < (T.length : Int)) = True := eq_true (by omega)
        have q3 : IntKind.i64.wrap (x.pick : Int) = (x.pick : Int) := by have := hpk8 x hm; exact w_i64 (by omega) (by omega)
        have q4 : ((x.pick : Int)).tmod (T.length : Int) = ((x.pick % T.length : Nat) : Int) := by rw [Int.tmod_eq_emod_of_nonneg (by omega)]; omega
        obtain ⟨bt, ot, ct, tt, ft, hpt, hbt, hct, hcct⟩ := hrs.at hy0
        subst hpt
        have lbt := sR0 _ _ hbt
        have k0 : ct[ot + x.pick % T.length * 7]? = some (.string (bs y0.tok)) := hcct 0 _ rfl
        have nbt := fr.ne (b := bt) (by rw [lbt]; simp)
        have nz : ((T.length : Int) = 0) = False := eq_false (by omega)
        have q5 : ((x.pick % T.length : Nat) : Int) < (T.length : Int) := by have := Nat.mod_lt x.pick hpk.2; omega
        have q6 : (0 : Int) ≤ ((x.pick % T.length : Nat) : Int) := by omega
        simp (maxDischargeDepth := 16) only [argE_nil, argE_cons, ↓vmD, vmV, vmStd, Nat.reduceMul, ↓reduceIte, Nat.reduceAdd, Nat.reduceSub, Nat.reduceEqDiff, Nat.reduceLT, Nat.reduceLeDiff, reduceCtorEq, Int.reduceToNat, Int.reduceLT, Int.reduceLE, Int.reduceEq, Int.reduceNeg, Int.reduceBEq, Int.reduceBNe, String.reduceEq, forall_const, ↓vmDA, vmVA, ↓vmQA, vmR, vmRA, ↓vmSA, vmSV, tyS, nuE, SubA.skip, SubA.refl, fr.2, areDigits_v, panSum_v, rdigits_v, rsum_v, panLuhn_v, rLuhn_v, panCheck_v, rCheck_v, panCd_v, rCd_v, isPrefix_v, rMake_v, isLet_v, isId_v, isNm_v, isTm_v, rIsId_v, rIsNm_v, rDomain_v, nilProv_v, nilFind_v, nilRes_v, nilGet_v, nilChg_v, nilSus_v, nilResu_v, nilDel_v, nilRepl_v, nilOf_v, nilIs_v, lt, lbk, hcr, doC, q1, q2, q3, q4, nz, q5, q6, nrb, lr2, nbt, lbt, k0]
        generalize ν 0 = n at *
        refine VauP.use (X := cat [[(n, (Obj.cells #[.int .u8 (x.kind : Int), .int .u8 (x.pick : Int), .string (bs x.num), .string (bs x.tok), .string (bs x.req), .string (bs x.mer), .string (bs x.dq), .string (bs x.dm), .int .i64 x.unt, .int .i64 x.at_] 48))], R]) (callP_h E A (sp.pick [0, 2] rfl rfl).dis hT vb p ln T hE x y0.tok (by omega) (by omega) (by omega)) (sp0.subs [1, 3] rfl) (sp0.subs [0, 2] rfl) ((sp0.pick [1, 0, 2] rfl rfl).dis.app (sp0.pick [3, 0, 2] rfl rfl).dis) ?_
        intro E1 hE1 d1 dx1
        rw [List.append_assoc]
        have sp1 : Sep [E1, A, [(n, (Obj.cells #[.int .u8 (x.kind : Int), .int .u8 (x.pick : Int), .string (bs x.num), .string (bs x.tok), .string (bs x.req), .string (bs x.mer), .string (bs x.dq), .string (bs x.dm), .int .i64 x.unt, .int .i64 x.at_] 48))], R] := Sep.cons (Dis.appr d1 (dx1.subl (SubA.left E1 A))) (Sep.cons (dx1.subl d1.right) (sp0.pick [0, 2] rfl rfl))
        obtain ⟨a, er, hv⟩ := doY_two p ln T x y0.tok
        rw [hv]
        have lk1 : Vm.look (E1 ++ (A ++ cat [[(n, (Obj.cells #[.int .u8 (x.kind : Int), .int .u8 (x.pick : Int), .string (bs x.num), .string (bs x.tok), .string (bs x.req), .string (bs x.mer), .string (bs x.dq), .string (bs x.dm), .int .i64 x.unt, .int .i64 x.at_] 48))], R])) n = some (Obj.cells #[.int .u8 (x.kind : Int), .int .u8 (x.pick : Int), .string (bs x.num), .string (bs x.tok), .string (bs x.req), .string (bs x.mer), .string (bs x.dq), .string (bs x.dm), .int .i64 x.unt, .int .i64 x.at_] 48) := sp1.sub [(n, (Obj.cells #[.int .u8 (x.kind : Int), .int .u8 (x.pick : Int), .string (bs x.num), .string (bs x.tok), .string (bs x.req), .string (bs x.mer), .string (bs x.dq), .string (bs x.dm), .int .i64 x.unt, .int .i64 x.at_] 48))] (by simp) _ _ (by simp [Vm.look])
        intro ν1 fr1
        have fr := fr1
        have nuE := fr.nu
        simp (maxDischargeDepth := 16) only [argE_nil, argE_cons, ↓vmD, vmV, vmStd, Nat.reduceMul, ↓reduceIte, Nat.reduceAdd, Nat.reduceSub, Nat.reduceEqDiff, Nat.reduceLT, Nat.reduceLeDiff, reduceCtorEq, Int.reduceToNat, Int.reduceLT, Int.reduceLE, Int.reduceEq, Int.reduceNeg, Int.reduceBEq, Int.reduceBNe, String.reduceEq, forall_const, ↓vmDA, vmVA, ↓vmQA, vmR, vmRA, ↓vmSA, vmSV, tyS, nuE, SubA.skip, SubA.refl, fr.2, areDigits_v, panSum_v, rdigits_v, rsum_v, panLuhn_v, rLuhn_v, panCheck_v, rCheck_v, panCd_v, rCd_v, isPrefix_v, rMake_v, isLet_v, isId_v, isNm_v, isTm_v, rIsId_v, rIsNm_v, rDomain_v, nilProv_v, nilFind_v, nilRes_v, nilGet_v, nilChg_v, nilSus_v, nilResu_v, nilDel_v, nilRepl_v, nilOf_v, nilIs_v, lk1]
        refine VauR.use (X := cat [E1, A, [(n, (Obj.cells #[.int .u8 (x.kind : Int), .int .u8 (x.pick : Int), .string (bs x.num), .string (bs x.tok), .string (bs x.req), .string (bs x.mer), .string (bs x.dq), .string (bs x.dm), .int .i64 x.unt, .int .i64 x.at_] 48))]]) (byR_h R rb p ln T hR x y0.tok (by omega) (by omega) (by omega)) (sp1.subs [3] rfl) (sp1.subs [0, 1, 2] rfl) (sp1.pick [3, 0, 1, 2] rfl rfl).dis ?_
        intro R1 hR1 dr1
        rw [hv]
        have sp2 : Sep [R1, E1, A, [(n, (Obj.cells #[.int .u8 (x.kind : Int), .int .u8 (x.pick : Int), .string (bs x.num), .string (bs x.tok), .string (bs x.req), .string (bs x.mer), .string (bs x.dq), .string (bs x.dm), .int .i64 x.unt, .int .i64 x.at_] 48))]] := Sep.cons dr1 (sp1.pick [0, 1, 2] rfl rfl)
        have lk2 : Vm.look (R1 ++ cat [E1, A, [(n, (Obj.cells #[.int .u8 (x.kind : Int), .int .u8 (x.pick : Int), .string (bs x.num), .string (bs x.tok), .string (bs x.req), .string (bs x.mer), .string (bs x.dq), .string (bs x.dm), .int .i64 x.unt, .int .i64 x.at_] 48))]]) n = some (Obj.cells #[.int .u8 (x.kind : Int), .int .u8 (x.pick : Int), .string (bs x.num), .string (bs x.tok), .string (bs x.req), .string (bs x.mer), .string (bs x.dq), .string (bs x.dm), .int .i64 x.unt, .int .i64 x.at_] 48) := sp2.sub [(n, (Obj.cells #[.int .u8 (x.kind : Int), .int .u8 (x.pick : Int), .string (bs x.num), .string (bs x.tok), .string (bs x.req), .string (bs x.mer), .string (bs x.dq), .string (bs x.dm), .int .i64 x.unt, .int .i64 x.at_] 48))] (by simp) _ _ (by simp [Vm.look])
        have sE : SubA E1 (R1 ++ cat [E1, A, [(n, (Obj.cells #[.int .u8 (x.kind : Int), .int .u8 (x.pick : Int), .string (bs x.num), .string (bs x.tok), .string (bs x.req), .string (bs x.mer), .string (bs x.dq), .string (bs x.dm), .int .i64 x.unt, .int .i64 x.at_] 48))]]) := sp2.subs [1] rfl
        have sR : SubA R1 (R1 ++ cat [E1, A, [(n, (Obj.cells #[.int .u8 (x.kind : Int), .int .u8 (x.pick : Int), .string (bs x.num), .string (bs x.tok), .string (bs x.req), .string (bs x.mer), .string (bs x.dq), .string (bs x.dm), .int .i64 x.unt, .int .i64 x.at_] 48))]]) := sp2.subs [0] rfl
        have sERA : SubA (cat [E1, R1, A]) (R1 ++ cat [E1, A, [(n, (Obj.cells #[.int .u8 (x.kind : Int), .int .u8 (x.pick : Int), .string (bs x.num), .string (bs x.tok), .string (bs x.req), .string (bs x.mer), .string (bs x.dq), .string (bs x.dm), .int .i64 x.unt, .int .i64 x.at_] 48))]]) := sp2.subs [1, 0, 2] rfl
        have spN : Sep [E1, R1, A] := sp2.pick [1, 0, 2] rfl rfl
        generalize R1 ++ cat [E1, A, [(n, (Obj.cells #[.int .u8 (x.kind : Int), .int .u8 (x.pick : Int), .string (bs x.num), .string (bs x.tok), .string (bs x.req), .string (bs x.mer), .string (bs x.dq), .string (bs x.dm), .int .i64 x.unt, .int .i64 x.at_] 48))]] = Q at lk2 sE sR sERA ⊢
        generalize (doY p ln T x y0.tok).2 = T1 at hE1 hR1
        obtain ⟨y, b, hg⟩ := getV_two T1 y0.tok
        intro ν2 fr2
        have fr := fr2
        have nuE := fr.nu
        have g1 := getP_w E1 vb p ln T1 hE1 y0.tok Q sE
        have g2 := rGet_w R1 rb p ln T1 hR1 y0.tok _ (SubA.fresh (o := (Obj.cells #[.string (bs y.tok), .string (bs y.pan), .string (bs y.req), .string (bs y.mer), .int .i64 y.unt, .int .i64 y.st, .int .i64 y.cr] 53)) (fr2.2 0) sR)
        rw [hg] at g1 g2
        have nn := fr2.ne (b := n) (by rw [lk2]; simp)
        simp (maxDischargeDepth := 16) only [argE_nil, argE_cons, ↓vmD, vmV, vmStd, Nat.reduceMul, ↓reduceIte, Nat.reduceAdd, Nat.reduceSub, Nat.reduceEqDiff, Nat.reduceLT, Nat.reduceLeDiff, reduceCtorEq, Int.reduceToNat, Int.reduceLT, Int.reduceLE, Int.reduceEq, Int.reduceNeg, Int.reduceBEq, Int.reduceBNe, String.reduceEq, forall_const, ↓vmDA, vmVA, ↓vmQA, vmR, vmRA, ↓vmSA, vmSV, tyS, nuE, SubA.skip, SubA.refl, fr.2, areDigits_v, panSum_v, rdigits_v, rsum_v, panLuhn_v, rLuhn_v, panCheck_v, rCheck_v, panCd_v, rCd_v, isPrefix_v, rMake_v, isLet_v, isId_v, isNm_v, isTm_v, rIsId_v, rIsNm_v, rDomain_v, nilProv_v, nilFind_v, nilRes_v, nilGet_v, nilChg_v, nilSus_v, nilResu_v, nilDel_v, nilRepl_v, nilOf_v, nilIs_v, g1, g2]
        have f0' := fr2.2 0
        have f1' : Vm.look ((ν2 0, (Obj.cells #[.string (bs y.tok), .string (bs y.pan), .string (bs y.req), .string (bs y.mer), .int .i64 y.unt, .int .i64 y.st, .int .i64 y.cr] 53)) :: Q) (ν2 1) = none := by simp (maxDischargeDepth := 16) only [argE_nil, argE_cons, ↓vmD, vmV, vmStd, Nat.reduceMul, ↓reduceIte, Nat.reduceAdd, Nat.reduceSub, Nat.reduceEqDiff, Nat.reduceLT, Nat.reduceLeDiff, reduceCtorEq, Int.reduceToNat, Int.reduceLT, Int.reduceLE, Int.reduceEq, Int.reduceNeg, Int.reduceBEq, Int.reduceBNe, String.reduceEq, forall_const, ↓vmDA, vmVA, ↓vmQA, vmR, vmRA, ↓vmSA, vmSV, tyS, nuE, SubA.skip, SubA.refl, fr.2, areDigits_v, panSum_v, rdigits_v, rsum_v, panLuhn_v, rLuhn_v, panCheck_v, rCheck_v, panCd_v, rCd_v, isPrefix_v, rMake_v, isLet_v, isId_v, isNm_v, isTm_v, rIsId_v, rIsNm_v, rDomain_v, nilProv_v, nilFind_v, nilRes_v, nilGet_v, nilChg_v, nilSus_v, nilResu_v, nilDel_v, nilRepl_v, nilOf_v, nilIs_v, fr2.2]
        have sQ : SubA Q ((ν2 1, (Obj.cells #[.string (bs y.tok), .string (bs y.pan), .string (bs y.req), .string (bs y.mer), .int .i64 y.unt, .int .i64 y.st, .int .i64 y.cr] 53)) :: (ν2 0, (Obj.cells #[.string (bs y.tok), .string (bs y.pan), .string (bs y.req), .string (bs y.mer), .int .i64 y.unt, .int .i64 y.st, .int .i64 y.cr] 53)) :: Q) := SubA.fresh f1' (SubA.fresh f0' (SubA.refl _))
        refine MeantA.plan [(0, 0), (1, 0), (2, 0), (3, 0), (4, 0), (5, 0), (6, 0), (7, 0), (8, 0), (9, 0), (10, 0), (11, 0), (12, 0), (13, 0), (14, 0), (15, 0), (16, 0), (17, 0), (18, 0), (19, 0), (20, 0), (21, 0), (23, 0), (24, 0), (25, 0), (22, 0), (26, 1), (27, 0), (28, 0), (29, 0), (30, 0), (31, 0), (32, 0), (33, 0), (34, 0), (35, 0), (36, 0), (37, 0), (38, 0), (39, 0), (40, 0)] ((ν2 1, (Obj.cells #[.string (bs y.tok), .string (bs y.pan), .string (bs y.req), .string (bs y.mer), .int .i64 y.unt, .int .i64 y.st, .int .i64 y.cr] 53)) :: (ν2 0, (Obj.cells #[.string (bs y.tok), .string (bs y.pan), .string (bs y.req), .string (bs y.mer), .int .i64 y.unt, .int .i64 y.st, .int .i64 y.cr] 53)) :: Q) (SubA.refl _) (by kernel_rfl) (by kernel_rfl) (by kernel_rfl) (by kernel_rfl) (by kernel_rfl) (by kernel_rfl) ?_
        generalize hQ : (ν2 1, (Obj.cells #[.string (bs y.tok), .string (bs y.pan), .string (bs y.req), .string (bs y.mer), .int .i64 y.unt, .int .i64 y.st, .int .i64 y.cr] 53)) :: (ν2 0, (Obj.cells #[.string (bs y.tok), .string (bs y.pan), .string (bs y.req), .string (bs y.mer), .int .i64 y.unt, .int .i64 y.st, .int .i64 y.cr] 53)) :: Q = Q2 at sQ ⊢
        have t0 : Vm.look Q2 (ν2 0) = some (Obj.cells #[.string (bs y.tok), .string (bs y.pan), .string (bs y.req), .string (bs y.mer), .int .i64 y.unt, .int .i64 y.st, .int .i64 y.cr] 53) := by rw [← hQ]; simp (maxDischargeDepth := 16) only [argE_nil, argE_cons, ↓vmD, vmV, vmStd, Nat.reduceMul, ↓reduceIte, Nat.reduceAdd, Nat.reduceSub, Nat.reduceEqDiff, Nat.reduceLT, Nat.reduceLeDiff, reduceCtorEq, Int.reduceToNat, Int.reduceLT, Int.reduceLE, Int.reduceEq, Int.reduceNeg, Int.reduceBEq, Int.reduceBNe, String.reduceEq, forall_const, ↓vmDA, vmVA, ↓vmQA, vmR, vmRA, ↓vmSA, vmSV, tyS, nuE, SubA.skip, SubA.refl, fr.2, areDigits_v, panSum_v, rdigits_v, rsum_v, panLuhn_v, rLuhn_v, panCheck_v, rCheck_v, panCd_v, rCd_v, isPrefix_v, rMake_v, isLet_v, isId_v, isNm_v, isTm_v, rIsId_v, rIsNm_v, rDomain_v, nilProv_v, nilFind_v, nilRes_v, nilGet_v, nilChg_v, nilSus_v, nilResu_v, nilDel_v, nilRepl_v, nilOf_v, nilIs_v]
        have t1 : Vm.look Q2 (ν2 1) = some (Obj.cells #[.string (bs y.tok), .string (bs y.pan), .string (bs y.req), .string (bs y.mer), .int .i64 y.unt, .int .i64 y.st, .int .i64 y.cr] 53) := by rw [← hQ]; simp (maxDischargeDepth := 16) only [argE_nil, argE_cons, ↓vmD, vmV, vmStd, Nat.reduceMul, ↓reduceIte, Nat.reduceAdd, Nat.reduceSub, Nat.reduceEqDiff, Nat.reduceLT, Nat.reduceLeDiff, reduceCtorEq, Int.reduceToNat, Int.reduceLT, Int.reduceLE, Int.reduceEq, Int.reduceNeg, Int.reduceBEq, Int.reduceBNe, String.reduceEq, forall_const, ↓vmDA, vmVA, ↓vmQA, vmR, vmRA, ↓vmSA, vmSV, tyS, nuE, SubA.skip, SubA.refl, fr.2, areDigits_v, panSum_v, rdigits_v, rsum_v, panLuhn_v, rLuhn_v, panCheck_v, rCheck_v, panCd_v, rCd_v, isPrefix_v, rMake_v, isLet_v, isId_v, isNm_v, isTm_v, rIsId_v, rIsNm_v, rDomain_v, nilProv_v, nilFind_v, nilRes_v, nilGet_v, nilChg_v, nilSus_v, nilResu_v, nilDel_v, nilRepl_v, nilOf_v, nilIs_v]
        have tn : Vm.look Q2 n = some (Obj.cells #[.int .u8 (x.kind : Int), .int .u8 (x.pick : Int), .string (bs x.num), .string (bs x.tok), .string (bs x.req), .string (bs x.mer), .string (bs x.dq), .string (bs x.dm), .int .i64 x.unt, .int .i64 x.at_] 48) := sQ _ _ lk2
        intro ν3 fr3
        have fr := fr3
        have nuE := fr.nu
        simp (maxDischargeDepth := 16) only [argE_nil, argE_cons, ↓vmD, vmV, vmStd, Nat.reduceMul, ↓reduceIte, Nat.reduceAdd, Nat.reduceSub, Nat.reduceEqDiff, Nat.reduceLT, Nat.reduceLeDiff, reduceCtorEq, Int.reduceToNat, Int.reduceLT, Int.reduceLE, Int.reduceEq, Int.reduceNeg, Int.reduceBEq, Int.reduceBNe, String.reduceEq, forall_const, ↓vmDA, vmVA, ↓vmQA, vmR, vmRA, ↓vmSA, vmSV, tyS, nuE, SubA.skip, SubA.refl, fr.2, areDigits_v, panSum_v, rdigits_v, rsum_v, panLuhn_v, rLuhn_v, panCheck_v, rCheck_v, panCd_v, rCd_v, isPrefix_v, rMake_v, isLet_v, isId_v, isNm_v, isTm_v, rIsId_v, rIsNm_v, rDomain_v, nilProv_v, nilFind_v, nilRes_v, nilGet_v, nilChg_v, nilSus_v, nilResu_v, nilDel_v, nilRepl_v, nilOf_v, nilIs_v, t0, t1, tn, BEq.rfl, bne_self_eq_false]
        have sE2 : SubA E1 Q2 := SubA.trans sE sQ
        have sR2 : SubA R1 Q2 := SubA.trans sR sQ
        refine CallA.go (ofP_h E1 vb p ln T1 hE1 x.num) sE2 (fun v D h => SubA.trans h.choose_spec.choose_spec.2.2.1.right h.choose_spec.choose_spec.2.2.2) ?_
        rintro v D A1 ⟨v1, B1, rfl, ho1, dB1, hs1⟩ hD1 hQA _
        obtain ⟨q1', c1, rfl, _, st1⟩ := ho1.read bsC_len
        have st1' : StR bsC 1 A1 q1' (ofL T1 x.num) := st1.mono (SubA.trans (SubA.left B1 E1) (SubA.trans hs1 hD1))
        intro ν4 fr4
        have fr := fr4
        have nuE := fr.nu
        simp (maxDischargeDepth := 16) only [argE_nil, argE_cons, ↓vmD, vmV, vmStd, Nat.reduceMul, ↓reduceIte, Nat.reduceAdd, Nat.reduceSub, Nat.reduceEqDiff, Nat.reduceLT, Nat.reduceLeDiff, reduceCtorEq, Int.reduceToNat, Int.reduceLT, Int.reduceLE, Int.reduceEq, Int.reduceNeg, Int.reduceBEq, Int.reduceBNe, String.reduceEq, forall_const, ↓vmDA, vmVA, ↓vmQA, vmR, vmRA, ↓vmSA, vmSV, tyS, nuE, SubA.skip, SubA.refl, fr.2, areDigits_v, panSum_v, rdigits_v, rsum_v, panLuhn_v, rLuhn_v, panCheck_v, rCheck_v, panCd_v, rCd_v, isPrefix_v, rMake_v, isLet_v, isId_v, isNm_v, isTm_v, rIsId_v, rIsNm_v, rDomain_v, nilProv_v, nilFind_v, nilRes_v, nilGet_v, nilChg_v, nilSus_v, nilResu_v, nilDel_v, nilRepl_v, nilOf_v, nilIs_v, hQA]
        refine CallA.go (rOf_h R1 rb p ln T1 hR1 x.num) (SubA.trans sR2 hQA) (fun v D h => SubA.trans h.choose_spec.choose_spec.2.2.1.right h.choose_spec.choose_spec.2.2.2) ?_
        rintro v D2 A2 ⟨v2, B2, rfl, ho2, dB2, hs2⟩ hD2 hAA _
        obtain ⟨q2', c2, rfl, _, st2⟩ := ho2.read bsC_len
        have st2' : StR bsC 1 A2 q2' (ofL T1 x.num) := st2.mono (SubA.trans (SubA.left B2 R1) (SubA.trans hs2 hD2))
        have hT64 : T1.length ≤ 64 := by obtain ⟨_, _, _, _, hk⟩ := hR1.out; exact hk.2.2.2.2.2.1
        have sm := same_v A2 (ofL T1 x.num) q1' q2' c1 c2 (st1'.mono hAA) st2' (by have := ofL_len T1 x.num; omega)
        have i1 := isTok_w E1 vb p ln T1 hE1 x.num (by omega) A2 (SubA.trans sE2 (SubA.trans hQA hAA))
        have i2 := rIs_w R1 rb p ln T1 hR1 x.num (by omega) A2 (SubA.trans sR2 (SubA.trans hQA hAA))
        have tn2 := hAA _ _ (hQA _ _ tn)
        intro ν5 fr5
        have fr := fr5
        have nuE := fr.nu
        have hQ2 := SubA.trans hQA hAA
        simp (maxDischargeDepth := 16) only [argE_nil, argE_cons, ↓vmD, vmV, vmStd, Nat.reduceMul, ↓reduceIte, Nat.reduceAdd, Nat.reduceSub, Nat.reduceEqDiff, Nat.reduceLT, Nat.reduceLeDiff, reduceCtorEq, Int.reduceToNat, Int.reduceLT, Int.reduceLE, Int.reduceEq, Int.reduceNeg, Int.reduceBEq, Int.reduceBNe, String.reduceEq, forall_const, ↓vmDA, vmVA, ↓vmQA, vmR, vmRA, ↓vmSA, vmSV, tyS, nuE, SubA.skip, SubA.refl, fr.2, areDigits_v, panSum_v, rdigits_v, rsum_v, panLuhn_v, rLuhn_v, panCheck_v, rCheck_v, panCd_v, rCd_v, isPrefix_v, rMake_v, isLet_v, isId_v, isNm_v, isTm_v, rIsId_v, rIsNm_v, rDomain_v, nilProv_v, nilFind_v, nilRes_v, nilGet_v, nilChg_v, nilSus_v, nilResu_v, nilDel_v, nilRepl_v, nilOf_v, nilIs_v, hQ2, sm, i1, i2, bne_self_eq_false, BEq.rfl, tn2, we]
        exact LoopA.weak (ih (e := e + 1) (T := T1) (E := E1) (R := R1) (hd := hd') (hE := hE1) (hR := hR1) (sp := spN)) (by simp only [subE, get_cons, Nat.reduceEqDiff, ↓reduceIte, reduceCtorEq, Nat.reduceAdd, and_self, and_true]) (SubA.trans sERA (SubA.trans sQ hQ2))
      · have hc : ((x.pick : Int) != 0) = false ∨ (((x.pick : Int) != 0) = true ∧ ((0 : Int) < (T.length : Int)) = False) := by
          by_cases hp0 : x.pick = 0
          · left; simp [hp0]
          · right
            refine ⟨by simp; omega, eq_false ?_⟩
            intro h
            exact hpk ⟨hp0, by omega⟩
        rcases hc with q1 | ⟨q1, q2⟩
        · simp (maxDischargeDepth := 16) only [argE_nil, argE_cons, ↓vmD, vmV, vmStd, Nat.reduceMul, ↓reduceIte, Nat.reduceAdd, Nat.reduceSub, Nat.reduceEqDiff, Nat.reduceLT, Nat.reduceLeDiff, reduceCtorEq, Int.reduceToNat, Int.reduceLT, Int.reduceLE, Int.reduceEq, Int.reduceNeg, Int.reduceBEq, Int.reduceBNe, String.reduceEq, forall_const, ↓vmDA, vmVA, ↓vmQA, vmR, vmRA, ↓vmSA, vmSV, tyS, nuE, SubA.skip, SubA.refl, fr.2, areDigits_v, panSum_v, rdigits_v, rsum_v, panLuhn_v, rLuhn_v, panCheck_v, rCheck_v, panCd_v, rCd_v, isPrefix_v, rMake_v, isLet_v, isId_v, isNm_v, isTm_v, rIsId_v, rIsNm_v, rDomain_v, nilProv_v, nilFind_v, nilRes_v, nilGet_v, nilChg_v, nilSus_v, nilResu_v, nilDel_v, nilRepl_v, nilOf_v, nilIs_v, lt, lbk, hcr, doC, q1, nrb, lr2]
          generalize ν 0 = n at *
          refine VauP.use (X := cat [[(n, (Obj.cells #[.int .u8 (x.kind : Int), .int .u8 (x.pick : Int), .string (bs x.num), .string (bs x.tok), .string (bs x.req), .string (bs x.mer), .string (bs x.dq), .string (bs x.dm), .int .i64 x.unt, .int .i64 x.at_] 48))], R]) (callP_h E A (sp.pick [0, 2] rfl rfl).dis hT vb p ln T hE x x.tok (by omega) (by omega) (by omega)) (sp0.subs [1, 3] rfl) (sp0.subs [0, 2] rfl) ((sp0.pick [1, 0, 2] rfl rfl).dis.app (sp0.pick [3, 0, 2] rfl rfl).dis) ?_
          intro E1 hE1 d1 dx1
          rw [List.append_assoc]
          have sp1 : Sep [E1, A, [(n, (Obj.cells #[.int .u8 (x.kind : Int), .int .u8 (x.pick : Int), .string (bs x.num), .string (bs x.tok), .string (bs x.req), .string (bs x.mer), .string (bs x.dq), .string (bs x.dm), .int .i64 x.unt, .int .i64 x.at_] 48))], R] := Sep.cons (Dis.appr d1 (dx1.subl (SubA.left E1 A))) (Sep.cons (dx1.subl d1.right) (sp0.pick [0, 2] rfl rfl))
          obtain ⟨a, er, hv⟩ := doY_two p ln T x x.tok
          rw [hv]
          have lk1 : Vm.look (E1 ++ (A ++ cat [[(n, (Obj.cells #[.int .u8 (x.kind : Int), .int .u8 (x.pick : Int), .string (bs x.num), .string (bs x.tok), .string (bs x.req), .string (bs x.mer), .string (bs x.dq), .string (bs x.dm), .int .i64 x.unt, .int .i64 x.at_] 48))], R])) n = some (Obj.cells #[.int .u8 (x.kind : Int), .int .u8 (x.pick : Int), .string (bs x.num), .string (bs x.tok), .string (bs x.req), .string (bs x.mer), .string (bs x.dq), .string (bs x.dm), .int .i64 x.unt, .int .i64 x.at_] 48) := sp1.sub [(n, (Obj.cells #[.int .u8 (x.kind : Int), .int .u8 (x.pick : Int), .string (bs x.num), .string (bs x.tok), .string (bs x.req), .string (bs x.mer), .string (bs x.dq), .string (bs x.dm), .int .i64 x.unt, .int .i64 x.at_] 48))] (by simp) _ _ (by simp [Vm.look])
          intro ν1 fr1
          have fr := fr1
          have nuE := fr.nu
          simp (maxDischargeDepth := 16) only [argE_nil, argE_cons, ↓vmD, vmV, vmStd, Nat.reduceMul, ↓reduceIte, Nat.reduceAdd, Nat.reduceSub, Nat.reduceEqDiff, Nat.reduceLT, Nat.reduceLeDiff, reduceCtorEq, Int.reduceToNat, Int.reduceLT, Int.reduceLE, Int.reduceEq, Int.reduceNeg, Int.reduceBEq, Int.reduceBNe, String.reduceEq, forall_const, ↓vmDA, vmVA, ↓vmQA, vmR, vmRA, ↓vmSA, vmSV, tyS, nuE, SubA.skip, SubA.refl, fr.2, areDigits_v, panSum_v, rdigits_v, rsum_v, panLuhn_v, rLuhn_v, panCheck_v, rCheck_v, panCd_v, rCd_v, isPrefix_v, rMake_v, isLet_v, isId_v, isNm_v, isTm_v, rIsId_v, rIsNm_v, rDomain_v, nilProv_v, nilFind_v, nilRes_v, nilGet_v, nilChg_v, nilSus_v, nilResu_v, nilDel_v, nilRepl_v, nilOf_v, nilIs_v, lk1]
          refine VauR.use (X := cat [E1, A, [(n, (Obj.cells #[.int .u8 (x.kind : Int), .int .u8 (x.pick : Int), .string (bs x.num), .string (bs x.tok), .string (bs x.req), .string (bs x.mer), .string (bs x.dq), .string (bs x.dm), .int .i64 x.unt, .int .i64 x.at_] 48))]]) (byR_h R rb p ln T hR x x.tok (by omega) (by omega) (by omega)) (sp1.subs [3] rfl) (sp1.subs [0, 1, 2] rfl) (sp1.pick [3, 0, 1, 2] rfl rfl).dis ?_
          intro R1 hR1 dr1
          rw [hv]
          have sp2 : Sep [R1, E1, A, [(n, (Obj.cells #[.int .u8 (x.kind : Int), .int .u8 (x.pick : Int), .string (bs x.num), .string (bs x.tok), .string (bs x.req), .string (bs x.mer), .string (bs x.dq), .string (bs x.dm), .int .i64 x.unt, .int .i64 x.at_] 48))]] := Sep.cons dr1 (sp1.pick [0, 1, 2] rfl rfl)
          have lk2 : Vm.look (R1 ++ cat [E1, A, [(n, (Obj.cells #[.int .u8 (x.kind : Int), .int .u8 (x.pick : Int), .string (bs x.num), .string (bs x.tok), .string (bs x.req), .string (bs x.mer), .string (bs x.dq), .string (bs x.dm), .int .i64 x.unt, .int .i64 x.at_] 48))]]) n = some (Obj.cells #[.int .u8 (x.kind : Int), .int .u8 (x.pick : Int), .string (bs x.num), .string (bs x.tok), .string (bs x.req), .string (bs x.mer), .string (bs x.dq), .string (bs x.dm), .int .i64 x.unt, .int .i64 x.at_] 48) := sp2.sub [(n, (Obj.cells #[.int .u8 (x.kind : Int), .int .u8 (x.pick : Int), .string (bs x.num), .string (bs x.tok), .string (bs x.req), .string (bs x.mer), .string (bs x.dq), .string (bs x.dm), .int .i64 x.unt, .int .i64 x.at_] 48))] (by simp) _ _ (by simp [Vm.look])
          have sE : SubA E1 (R1 ++ cat [E1, A, [(n, (Obj.cells #[.int .u8 (x.kind : Int), .int .u8 (x.pick : Int), .string (bs x.num), .string (bs x.tok), .string (bs x.req), .string (bs x.mer), .string (bs x.dq), .string (bs x.dm), .int .i64 x.unt, .int .i64 x.at_] 48))]]) := sp2.subs [1] rfl
          have sR : SubA R1 (R1 ++ cat [E1, A, [(n, (Obj.cells #[.int .u8 (x.kind : Int), .int .u8 (x.pick : Int), .string (bs x.num), .string (bs x.tok), .string (bs x.req), .string (bs x.mer), .string (bs x.dq), .string (bs x.dm), .int .i64 x.unt, .int .i64 x.at_] 48))]]) := sp2.subs [0] rfl
          have sERA : SubA (cat [E1, R1, A]) (R1 ++ cat [E1, A, [(n, (Obj.cells #[.int .u8 (x.kind : Int), .int .u8 (x.pick : Int), .string (bs x.num), .string (bs x.tok), .string (bs x.req), .string (bs x.mer), .string (bs x.dq), .string (bs x.dm), .int .i64 x.unt, .int .i64 x.at_] 48))]]) := sp2.subs [1, 0, 2] rfl
          have spN : Sep [E1, R1, A] := sp2.pick [1, 0, 2] rfl rfl
          generalize R1 ++ cat [E1, A, [(n, (Obj.cells #[.int .u8 (x.kind : Int), .int .u8 (x.pick : Int), .string (bs x.num), .string (bs x.tok), .string (bs x.req), .string (bs x.mer), .string (bs x.dq), .string (bs x.dm), .int .i64 x.unt, .int .i64 x.at_] 48))]] = Q at lk2 sE sR sERA ⊢
          generalize (doY p ln T x x.tok).2 = T1 at hE1 hR1
          obtain ⟨y, b, hg⟩ := getV_two T1 x.tok
          intro ν2 fr2
          have fr := fr2
          have nuE := fr.nu
          have g1 := getP_w E1 vb p ln T1 hE1 x.tok Q sE
          have g2 := rGet_w R1 rb p ln T1 hR1 x.tok _ (SubA.fresh (o := (Obj.cells #[.string (bs y.tok), .string (bs y.pan), .string (bs y.req), .string (bs y.mer), .int .i64 y.unt, .int .i64 y.st, .int .i64 y.cr] 53)) (fr2.2 0) sR)
          rw [hg] at g1 g2
          have nn := fr2.ne (b := n) (by rw [lk2]; simp)
          simp (maxDischargeDepth := 16) only [argE_nil, argE_cons, ↓vmD, vmV, vmStd, Nat.reduceMul, ↓reduceIte, Nat.reduceAdd, Nat.reduceSub, Nat.reduceEqDiff, Nat.reduceLT, Nat.reduceLeDiff, reduceCtorEq, Int.reduceToNat, Int.reduceLT, Int.reduceLE, Int.reduceEq, Int.reduceNeg, Int.reduceBEq, Int.reduceBNe, String.reduceEq, forall_const, ↓vmDA, vmVA, ↓vmQA, vmR, vmRA, ↓vmSA, vmSV, tyS, nuE, SubA.skip, SubA.refl, fr.2, areDigits_v, panSum_v, rdigits_v, rsum_v, panLuhn_v, rLuhn_v, panCheck_v, rCheck_v, panCd_v, rCd_v, isPrefix_v, rMake_v, isLet_v, isId_v, isNm_v, isTm_v, rIsId_v, rIsNm_v, rDomain_v, nilProv_v, nilFind_v, nilRes_v, nilGet_v, nilChg_v, nilSus_v, nilResu_v, nilDel_v, nilRepl_v, nilOf_v, nilIs_v, g1, g2]
          have f0' := fr2.2 0
          have f1' : Vm.look ((ν2 0, (Obj.cells #[.string (bs y.tok), .string (bs y.pan), .string (bs y.req), .string (bs y.mer), .int .i64 y.unt, .int .i64 y.st, .int .i64 y.cr] 53)) :: Q) (ν2 1) = none := by simp (maxDischargeDepth := 16) only [argE_nil, argE_cons, ↓vmD, vmV, vmStd, Nat.reduceMul, ↓reduceIte, Nat.reduceAdd, Nat.reduceSub, Nat.reduceEqDiff, Nat.reduceLT, Nat.reduceLeDiff, reduceCtorEq, Int.reduceToNat, Int.reduceLT, Int.reduceLE, Int.reduceEq, Int.reduceNeg, Int.reduceBEq, Int.reduceBNe, String.reduceEq, forall_const, ↓vmDA, vmVA, ↓vmQA, vmR, vmRA, ↓vmSA, vmSV, tyS, nuE, SubA.skip, SubA.refl, fr.2, areDigits_v, panSum_v, rdigits_v, rsum_v, panLuhn_v, rLuhn_v, panCheck_v, rCheck_v, panCd_v, rCd_v, isPrefix_v, rMake_v, isLet_v, isId_v, isNm_v, isTm_v, rIsId_v, rIsNm_v, rDomain_v, nilProv_v, nilFind_v, nilRes_v, nilGet_v, nilChg_v, nilSus_v, nilResu_v, nilDel_v, nilRepl_v, nilOf_v, nilIs_v, fr2.2]
          have sQ : SubA Q ((ν2 1, (Obj.cells #[.string (bs y.tok), .string (bs y.pan), .string (bs y.req), .string (bs y.mer), .int .i64 y.unt, .int .i64 y.st, .int .i64 y.cr] 53)) :: (ν2 0, (Obj.cells #[.string (bs y.tok), .string (bs y.pan), .string (bs y.req), .string (bs y.mer), .int .i64 y.unt, .int .i64 y.st, .int .i64 y.cr] 53)) :: Q) := SubA.fresh f1' (SubA.fresh f0' (SubA.refl _))
          refine MeantA.plan [(0, 0), (1, 0), (2, 0), (3, 0), (4, 0), (5, 0), (6, 0), (7, 0), (8, 0), (9, 0), (10, 0), (11, 0), (12, 0), (13, 0), (14, 0), (15, 0), (16, 0), (17, 0), (18, 0), (19, 0), (20, 0), (21, 0), (23, 0), (24, 0), (25, 0), (22, 0), (26, 1), (27, 0), (28, 0), (29, 0), (30, 0), (31, 0), (32, 0), (33, 0), (34, 0), (35, 0), (36, 0), (37, 0), (38, 0), (39, 0), (40, 0)] ((ν2 1, (Obj.cells #[.string (bs y.tok), .string (bs y.pan), .string (bs y.req), .string (bs y.mer), .int .i64 y.unt, .int .i64 y.st, .int .i64 y.cr] 53)) :: (ν2 0, (Obj.cells #[.string (bs y.tok), .string (bs y.pan), .string (bs y.req), .string (bs y.mer), .int .i64 y.unt, .int .i64 y.st, .int .i64 y.cr] 53)) :: Q) (SubA.refl _) (by kernel_rfl) (by kernel_rfl) (by kernel_rfl) (by kernel_rfl) (by kernel_rfl) (by kernel_rfl) ?_
          generalize hQ : (ν2 1, (Obj.cells #[.string (bs y.tok), .string (bs y.pan), .string (bs y.req), .string (bs y.mer), .int .i64 y.unt, .int .i64 y.st, .int .i64 y.cr] 53)) :: (ν2 0, (Obj.cells #[.string (bs y.tok), .string (bs y.pan), .string (bs y.req), .string (bs y.mer), .int .i64 y.unt, .int .i64 y.st, .int .i64 y.cr] 53)) :: Q = Q2 at sQ ⊢
          have t0 : Vm.look Q2 (ν2 0) = some (Obj.cells #[.string (bs y.tok), .string (bs y.pan), .string (bs y.req), .string (bs y.mer), .int .i64 y.unt, .int .i64 y.st, .int .i64 y.cr] 53) := by rw [← hQ]; simp (maxDischargeDepth := 16) only [argE_nil, argE_cons, ↓vmD, vmV, vmStd, Nat.reduceMul, ↓reduceIte, Nat.reduceAdd, Nat.reduceSub, Nat.reduceEqDiff, Nat.reduceLT, Nat.reduceLeDiff, reduceCtorEq, Int.reduceToNat, Int.reduceLT, Int.reduceLE, Int.reduceEq, Int.reduceNeg, Int.reduceBEq, Int.reduceBNe, String.reduceEq, forall_const, ↓vmDA, vmVA, ↓vmQA, vmR, vmRA, ↓vmSA, vmSV, tyS, nuE, SubA.skip, SubA.refl, fr.2, areDigits_v, panSum_v, rdigits_v, rsum_v, panLuhn_v, rLuhn_v, panCheck_v, rCheck_v, panCd_v, rCd_v, isPrefix_v, rMake_v, isLet_v, isId_v, isNm_v, isTm_v, rIsId_v, rIsNm_v, rDomain_v, nilProv_v, nilFind_v, nilRes_v, nilGet_v, nilChg_v, nilSus_v, nilResu_v, nilDel_v, nilRepl_v, nilOf_v, nilIs_v]
          have t1 : Vm.look Q2 (ν2 1) = some (Obj.cells #[.string (bs y.tok), .string (bs y.pan), .string (bs y.req), .string (bs y.mer), .int .i64 y.unt, .int .i64 y.st, .int .i64 y.cr] 53) := by rw [← hQ]; simp (maxDischargeDepth := 16) only [argE_nil, argE_cons, ↓vmD, vmV, vmStd, Nat.reduceMul, ↓reduceIte, Nat.reduceAdd, Nat.reduceSub, Nat.reduceEqDiff, Nat.reduceLT, Nat.reduceLeDiff, reduceCtorEq, Int.reduceToNat, Int.reduceLT, Int.reduceLE, Int.reduceEq, Int.reduceNeg, Int.reduceBEq, Int.reduceBNe, String.reduceEq, forall_const, ↓vmDA, vmVA, ↓vmQA, vmR, vmRA, ↓vmSA, vmSV, tyS, nuE, SubA.skip, SubA.refl, fr.2, areDigits_v, panSum_v, rdigits_v, rsum_v, panLuhn_v, rLuhn_v, panCheck_v, rCheck_v, panCd_v, rCd_v, isPrefix_v, rMake_v, isLet_v, isId_v, isNm_v, isTm_v, rIsId_v, rIsNm_v, rDomain_v, nilProv_v, nilFind_v, nilRes_v, nilGet_v, nilChg_v, nilSus_v, nilResu_v, nilDel_v, nilRepl_v, nilOf_v, nilIs_v]
          have tn : Vm.look Q2 n = some (Obj.cells #[.int .u8 (x.kind : Int), .int .u8 (x.pick : Int), .string (bs x.num), .string (bs x.tok), .string (bs x.req), .string (bs x.mer), .string (bs x.dq), .string (bs x.dm), .int .i64 x.unt, .int .i64 x.at_] 48) := sQ _ _ lk2
          intro ν3 fr3
          have fr := fr3
          have nuE := fr.nu
          simp (maxDischargeDepth := 16) only [argE_nil, argE_cons, ↓vmD, vmV, vmStd, Nat.reduceMul, ↓reduceIte, Nat.reduceAdd, Nat.reduceSub, Nat.reduceEqDiff, Nat.reduceLT, Nat.reduceLeDiff, reduceCtorEq, Int.reduceToNat, Int.reduceLT, Int.reduceLE, Int.reduceEq, Int.reduceNeg, Int.reduceBEq, Int.reduceBNe, String.reduceEq, forall_const, ↓vmDA, vmVA, ↓vmQA, vmR, vmRA, ↓vmSA, vmSV, tyS, nuE, SubA.skip, SubA.refl, fr.2, areDigits_v, panSum_v, rdigits_v, rsum_v, panLuhn_v, rLuhn_v, panCheck_v, rCheck_v, panCd_v, rCd_v, isPrefix_v, rMake_v, isLet_v, isId_v, isNm_v, isTm_v, rIsId_v, rIsNm_v, rDomain_v, nilProv_v, nilFind_v, nilRes_v, nilGet_v, nilChg_v, nilSus_v, nilResu_v, nilDel_v, nilRepl_v, nilOf_v, nilIs_v, t0, t1, tn, BEq.rfl, bne_self_eq_false]
          have sE2 : SubA E1 Q2 := SubA.trans sE sQ
          have sR2 : SubA R1 Q2 := SubA.trans sR sQ
          refine CallA.go (ofP_h E1 vb p ln T1 hE1 x.num) sE2 (fun v D h => SubA.trans h.choose_spec.choose_spec.2.2.1.right h.choose_spec.choose_spec.2.2.2) ?_
          rintro v D A1 ⟨v1, B1, rfl, ho1, dB1, hs1⟩ hD1 hQA _
          obtain ⟨q1', c1, rfl, _, st1⟩ := ho1.read bsC_len
          have st1' : StR bsC 1 A1 q1' (ofL T1 x.num) := st1.mono (SubA.trans (SubA.left B1 E1) (SubA.trans hs1 hD1))
          intro ν4 fr4
          have fr := fr4
          have nuE := fr.nu
          simp (maxDischargeDepth := 16) only [argE_nil, argE_cons, ↓vmD, vmV, vmStd, Nat.reduceMul, ↓reduceIte, Nat.reduceAdd, Nat.reduceSub, Nat.reduceEqDiff, Nat.reduceLT, Nat.reduceLeDiff, reduceCtorEq, Int.reduceToNat, Int.reduceLT, Int.reduceLE, Int.reduceEq, Int.reduceNeg, Int.reduceBEq, Int.reduceBNe, String.reduceEq, forall_const, ↓vmDA, vmVA, ↓vmQA, vmR, vmRA, ↓vmSA, vmSV, tyS, nuE, SubA.skip, SubA.refl, fr.2, areDigits_v, panSum_v, rdigits_v, rsum_v, panLuhn_v, rLuhn_v, panCheck_v, rCheck_v, panCd_v, rCd_v, isPrefix_v, rMake_v, isLet_v, isId_v, isNm_v, isTm_v, rIsId_v, rIsNm_v, rDomain_v, nilProv_v, nilFind_v, nilRes_v, nilGet_v, nilChg_v, nilSus_v, nilResu_v, nilDel_v, nilRepl_v, nilOf_v, nilIs_v, hQA]
          refine CallA.go (rOf_h R1 rb p ln T1 hR1 x.num) (SubA.trans sR2 hQA) (fun v D h => SubA.trans h.choose_spec.choose_spec.2.2.1.right h.choose_spec.choose_spec.2.2.2) ?_
          rintro v D2 A2 ⟨v2, B2, rfl, ho2, dB2, hs2⟩ hD2 hAA _
          obtain ⟨q2', c2, rfl, _, st2⟩ := ho2.read bsC_len
          have st2' : StR bsC 1 A2 q2' (ofL T1 x.num) := st2.mono (SubA.trans (SubA.left B2 R1) (SubA.trans hs2 hD2))
          have hT64 : T1.length ≤ 64 := by obtain ⟨_, _, _, _, hk⟩ := hR1.out; exact hk.2.2.2.2.2.1
          have sm := same_v A2 (ofL T1 x.num) q1' q2' c1 c2 (st1'.mono hAA) st2' (by have := ofL_len T1 x.num; omega)
          have i1 := isTok_w E1 vb p ln T1 hE1 x.num (by omega) A2 (SubA.trans sE2 (SubA.trans hQA hAA))
          have i2 := rIs_w R1 rb p ln T1 hR1 x.num (by omega) A2 (SubA.trans sR2 (SubA.trans hQA hAA))
          have tn2 := hAA _ _ (hQA _ _ tn)
          intro ν5 fr5
          have fr := fr5
          have nuE := fr.nu
          have hQ2 := SubA.trans hQA hAA
          simp (maxDischargeDepth := 16) only [argE_nil, argE_cons, ↓vmD, vmV, vmStd, Nat.reduceMul, ↓reduceIte, Nat.reduceAdd, Nat.reduceSub, Nat.reduceEqDiff, Nat.reduceLT, Nat.reduceLeDiff, reduceCtorEq, Int.reduceToNat, Int.reduceLT, Int.reduceLE, Int.reduceEq, Int.reduceNeg, Int.reduceBEq, Int.reduceBNe, String.reduceEq, forall_const, ↓vmDA, vmVA, ↓vmQA, vmR, vmRA, ↓vmSA, vmSV, tyS, nuE, SubA.skip, SubA.refl, fr.2, areDigits_v, panSum_v, rdigits_v, rsum_v, panLuhn_v, rLuhn_v, panCheck_v, rCheck_v, panCd_v, rCd_v, isPrefix_v, rMake_v, isLet_v, isId_v, isNm_v, isTm_v, rIsId_v, rIsNm_v, rDomain_v, nilProv_v, nilFind_v, nilRes_v, nilGet_v, nilChg_v, nilSus_v, nilResu_v, nilDel_v, nilRepl_v, nilOf_v, nilIs_v, hQ2, sm, i1, i2, bne_self_eq_false, BEq.rfl, tn2, we]
          exact LoopA.weak (ih (e := e + 1) (T := T1) (E := E1) (R := R1) (hd := hd') (hE := hE1) (hR := hR1) (sp := spN)) (by simp only [subE, get_cons, Nat.reduceEqDiff, ↓reduceIte, reduceCtorEq, Nat.reduceAdd, and_self, and_true]) (SubA.trans sERA (SubA.trans sQ hQ2))
        · simp (maxDischargeDepth := 16) only [argE_nil, argE_cons, ↓vmD, vmV, vmStd, Nat.reduceMul, ↓reduceIte, Nat.reduceAdd, Nat.reduceSub, Nat.reduceEqDiff, Nat.reduceLT, Nat.reduceLeDiff, reduceCtorEq, Int.reduceToNat, Int.reduceLT, Int.reduceLE, Int.reduceEq, Int.reduceNeg, Int.reduceBEq, Int.reduceBNe, String.reduceEq, forall_const, ↓vmDA, vmVA, ↓vmQA, vmR, vmRA, ↓vmSA, vmSV, tyS, nuE, SubA.skip, SubA.refl, fr.2, areDigits_v, panSum_v, rdigits_v, rsum_v, panLuhn_v, rLuhn_v, panCheck_v, rCheck_v, panCd_v, rCd_v, isPrefix_v, rMake_v, isLet_v, isId_v, isNm_v, isTm_v, rIsId_v, rIsNm_v, rDomain_v, nilProv_v, nilFind_v, nilRes_v, nilGet_v, nilChg_v, nilSus_v, nilResu_v, nilDel_v, nilRepl_v, nilOf_v, nilIs_v, lt, lbk, hcr, doC, q1, q2, nrb, lr2]
          generalize ν 0 = n at *
          refine VauP.use (X := cat [[(n, (Obj.cells #[.int .u8 (x.kind : Int), .int .u8 (x.pick : Int), .string (bs x.num), .string (bs x.tok), .string (bs x.req), .string (bs x.mer), .string (bs x.dq), .string (bs x.dm), .int .i64 x.unt, .int .i64 x.at_] 48))], R]) (callP_h E A (sp.pick [0, 2] rfl rfl).dis hT vb p ln T hE x x.tok (by omega) (by omega) (by omega)) (sp0.subs [1, 3] rfl) (sp0.subs [0, 2] rfl) ((sp0.pick [1, 0, 2] rfl rfl).dis.app (sp0.pick [3, 0, 2] rfl rfl).dis) ?_
          intro E1 hE1 d1 dx1
          rw [List.append_assoc]
          have sp1 : Sep [E1, A, [(n, (Obj.cells #[.int .u8 (x.kind : Int), .int .u8 (x.pick : Int), .string (bs x.num), .string (bs x.tok), .string (bs x.req), .string (bs x.mer), .string (bs x.dq), .string (bs x.dm), .int .i64 x.unt, .int .i64 x.at_] 48))], R] := Sep.cons (Dis.appr d1 (dx1.subl (SubA.left E1 A))) (Sep.cons (dx1.subl d1.right) (sp0.pick [0, 2] rfl rfl))
          obtain ⟨a, er, hv⟩ := doY_two p ln T x x.tok
          rw [hv]
          have lk1 : Vm.look (E1 ++ (A ++ cat [[(n, (Obj.cells #[.int .u8 (x.kind : Int), .int .u8 (x.pick : Int), .string (bs x.num), .string (bs x.tok), .string (bs x.req), .string (bs x.mer), .string (bs x.dq), .string (bs x.dm), .int .i64 x.unt, .int .i64 x.at_] 48))], R])) n = some (Obj.cells #[.int .u8 (x.kind : Int), .int .u8 (x.pick : Int), .string (bs x.num), .string (bs x.tok), .string (bs x.req), .string (bs x.mer), .string (bs x.dq), .string (bs x.dm), .int .i64 x.unt, .int .i64 x.at_] 48) := sp1.sub [(n, (Obj.cells #[.int .u8 (x.kind : Int), .int .u8 (x.pick : Int), .string (bs x.num), .string (bs x.tok), .string (bs x.req), .string (bs x.mer), .string (bs x.dq), .string (bs x.dm), .int .i64 x.unt, .int .i64 x.at_] 48))] (by simp) _ _ (by simp [Vm.look])
          intro ν1 fr1
          have fr := fr1
          have nuE := fr.nu
          simp (maxDischargeDepth := 16) only [argE_nil, argE_cons, ↓vmD, vmV, vmStd, Nat.reduceMul, ↓reduceIte, Nat.reduceAdd, Nat.reduceSub, Nat.reduceEqDiff, Nat.reduceLT, Nat.reduceLeDiff, reduceCtorEq, Int.reduceToNat, Int.reduceLT, Int.reduceLE, Int.reduceEq, Int.reduceNeg, Int.reduceBEq, Int.reduceBNe, String.reduceEq, forall_const, ↓vmDA, vmVA, ↓vmQA, vmR, vmRA, ↓vmSA, vmSV, tyS, nuE, SubA.skip, SubA.refl, fr.2, areDigits_v, panSum_v, rdigits_v, rsum_v, panLuhn_v, rLuhn_v, panCheck_v, rCheck_v, panCd_v, rCd_v, isPrefix_v, rMake_v, isLet_v, isId_v, isNm_v, isTm_v, rIsId_v, rIsNm_v, rDomain_v, nilProv_v, nilFind_v, nilRes_v, nilGet_v, nilChg_v, nilSus_v, nilResu_v, nilDel_v, nilRepl_v, nilOf_v, nilIs_v, lk1]
          refine VauR.use (X := cat [E1, A, [(n, (Obj.cells #[.int .u8 (x.kind : Int), .int .u8 (x.pick : Int), .string (bs x.num), .string (bs x.tok), .string (bs x.req), .string (bs x.mer), .string (bs x.dq), .string (bs x.dm), .int .i64 x.unt, .int .i64 x.at_] 48))]]) (byR_h R rb p ln T hR x x.tok (by omega) (by omega) (by omega)) (sp1.subs [3] rfl) (sp1.subs [0, 1, 2] rfl) (sp1.pick [3, 0, 1, 2] rfl rfl).dis ?_
          intro R1 hR1 dr1
          rw [hv]
          have sp2 : Sep [R1, E1, A, [(n, (Obj.cells #[.int .u8 (x.kind : Int), .int .u8 (x.pick : Int), .string (bs x.num), .string (bs x.tok), .string (bs x.req), .string (bs x.mer), .string (bs x.dq), .string (bs x.dm), .int .i64 x.unt, .int .i64 x.at_] 48))]] := Sep.cons dr1 (sp1.pick [0, 1, 2] rfl rfl)
          have lk2 : Vm.look (R1 ++ cat [E1, A, [(n, (Obj.cells #[.int .u8 (x.kind : Int), .int .u8 (x.pick : Int), .string (bs x.num), .string (bs x.tok), .string (bs x.req), .string (bs x.mer), .string (bs x.dq), .string (bs x.dm), .int .i64 x.unt, .int .i64 x.at_] 48))]]) n = some (Obj.cells #[.int .u8 (x.kind : Int), .int .u8 (x.pick : Int), .string (bs x.num), .string (bs x.tok), .string (bs x.req), .string (bs x.mer), .string (bs x.dq), .string (bs x.dm), .int .i64 x.unt, .int .i64 x.at_] 48) := sp2.sub [(n, (Obj.cells #[.int .u8 (x.kind : Int), .int .u8 (x.pick : Int), .string (bs x.num), .string (bs x.tok), .string (bs x.req), .string (bs x.mer), .string (bs x.dq), .string (bs x.dm), .int .i64 x.unt, .int .i64 x.at_] 48))] (by simp) _ _ (by simp [Vm.look])
          have sE : SubA E1 (R1 ++ cat [E1, A, [(n, (Obj.cells #[.int .u8 (x.kind : Int), .int .u8 (x.pick : Int), .string (bs x.num), .string (bs x.tok), .string (bs x.req), .string (bs x.mer), .string (bs x.dq), .string (bs x.dm), .int .i64 x.unt, .int .i64 x.at_] 48))]]) := sp2.subs [1] rfl
          have sR : SubA R1 (R1 ++ cat [E1, A, [(n, (Obj.cells #[.int .u8 (x.kind : Int), .int .u8 (x.pick : Int), .string (bs x.num), .string (bs x.tok), .string (bs x.req), .string (bs x.mer), .string (bs x.dq), .string (bs x.dm), .int .i64 x.unt, .int .i64 x.at_] 48))]]) := sp2.subs [0] rfl
          have sERA : SubA (cat [E1, R1, A]) (R1 ++ cat [E1, A, [(n, (Obj.cells #[.int .u8 (x.kind : Int), .int .u8 (x.pick : Int), .string (bs x.num), .string (bs x.tok), .string (bs x.req), .string (bs x.mer), .string (bs x.dq), .string (bs x.dm), .int .i64 x.unt, .int .i64 x.at_] 48))]]) := sp2.subs [1, 0, 2] rfl
          have spN : Sep [E1, R1, A] := sp2.pick [1, 0, 2] rfl rfl
          generalize R1 ++ cat [E1, A, [(n, (Obj.cells #[.int .u8 (x.kind : Int), .int .u8 (x.pick : Int), .string (bs x.num), .string (bs x.tok), .string (bs x.req), .string (bs x.mer), .string (bs x.dq), .string (bs x.dm), .int .i64 x.unt, .int .i64 x.at_] 48))]] = Q at lk2 sE sR sERA ⊢
          generalize (doY p ln T x x.tok).2 = T1 at hE1 hR1
          obtain ⟨y, b, hg⟩ := getV_two T1 x.tok
          intro ν2 fr2
          have fr := fr2
          have nuE := fr.nu
          have g1 := getP_w E1 vb p ln T1 hE1 x.tok Q sE
          have g2 := rGet_w R1 rb p ln T1 hR1 x.tok _ (SubA.fresh (o := (Obj.cells #[.string (bs y.tok), .string (bs y.pan), .string (bs y.req), .string (bs y.mer), .int .i64 y.unt, .int .i64 y.st, .int .i64 y.cr] 53)) (fr2.2 0) sR)
          rw [hg] at g1 g2
          have nn := fr2.ne (b := n) (by rw [lk2]; simp)
          simp (maxDischargeDepth := 16) only [argE_nil, argE_cons, ↓vmD, vmV, vmStd, Nat.reduceMul, ↓reduceIte, Nat.reduceAdd, Nat.reduceSub, Nat.reduceEqDiff, Nat.reduceLT, Nat.reduceLeDiff, reduceCtorEq, Int.reduceToNat, Int.reduceLT, Int.reduceLE, Int.reduceEq, Int.reduceNeg, Int.reduceBEq, Int.reduceBNe, String.reduceEq, forall_const, ↓vmDA, vmVA, ↓vmQA, vmR, vmRA, ↓vmSA, vmSV, tyS, nuE, SubA.skip, SubA.refl, fr.2, areDigits_v, panSum_v, rdigits_v, rsum_v, panLuhn_v, rLuhn_v, panCheck_v, rCheck_v, panCd_v, rCd_v, isPrefix_v, rMake_v, isLet_v, isId_v, isNm_v, isTm_v, rIsId_v, rIsNm_v, rDomain_v, nilProv_v, nilFind_v, nilRes_v, nilGet_v, nilChg_v, nilSus_v, nilResu_v, nilDel_v, nilRepl_v, nilOf_v, nilIs_v, g1, g2]
          have f0' := fr2.2 0
          have f1' : Vm.look ((ν2 0, (Obj.cells #[.string (bs y.tok), .string (bs y.pan), .string (bs y.req), .string (bs y.mer), .int .i64 y.unt, .int .i64 y.st, .int .i64 y.cr] 53)) :: Q) (ν2 1) = none := by simp (maxDischargeDepth := 16) only [argE_nil, argE_cons, ↓vmD, vmV, vmStd, Nat.reduceMul, ↓reduceIte, Nat.reduceAdd, Nat.reduceSub, Nat.reduceEqDiff, Nat.reduceLT, Nat.reduceLeDiff, reduceCtorEq, Int.reduceToNat, Int.reduceLT, Int.reduceLE, Int.reduceEq, Int.reduceNeg, Int.reduceBEq, Int.reduceBNe, String.reduceEq, forall_const, ↓vmDA, vmVA, ↓vmQA, vmR, vmRA, ↓vmSA, vmSV, tyS, nuE, SubA.skip, SubA.refl, fr.2, areDigits_v, panSum_v, rdigits_v, rsum_v, panLuhn_v, rLuhn_v, panCheck_v, rCheck_v, panCd_v, rCd_v, isPrefix_v, rMake_v, isLet_v, isId_v, isNm_v, isTm_v, rIsId_v, rIsNm_v, rDomain_v, nilProv_v, nilFind_v, nilRes_v, nilGet_v, nilChg_v, nilSus_v, nilResu_v, nilDel_v, nilRepl_v, nilOf_v, nilIs_v, fr2.2]
          have sQ : SubA Q ((ν2 1, (Obj.cells #[.string (bs y.tok), .string (bs y.pan), .string (bs y.req), .string (bs y.mer), .int .i64 y.unt, .int .i64 y.st, .int .i64 y.cr] 53)) :: (ν2 0, (Obj.cells #[.string (bs y.tok), .string (bs y.pan), .string (bs y.req), .string (bs y.mer), .int .i64 y.unt, .int .i64 y.st, .int .i64 y.cr] 53)) :: Q) := SubA.fresh f1' (SubA.fresh f0' (SubA.refl _))
          refine MeantA.plan [(0, 0), (1, 0), (2, 0), (3, 0), (4, 0), (5, 0), (6, 0), (7, 0), (8, 0), (9, 0), (10, 0), (11, 0), (12, 0), (13, 0), (14, 0), (15, 0), (16, 0), (17, 0), (18, 0), (19, 0), (20, 0), (21, 0), (23, 0), (24, 0), (25, 0), (22, 0), (26, 1), (27, 0), (28, 0), (29, 0), (30, 0), (31, 0), (32, 0), (33, 0), (34, 0), (35, 0), (36, 0), (37, 0), (38, 0), (39, 0), (40, 0)] ((ν2 1, (Obj.cells #[.string (bs y.tok), .string (bs y.pan), .string (bs y.req), .string (bs y.mer), .int .i64 y.unt, .int .i64 y.st, .int .i64 y.cr] 53)) :: (ν2 0, (Obj.cells #[.string (bs y.tok), .string (bs y.pan), .string (bs y.req), .string (bs y.mer), .int .i64 y.unt, .int .i64 y.st, .int .i64 y.cr] 53)) :: Q) (SubA.refl _) (by kernel_rfl) (by kernel_rfl) (by kernel_rfl) (by kernel_rfl) (by kernel_rfl) (by kernel_rfl) ?_
          generalize hQ : (ν2 1, (Obj.cells #[.string (bs y.tok), .string (bs y.pan), .string (bs y.req), .string (bs y.mer), .int .i64 y.unt, .int .i64 y.st, .int .i64 y.cr] 53)) :: (ν2 0, (Obj.cells #[.string (bs y.tok), .string (bs y.pan), .string (bs y.req), .string (bs y.mer), .int .i64 y.unt, .int .i64 y.st, .int .i64 y.cr] 53)) :: Q = Q2 at sQ ⊢
          have t0 : Vm.look Q2 (ν2 0) = some (Obj.cells #[.string (bs y.tok), .string (bs y.pan), .string (bs y.req), .string (bs y.mer), .int .i64 y.unt, .int .i64 y.st, .int .i64 y.cr] 53) := by rw [← hQ]; simp (maxDischargeDepth := 16) only [argE_nil, argE_cons, ↓vmD, vmV, vmStd, Nat.reduceMul, ↓reduceIte, Nat.reduceAdd, Nat.reduceSub, Nat.reduceEqDiff, Nat.reduceLT, Nat.reduceLeDiff, reduceCtorEq, Int.reduceToNat, Int.reduceLT, Int.reduceLE, Int.reduceEq, Int.reduceNeg, Int.reduceBEq, Int.reduceBNe, String.reduceEq, forall_const, ↓vmDA, vmVA, ↓vmQA, vmR, vmRA, ↓vmSA, vmSV, tyS, nuE, SubA.skip, SubA.refl, fr.2, areDigits_v, panSum_v, rdigits_v, rsum_v, panLuhn_v, rLuhn_v, panCheck_v, rCheck_v, panCd_v, rCd_v, isPrefix_v, rMake_v, isLet_v, isId_v, isNm_v, isTm_v, rIsId_v, rIsNm_v, rDomain_v, nilProv_v, nilFind_v, nilRes_v, nilGet_v, nilChg_v, nilSus_v, nilResu_v, nilDel_v, nilRepl_v, nilOf_v, nilIs_v]
          have t1 : Vm.look Q2 (ν2 1) = some (Obj.cells #[.string (bs y.tok), .string (bs y.pan), .string (bs y.req), .string (bs y.mer), .int .i64 y.unt, .int .i64 y.st, .int .i64 y.cr] 53) := by rw [← hQ]; simp (maxDischargeDepth := 16) only [argE_nil, argE_cons, ↓vmD, vmV, vmStd, Nat.reduceMul, ↓reduceIte, Nat.reduceAdd, Nat.reduceSub, Nat.reduceEqDiff, Nat.reduceLT, Nat.reduceLeDiff, reduceCtorEq, Int.reduceToNat, Int.reduceLT, Int.reduceLE, Int.reduceEq, Int.reduceNeg, Int.reduceBEq, Int.reduceBNe, String.reduceEq, forall_const, ↓vmDA, vmVA, ↓vmQA, vmR, vmRA, ↓vmSA, vmSV, tyS, nuE, SubA.skip, SubA.refl, fr.2, areDigits_v, panSum_v, rdigits_v, rsum_v, panLuhn_v, rLuhn_v, panCheck_v, rCheck_v, panCd_v, rCd_v, isPrefix_v, rMake_v, isLet_v, isId_v, isNm_v, isTm_v, rIsId_v, rIsNm_v, rDomain_v, nilProv_v, nilFind_v, nilRes_v, nilGet_v, nilChg_v, nilSus_v, nilResu_v, nilDel_v, nilRepl_v, nilOf_v, nilIs_v]
          have tn : Vm.look Q2 n = some (Obj.cells #[.int .u8 (x.kind : Int), .int .u8 (x.pick : Int), .string (bs x.num), .string (bs x.tok), .string (bs x.req), .string (bs x.mer), .string (bs x.dq), .string (bs x.dm), .int .i64 x.unt, .int .i64 x.at_] 48) := sQ _ _ lk2
          intro ν3 fr3
          have fr := fr3
          have nuE := fr.nu
          simp (maxDischargeDepth := 16) only [argE_nil, argE_cons, ↓vmD, vmV, vmStd, Nat.reduceMul, ↓reduceIte, Nat.reduceAdd, Nat.reduceSub, Nat.reduceEqDiff, Nat.reduceLT, Nat.reduceLeDiff, reduceCtorEq, Int.reduceToNat, Int.reduceLT, Int.reduceLE, Int.reduceEq, Int.reduceNeg, Int.reduceBEq, Int.reduceBNe, String.reduceEq, forall_const, ↓vmDA, vmVA, ↓vmQA, vmR, vmRA, ↓vmSA, vmSV, tyS, nuE, SubA.skip, SubA.refl, fr.2, areDigits_v, panSum_v, rdigits_v, rsum_v, panLuhn_v, rLuhn_v, panCheck_v, rCheck_v, panCd_v, rCd_v, isPrefix_v, rMake_v, isLet_v, isId_v, isNm_v, isTm_v, rIsId_v, rIsNm_v, rDomain_v, nilProv_v, nilFind_v, nilRes_v, nilGet_v, nilChg_v, nilSus_v, nilResu_v, nilDel_v, nilRepl_v, nilOf_v, nilIs_v, t0, t1, tn, BEq.rfl, bne_self_eq_false]
          have sE2 : SubA E1 Q2 := SubA.trans sE sQ
          have sR2 : SubA R1 Q2 := SubA.trans sR sQ
          refine CallA.go (ofP_h E1 vb p ln T1 hE1 x.num) sE2 (fun v D h => SubA.trans h.choose_spec.choose_spec.2.2.1.right h.choose_spec.choose_spec.2.2.2) ?_
          rintro v D A1 ⟨v1, B1, rfl, ho1, dB1, hs1⟩ hD1 hQA _
          obtain ⟨q1', c1, rfl, _, st1⟩ := ho1.read bsC_len
          have st1' : StR bsC 1 A1 q1' (ofL T1 x.num) := st1.mono (SubA.trans (SubA.left B1 E1) (SubA.trans hs1 hD1))
          intro ν4 fr4
          have fr := fr4
          have nuE := fr.nu
          simp (maxDischargeDepth := 16) only [argE_nil, argE_cons, ↓vmD, vmV, vmStd, Nat.reduceMul, ↓reduceIte, Nat.reduceAdd, Nat.reduceSub, Nat.reduceEqDiff, Nat.reduceLT, Nat.reduceLeDiff, reduceCtorEq, Int.reduceToNat, Int.reduceLT, Int.reduceLE, Int.reduceEq, Int.reduceNeg, Int.reduceBEq, Int.reduceBNe, String.reduceEq, forall_const, ↓vmDA, vmVA, ↓vmQA, vmR, vmRA, ↓vmSA, vmSV, tyS, nuE, SubA.skip, SubA.refl, fr.2, areDigits_v, panSum_v, rdigits_v, rsum_v, panLuhn_v, rLuhn_v, panCheck_v, rCheck_v, panCd_v, rCd_v, isPrefix_v, rMake_v, isLet_v, isId_v, isNm_v, isTm_v, rIsId_v, rIsNm_v, rDomain_v, nilProv_v, nilFind_v, nilRes_v, nilGet_v, nilChg_v, nilSus_v, nilResu_v, nilDel_v, nilRepl_v, nilOf_v, nilIs_v, hQA]
          refine CallA.go (rOf_h R1 rb p ln T1 hR1 x.num) (SubA.trans sR2 hQA) (fun v D h => SubA.trans h.choose_spec.choose_spec.2.2.1.right h.choose_spec.choose_spec.2.2.2) ?_
          rintro v D2 A2 ⟨v2, B2, rfl, ho2, dB2, hs2⟩ hD2 hAA _
          obtain ⟨q2', c2, rfl, _, st2⟩ := ho2.read bsC_len
          have st2' : StR bsC 1 A2 q2' (ofL T1 x.num) := st2.mono (SubA.trans (SubA.left B2 R1) (SubA.trans hs2 hD2))
          have hT64 : T1.length ≤ 64 := by obtain ⟨_, _, _, _, hk⟩ := hR1.out; exact hk.2.2.2.2.2.1
          have sm := same_v A2 (ofL T1 x.num) q1' q2' c1 c2 (st1'.mono hAA) st2' (by have := ofL_len T1 x.num; omega)
          have i1 := isTok_w E1 vb p ln T1 hE1 x.num (by omega) A2 (SubA.trans sE2 (SubA.trans hQA hAA))
          have i2 := rIs_w R1 rb p ln T1 hR1 x.num (by omega) A2 (SubA.trans sR2 (SubA.trans hQA hAA))
          have tn2 := hAA _ _ (hQA _ _ tn)
          intro ν5 fr5
          have fr := fr5
          have nuE := fr.nu
          have hQ2 := SubA.trans hQA hAA
          simp (maxDischargeDepth := 16) only [argE_nil, argE_cons, ↓vmD, vmV, vmStd, Nat.reduceMul, ↓reduceIte, Nat.reduceAdd, Nat.reduceSub, Nat.reduceEqDiff, Nat.reduceLT, Nat.reduceLeDiff, reduceCtorEq, Int.reduceToNat, Int.reduceLT, Int.reduceLE, Int.reduceEq, Int.reduceNeg, Int.reduceBEq, Int.reduceBNe, String.reduceEq, forall_const, ↓vmDA, vmVA, ↓vmQA, vmR, vmRA, ↓vmSA, vmSV, tyS, nuE, SubA.skip, SubA.refl, fr.2, areDigits_v, panSum_v, rdigits_v, rsum_v, panLuhn_v, rLuhn_v, panCheck_v, rCheck_v, panCd_v, rCd_v, isPrefix_v, rMake_v, isLet_v, isId_v, isNm_v, isTm_v, rIsId_v, rIsNm_v, rDomain_v, nilProv_v, nilFind_v, nilRes_v, nilGet_v, nilChg_v, nilSus_v, nilResu_v, nilDel_v, nilRepl_v, nilOf_v, nilIs_v, hQ2, sm, i1, i2, bne_self_eq_false, BEq.rfl, tn2, we]
          exact LoopA.weak (ih (e := e + 1) (T := T1) (E := E1) (R := R1) (hd := hd') (hE := hE1) (hR := hR1) (sp := spN)) (by simp only [subE, get_cons, Nat.reduceEqDiff, ↓reduceIte, reduceCtorEq, Nat.reduceAdd, and_self, and_true]) (SubA.trans sERA (SubA.trans sQ hQ2))
theorem vaultLaw_w (A : AH) (hT : TabA A) (p : List UInt8) (len : Int) (L : List DoT) (q : Option Addr) (cap : Nat) (hL : StR doC 10 A q L) (hz : ∀ x ∈ L, SzT x) (hpk8 : ∀ x ∈ L, x.pick ≤ 255) (hl : L.length ≤ 9223372036854775807) (B_ : AH) (hB_ : SubA A B_) : valA Tryd.prog 5 #[.string (bs p), .int .i64 len, .slice q L.length cap] B_ = some (.bool true) := valA_eq (pureA_at (by kernel_rfl) (vaultLaw_h A hT p len L q cap hL hz hpk8 hl) hB_)
theorem vaultLaw_v (A : AH) (hT : TabA A) (p : List UInt8) (len : Int) (L : List DoT) (q : Option Addr) (cap : Nat) (hL : StR doC 10 A q L) (hz : ∀ x ∈ L, SzT x) (hpk8 : ∀ x ∈ L, x.pick ≤ 255) (hl : L.length ≤ 9223372036854775807) : valA Tryd.prog 5 #[.string (bs p), .int .i64 len, .slice q L.length cap] A = some (.bool true) := valA_eq (pureA_at (by kernel_rfl) (vaultLaw_h A hT p len L q cap hL hz hpk8 hl) (SubA.refl _))
set_option linter.unusedSimpArgs false
set_option linter.unusedVariables false
set_option maxHeartbeats 2000000
set_option maxRecDepth 20000
theorem wf_u8n {n : Int} (h : (Lit.int .u8 n).wf = true) : ∃ k : Nat, n = (k : Int) ∧ k ≤ 255 := by
  simp [Lit.wf, IntKind.min, IntKind.max, IntKind.bits, IntKind.signed] at h
  exact ⟨n.toNat, by omega, by omega⟩
theorem decT {N : Nat} {h : Heap} (es : List Value) (hl : es.length = 10) (hf : FitsB N h (.st 10 [(0, 1, .int .u8), (1, 1, .int .u8), (2, 1, .str), (3, 1, .str), (4, 1, .str), (5, 1, .str), (6, 3, .st 3 [(0, 1, .str), (1, 1, .str), (2, 1, .int .i64)]), (9, 1, .int .i64)]) es) : ∃ x, doC x = es ∧ x.pick ≤ 255 ∧ x.num.length ≤ N ∧ x.tok.length ≤ N ∧ x.req.length ≤ N ∧ x.mer.length ≤ N ∧ x.dq.length ≤ N ∧ x.dm.length ≤ N := by
  simp only [FitsB, FitsBL] at hf
  match es, hl with
  | [x0, x1, x2, x3, x4, x5, x6, x7, x8, x9], _ =>
    simp only [List.drop_succ_cons, List.drop_zero, List.take_succ_cons, List.take_zero, List.cons.injEq, and_true, List.length_cons, List.length_nil, true_and] at hf
    obtain ⟨⟨k, rfl, hk⟩, ⟨p, rfl, hp⟩, ⟨s2, rfl, b2⟩, ⟨s3, rfl, b3⟩, ⟨s4, rfl, b4⟩, ⟨s5, rfl, b5⟩, ⟨⟨s6, rfl, b6⟩, ⟨s7, rfl, b7⟩, ⟨u, rfl, hu⟩⟩, ⟨t, rfl, ht⟩⟩ := hf
    obtain ⟨k, rfl, _⟩ := wf_u8n hk
    obtain ⟨p, rfl, hp2⟩ := wf_u8n hp
    refine ⟨⟨k, p, s2.data.toList, s3.data.toList, s4.data.toList, s5.data.toList, s6.data.toList, s7.data.toList, u, t⟩, ?_, hp2, b2, b3, b4, b5, b6, b7⟩
    simp only [doC, ← bs_of]
theorem bs_of_inj {x y : DoT} (h : doC x = doC y) : x.pick = y.pick ∧ x.num = y.num ∧ x.tok = y.tok ∧ x.req = y.req ∧ x.mer = y.mer ∧ x.dq = y.dq ∧ x.dm = y.dm := by
  simp only [doC, List.cons.injEq, Value.int.injEq, Value.string.injEq, true_and, and_true] at h
  obtain ⟨_, h1, h2, h3, h4, h5, h6, h7, _⟩ := h
  exact ⟨by omega, bs_inj h2, bs_inj h3, bs_inj h4, bs_inj h5, bs_inj h6, bs_inj h7⟩
theorem vaults_walk (w : World) (ht : Lib.TabIs Tryd.prog w "internal/strconv.uint64pow10" .u64 Lib.pow10Tab) (p : ByteArray) (len : Int) (wl : (Lit.int .i64 len).wf = true) (a0 : Option Addr) (len0 cap0 : Nat) (w0 : Vm.FitsB 140737488351232 w.heap (.sl 10 (.st 10 [(0, 1, .int .u8), (1, 1, .int .u8), (2, 1, .str), (3, 1, .str), (4, 1, .str), (5, 1, .str), (6, 3, .st 3 [(0, 1, .str), (1, 1, .str), (2, 1, .int .i64)]), (9, 1, .int .i64)])) [.slice a0 len0 cap0]) :
    CallsH Tryd.prog 5 #[.string p, .int .i64 len, .slice a0 len0 cap0] w.heap fun e h' => e = .returned (.bool true) ∧ Grew w.heap h' := by
  obtain ⟨B, hB, hT⟩ := TabA.of ht
  obtain ⟨q, cap, L, e1, hl1, hl2, hb, A, hA, hL⟩ := list_fitsB doC (v := .slice a0 len0 cap0) (by decide) (fun es hl hf => (decT es hl hf).imp fun x h => h.1) w0 (by intro c hc; cases hc)
  cases e1
  have hm : cap0 ≤ 9223372036854775807 := by simpa only [maxLen] using hl2
  have hall : ∀ x ∈ L, x.pick ≤ 255 ∧ SzT x := fun x hx => by
    obtain ⟨y, hy, h0, h1, h2, h3, h4, h5, h6⟩ := decT (doC x) rfl (hb x hx)
    obtain ⟨g0, g1, g2, g3, g4, g5, g6⟩ := bs_of_inj hy
    rw [← g0]
    unfold SzT
    rw [← g1, ← g2, ← g3, ← g4, ← g5, ← g6]
    exact ⟨h0, h1, h2, h3, h4, h5, h6⟩
  rw [bs_of p]
  exact callsH_of_pure (vaultLaw_v (A ++ B) (hT.mono (sat_sub hA hB)) p.data.toList len L _ _ (hL.mono (SubA.left _ _)) (fun x hx => (hall x hx).2) (fun x hx => (hall x hx).1) (by omega)) (by kernel_rfl) (hA.both hB)
end Go.Proofs.YtoonmogjjddeeaaDoor
