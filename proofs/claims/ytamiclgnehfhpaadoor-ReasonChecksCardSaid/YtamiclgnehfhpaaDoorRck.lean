/-
Reasons: the reference's Decimal and Format; the law of checking, and its walk.
Conditions: none.
-/
import Derived.Test.YtamiclgnehfhpaaDoorLwk
namespace Go.Proofs.YtamiclgnehfhpaaDoor
open Go.Vm
set_option linter.unusedSimpArgs false
set_option linter.unusedVariables false
set_option maxHeartbeats 4000000
set_option maxRecDepth 20000
theorem vbRck : type_of% (And.intro @slIndexByte_v (And.intro @indexByte_v (And.intro @indexRune_v (And.intro @containsRune_v (And.intro @slHasPrefix_v (And.intro @hasPrefix_v (And.intro @classOf_v (And.intro @isWordByte_v (And.intro @letter_v (And.intro @digit_v (And.intro @wordAt_v (And.intro @rword_v (And.intro @skip_v (And.intro @rskip_v (And.intro @number_v (And.intro @rnumber_v (And.intro @literal_v (And.intro @rtext_v (And.intro @lexemeAt_v (And.intro @rlexeme_v (And.intro @isName_v (And.intro @risName_v (And.intro @possible_v (And.intro @days_v (And.intro @due_v (And.intro @rkind_v (And.intro @rdays_v (And.intro @rdaysS_v (And.intro @rdue_v (And.intro @soft_usd (And.intro @soft_ust (And.intro @cnvN_pu (And.intro @cnvN_up (@eqS_pp)))))))))))))))))))))))))))))))))) := And.intro @slIndexByte_v (And.intro @indexByte_v (And.intro @indexRune_v (And.intro @containsRune_v (And.intro @slHasPrefix_v (And.intro @hasPrefix_v (And.intro @classOf_v (And.intro @isWordByte_v (And.intro @letter_v (And.intro @digit_v (And.intro @wordAt_v (And.intro @rword_v (And.intro @skip_v (And.intro @rskip_v (And.intro @number_v (And.intro @rnumber_v (And.intro @literal_v (And.intro @rtext_v (And.intro @lexemeAt_v (And.intro @rlexeme_v (And.intro @isName_v (And.intro @risName_v (And.intro @possible_v (And.intro @days_v (And.intro @due_v (And.intro @rkind_v (And.intro @rdays_v (And.intro @rdaysS_v (And.intro @rdue_v (And.intro @soft_usd (And.intro @soft_ust (And.intro @cnvN_pu (And.intro @cnvN_up (@eqS_pp)))))))))))))))))))))))))))))))))
theorem dig_sl : ∀ (d : Nat), d < 10 → (ByteArray.mk #[48, 49, 50, 51, 52, 53, 54, 55, 56, 57]).extract d (d + 1) = bs [UInt8.ofNat (48 + d)] := by decide
theorem rDec1_h (n : Nat) (h0 : 0 < n) (hn : n ≤ 9223372036854775807) : CallA Tryd.prog 41 #[.int .i64 (n : Int), .int .i64 1] [] (fun u_ _ => u_ = .string (bs (Lib.decDigits n))) := by
  refine callA_of_denA ⟨Tryd.prog, 41, Tryd.f41, 25, [0, 1, 4, 5], [], [], _⟩ (args := [_, _]) Tryd.func41 rfl (by kernel_rfl) Tryd.ntmps41 (by simp) (by kernel_rfl) ?_
  intro ν fr; have nuE := fr.nu
  simp (maxDischargeDepth := 16) only [argE_nil, argE_cons, ↓vmD, vmV, vmStd, Nat.reduceMul, ↓reduceIte, Nat.reduceAdd, Nat.reduceSub, Nat.reduceEqDiff, Nat.reduceLT, Nat.reduceLeDiff, reduceCtorEq, Int.reduceToNat, Int.reduceLT, Int.reduceLE, Int.reduceEq, Int.reduceNeg, Int.reduceBEq, Int.reduceBNe, String.reduceEq, forall_const, ↓vmDA, vmVA, ↓vmQA, vmR, vmRA, ↓vmSA, vmSV, tyS, nuE, SubA.skip, SubA.refl, fr.2, vbRck, ↓sA_usd, ↓sA_ust]
  have hlen : (Lib.decDigits n).length ≤ 19 := dec_len 19 n (by omega) (by omega)
  obtain ⟨m, acc, hm, ha, hp, hd⟩ : ∃ (m : Nat) (acc : List UInt8), m = n ∧ acc = [] ∧ (m = 0 → acc ≠ []) ∧ Lib.decDigits n = (if m = 0 then [] else Lib.decDigits m) ++ acc := ⟨n, [], rfl, rfl, fun h => by omega, by rw [if_neg (by omega)]; simp⟩
  have hmn : m ≤ n := by omega
  rw [show (5, some (Value.string ⟨#[]⟩)) = (5, some (Value.string (bs acc))) by rw [ha]; rfl]
  rw [show (0, some (Value.int .i64 (n : Int))) = (0, some (Value.int .i64 (m : Int))) by rw [hm]]
  clear ha hm nuE fr
  induction m using Nat.strongRecOn generalizing acc with
  | ind m ih =>
    have hal : acc.length ≤ 19 := by have := congrArg List.length hd; rw [List.length_append] at this; omega
    by_cases hm0 : m = 0
    · subst hm0
      rw [if_pos rfl, List.nil_append] at hd
      have q1 : ((0 : Int) < ((0 : Nat) : Int)) = False := eq_false (by omega)
      have q2 : ((acc.length : Int) < 1) = False := eq_false (by have := List.length_pos_iff.2 (hp rfl); omega)
      refine LoopA.intro (by kernel_rfl) ?_
      intro ν fr; have nuE := fr.nu
      simp (maxDischargeDepth := 16) only [argE_nil, argE_cons, ↓vmD, vmV, vmStd, Nat.reduceMul, ↓reduceIte, Nat.reduceAdd, Nat.reduceSub, Nat.reduceEqDiff, Nat.reduceLT, Nat.reduceLeDiff, reduceCtorEq, Int.reduceToNat, Int.reduceLT, Int.reduceLE, Int.reduceEq, Int.reduceNeg, Int.reduceBEq, Int.reduceBNe, String.reduceEq, forall_const, ↓vmDA, vmVA, ↓vmQA, vmR, vmRA, ↓vmSA, vmSV, tyS, nuE, SubA.skip, SubA.refl, fr.2, vbRck, ↓sA_usd, ↓sA_ust, q1, q2, bs_size, hd]
    · rw [if_neg hm0] at hd
      have q1 : ((0 : Int) < (m : Int)) = True := eq_true (by omega)
      have r1 : (m : Int).tmod 10 = ((m % 10 : Nat) : Int) := by rw [Int.tmod_eq_emod_of_nonneg (by omega)]; omega
      have r0 : (((m % 10 : Nat) : Int) < 0) = False := eq_false (by omega)
      have r2 : IntKind.i64.wrap ((m : Int).tdiv 10) = ((m / 10 : Nat) : Int) := by rw [Int.tdiv_eq_ediv_of_nonneg (by omega), w_i64 (by omega) (by omega)]; omega
      have r3 : IntKind.i64.wrap (((m % 10 : Nat) : Int) + 1) = ((m % 10 + 1 : Nat) : Int) := by rw [w_i64 (by omega) (by omega)]; omega
      have r4 : (((m % 10 : Nat) : Int) ≤ ((m % 10 + 1 : Nat) : Int)) = True := by simp; omega
      have r5 : (((m % 10 + 1 : Nat) : Int) ≤ ((ByteArray.mk #[48, 49, 50, 51, 52, 53, 54, 55, 56, 57]).size : Int)) = True := by simp [ByteArray.size]; omega
      have ds := dig_sl (m % 10) (by omega)
      have s1 : 1 + acc.length ≤ 9223372036854775807 := by omega
      have hd2 : Lib.decDigits n = (if m / 10 = 0 then [] else Lib.decDigits (m / 10)) ++ (UInt8.ofNat (48 + m % 10) :: acc) := by
        rw [hd, Lib.decDigits]
        split
        · rename_i h10
          rw [if_pos (by omega), Nat.mod_eq_of_lt h10]; rfl
        · rename_i h10
          rw [if_neg (by omega)]; simp
      refine LoopA.intro (by kernel_rfl) ?_
      intro ν fr; have nuE := fr.nu
      simp (maxDischargeDepth := 16) only [argE_nil, argE_cons, ↓vmD, vmV, vmStd, Nat.reduceMul, ↓reduceIte, Nat.reduceAdd, Nat.reduceSub, Nat.reduceEqDiff, Nat.reduceLT, Nat.reduceLeDiff, reduceCtorEq, Int.reduceToNat, Int.reduceLT, Int.reduceLE, Int.reduceEq, Int.reduceNeg, Int.reduceBEq, Int.reduceBNe, String.reduceEq, forall_const, ↓vmDA, vmVA, ↓vmQA, vmR, vmRA, ↓vmSA, vmSV, tyS, nuE, SubA.skip, SubA.refl, fr.2, vbRck, ↓sA_usd, ↓sA_ust, q1, r1, r0, r2, r3, r4, r5, ds, bs_app, bs_size, s1, List.singleton_append]
      exact LoopA.weak (ih (m / 10) (by omega) (UInt8.ofNat (48 + m % 10) :: acc) (fun _ => by simp) hd2 (by omega)) (by simp only [subE, get_cons, Nat.reduceEqDiff, ↓reduceIte, reduceCtorEq, Nat.reduceAdd, and_self, and_true]) (SubA.refl _)
theorem rDec1_v (n : Nat) (h0 : 0 < n) (hn : n ≤ 9223372036854775807) (A_ : AH) : valA Tryd.prog 41 #[.int .i64 (n : Int), .int .i64 1] A_ = some (.string (bs (Lib.decDigits n))) := valA_eq (pureA_of (by kernel_rfl) (rDec1_h n h0 hn))
theorem rDecI {d : Int} (h : okD d = true) (A : AH) : valA Tryd.prog 41 #[.int .i64 d, .int .i64 1] A = some (.string (bs (Lib.itoa d))) := by
  simp only [okD, Bool.and_eq_true, decide_eq_true_eq] at h
  obtain ⟨m, rfl⟩ : ∃ m : Nat, d = (m : Int) := ⟨d.toNat, by omega⟩
  have : Lib.itoa (m : Int) = Lib.decDigits m := by simp [Lib.itoa]
  rw [this]
  exact rDec1_v m (by omega) (by omega) A
def spT (T : List Txt) : Txt := T.flatMap fun t => 32 :: t
theorem spT_app (a b : List Txt) : spT (a ++ b) = spT a ++ spT b := by simp [spT]
theorem spT_one (a : Txt) : spT [a] = 32 :: a := by simp [spT]
theorem join_sp : ∀ (T : List Txt) (a : Txt), Lib.join (a :: T) [32] = a ++ spT T
  | [], a => by simp [spT, Lib.join, List.intercalate]
  | b :: T, a => by rw [join_cons, join_sp T b]; simp [spT]
theorem fmtL_sp (r : Rn) : fmtL r = reasonT ++ [32] ++ r.code ++ [32] ++ Lib.itoa r.d1 ++ [32] ++ Lib.itoa r.d2 ++ [32] ++ Lib.itoa r.d3 ++ [32] ++ Lib.itoa r.d4 ++ (32 :: claimT) ++ spT r.cl ++ (32 :: defenceT) ++ spT r.df ++ [59, 10] := by
  unfold fmtL fmtW
  simp only [List.cons_append, List.append_assoc, List.nil_append]
  rw [join_sp]
  simp only [spT, List.flatMap_cons, List.flatMap_append, List.cons_append, List.append_assoc, List.nil_append]
theorem spT_take (T : List Txt) (j : Nat) : (spT (T.take j)).length ≤ (spT T).length := by
  conv => rhs; rw [← List.take_append_drop j T, spT_app, List.length_append]
  omega
theorem lit1 : (ByteArray.mk #[32]) = bs [32] := rfl
theorem lit2 : (ByteArray.mk #[114, 101, 97, 115, 111, 110, 32]) = bs (reasonT ++ [32]) := rfl
theorem lit3 : (ByteArray.mk #[32, 99, 108, 97, 105, 109]) = bs (32 :: claimT) := rfl
theorem lit4 : (ByteArray.mk #[32, 100, 101, 102, 101, 110, 99, 101]) = bs (32 :: defenceT) := rfl
theorem lit5 : (ByteArray.mk #[59, 10]) = bs [59, 10] := rfl
theorem rFmt_h (A : AH) (L : List Rs) (p : Option Addr) (cap : Nat) (hL : RsR A p L) (hl : L.length ≤ cap ∧ cap ≤ 9223372036854775807) : CallA Tryd.prog 17 #[.slice p L.length cap] A (fun u_ A_ => u_ = .string (bs (fmtE (L.map Rs.d))) ∧ SubA A A_) := by
  refine callA_of_denA ⟨Tryd.prog, 17, Tryd.f17, 86, [0, 2, 3, 4, 5, 6, 7, 8, 9], [], [], _⟩ (args := [_]) Tryd.func17 rfl (by kernel_rfl) Tryd.ntmps17 (by simp) (by kernel_rfl) ?_
  intro ν fr; have nuE := fr.nu
  have cv := rchk_w A L p cap hL hl A (SubA.refl _)
  by_cases h0 : chkE (L.map Rs.d) = 0
  rotate_left
  · have hf : fmtE (L.map Rs.d) = [] := if_neg h0
    rw [hf]
    simp (maxDischargeDepth := 16) only [argE_nil, argE_cons, ↓vmD, vmV, vmStd, Nat.reduceMul, ↓reduceIte, Nat.reduceAdd, Nat.reduceSub, Nat.reduceEqDiff, Nat.reduceLT, Nat.reduceLeDiff, reduceCtorEq, Int.reduceToNat, Int.reduceLT, Int.reduceLE, Int.reduceEq, Int.reduceNeg, Int.reduceBEq, Int.reduceBNe, String.reduceEq, forall_const, ↓vmDA, vmVA, ↓vmQA, vmR, vmRA, ↓vmSA, vmSV, tyS, nuE, SubA.skip, SubA.refl, fr.2, vbRck, ↓sA_usd, ↓sA_ust, rDec1_v, cv, eq_false h0]
    rfl
  have hf : fmtE (L.map Rs.d) = fmtF (L.map Rs.d) := if_pos h0
  rw [hf]
  obtain ⟨h32, hok⟩ := chkE_out h0
  rw [List.length_map] at h32
  simp (maxDischargeDepth := 16) only [argE_nil, argE_cons, ↓vmD, vmV, vmStd, Nat.reduceMul, ↓reduceIte, Nat.reduceAdd, Nat.reduceSub, Nat.reduceEqDiff, Nat.reduceLT, Nat.reduceLeDiff, reduceCtorEq, Int.reduceToNat, Int.reduceLT, Int.reduceLE, Int.reduceEq, Int.reduceNeg, Int.reduceBEq, Int.reduceBNe, String.reduceEq, forall_const, ↓vmDA, vmVA, ↓vmQA, vmR, vmRA, ↓vmSA, vmSV, tyS, nuE, SubA.skip, SubA.refl, fr.2, vbRck, ↓sA_usd, ↓sA_ust, rDec1_v, cv, h0]
  clear nuE fr cv hf
  obtain ⟨e, l, acc, he, hac0, hac, hd, hle⟩ : ∃ (e : Nat) (l : List Rs) (acc : Txt), e = 0 ∧ acc = [] ∧ acc = fmtF ((L.take e).map Rs.d) ∧ l = L.drop e ∧ e ≤ L.length := ⟨0, L, [], rfl, rfl, rfl, rfl, by omega⟩
  rw [show (4, some (Value.int .i64 0)) = (4, some (Value.int .i64 (e : Int))) by rw [he]; rfl, show (3, some (Value.string ⟨#[]⟩)) = (3, some (Value.string (bs acc))) by rw [hac0]; rfl]
  clear he hac0
  induction l generalizing e acc with
  | nil =>
    obtain ⟨hn1, hn2⟩ := drop_nil hd hle
    have lt : ((e : Int) < (L.length : Int)) = False := eq_false (by omega)
    rw [hn2] at hac
    refine LoopA.intro (by kernel_rfl) ?_
    intro ν fr; have nuE := fr.nu
    simp (maxDischargeDepth := 16) only [argE_nil, argE_cons, ↓vmD, vmV, vmStd, Nat.reduceMul, ↓reduceIte, Nat.reduceAdd, Nat.reduceSub, Nat.reduceEqDiff, Nat.reduceLT, Nat.reduceLeDiff, reduceCtorEq, Int.reduceToNat, Int.reduceLT, Int.reduceLE, Int.reduceEq, Int.reduceNeg, Int.reduceBEq, Int.reduceBNe, String.reduceEq, forall_const, ↓vmDA, vmVA, ↓vmQA, vmR, vmRA, ↓vmSA, vmSV, tyS, nuE, SubA.skip, SubA.refl, fr.2, vbRck, ↓sA_usd, ↓sA_ust, rDec1_v, lt]
    rw [← hac]
  | cons x l ih =>
    obtain ⟨ha, hlt, hd', htk⟩ := drop_some hd
    have lt : ((e : Int) < (L.length : Int)) = True := eq_true (by omega)
    have li : ((e : Int) < 0) = False := eq_false (by omega)
    have we : IntKind.i64.wrap ((e : Int) + 1) = ((e + 1 : Nat) : Int) := by rw [w_i64 (by omega) (by omega)]; omega
    obtain ⟨bk, off, cs, ty, fr0, hp0, hbk, hcr, hcc⟩ := hL.1.at ha
    have hxm := List.mem_of_getElem? ha
    have hxr := hL.2 x hxm
    have hxk := hok x.d (List.mem_map_of_mem hxm)
    have hac2 : fmtF ((L.take (e + 1)).map Rs.d) = acc ++ fmtL x.d := by rw [htk, List.map_append, hac]; simp [fmtF]
    have hlen : acc.length ≤ 32 * 410 := by
      have := fmtF_len ((L.take e).map Rs.d) fun r hr => hok r (by obtain ⟨y, hy, rfl⟩ := List.mem_map.1 hr; exact List.mem_map_of_mem (List.mem_of_mem_take hy))
      rw [← hac, List.length_map, List.length_take] at this
      have : min e L.length * 410 ≤ 32 * 410 := Nat.mul_le_mul_right _ (by omega)
      omega
    obtain ⟨fl1, fl2⟩ := fmtL_len hxk
    rw [fmtL_sp] at fl2
    simp only [List.length_append, List.length_cons, List.length_nil, Nat.reduceAdd] at fl2
    simp only [rsC] at hcr
    subst hp0
    refine LoopA.intro (by kernel_rfl) ?_
    intro ν fr; have nuE := fr.nu
    have w0 : Vm.look A (ν 0) = none := fr.2 0
    have w1 : Vm.look ((ν 0, rC x) :: A) (ν 1) = none := by simp only [Vm.look, nuE, if_false]; exact fr.2 1
    simp (maxDischargeDepth := 16) only [argE_nil, argE_cons, ↓vmD, vmV, vmStd, Nat.reduceMul, ↓reduceIte, Nat.reduceAdd, Nat.reduceSub, Nat.reduceEqDiff, Nat.reduceLT, Nat.reduceLeDiff, reduceCtorEq, Int.reduceToNat, Int.reduceLT, Int.reduceLE, Int.reduceEq, Int.reduceNeg, Int.reduceBEq, Int.reduceBNe, String.reduceEq, forall_const, ↓vmDA, vmVA, ↓vmQA, vmR, vmRA, ↓vmSA, vmSV, tyS, nuE, SubA.skip, SubA.refl, fr.2, vbRck, ↓sA_usd, ↓sA_ust, rDec1_v, lt, li, hbk, hcr, sc_i4, lit2, bs_app, bs_size]
    refine And.intro (by simp only [List.length_append, List.length_cons, List.length_nil, Nat.reduceAdd]; omega) (And.intro (by simp only [List.length_append, List.length_cons, List.length_nil, Nat.reduceAdd]; omega) ?_)
    have dst_ : ((ν 0 = ν 1) = False) ∧ ((ν 1 = ν 0) = False) := (by simp [nuE]); generalize ν 0 = rb at dst_  w0 w1 ⊢; generalize ν 1 = ib at dst_  w0 w1 ⊢
    clear nuE fr
    have okds := hxk.2.1
    simp only [okDs, Bool.and_eq_true] at okds
    have wi0 : IntKind.i64.wrap (0 + 1) = 1 := by decide
    have wi1 : IntKind.i64.wrap (1 + 1) = 2 := by decide
    have wi2 : IntKind.i64.wrap (2 + 1) = 3 := by decide
    have wi3 : IntKind.i64.wrap (3 + 1) = 4 := by decide
    refine LoopA.intro (by kernel_rfl) ?_
    intro ν fr; have nuE := And.intro (fr.mem (b := ib) (by simp)) (And.intro (fr.mem (b := rb) (by simp)) (And.intro dst_ fr.nu))
    simp (maxDischargeDepth := 16) only [argE_nil, argE_cons, ↓vmD, vmV, vmStd, Nat.reduceMul, ↓reduceIte, Nat.reduceAdd, Nat.reduceSub, Nat.reduceEqDiff, Nat.reduceLT, Nat.reduceLeDiff, reduceCtorEq, Int.reduceToNat, Int.reduceLT, Int.reduceLE, Int.reduceEq, Int.reduceNeg, Int.reduceBEq, Int.reduceBNe, String.reduceEq, forall_const, ↓vmDA, vmVA, ↓vmQA, vmR, vmRA, ↓vmSA, vmSV, tyS, nuE, SubA.skip, SubA.refl, fr.2, vbRck, ↓sA_usd, ↓sA_ust, rDec1_v, rDecI okds.1, lit1, bs_app, bs_size, wi0]
    refine And.intro (by simp only [List.length_append, List.length_cons, List.length_nil, Nat.reduceAdd]; omega) (And.intro (by simp only [List.length_append, List.length_cons, List.length_nil, Nat.reduceAdd]; omega) ?_)
    clear nuE fr
    refine LoopA.intro (by kernel_rfl) ?_
    intro ν fr; have nuE := And.intro (fr.mem (b := ib) (by simp)) (And.intro (fr.mem (b := rb) (by simp)) (And.intro dst_ fr.nu))
    simp (maxDischargeDepth := 16) only [argE_nil, argE_cons, ↓vmD, vmV, vmStd, Nat.reduceMul, ↓reduceIte, Nat.reduceAdd, Nat.reduceSub, Nat.reduceEqDiff, Nat.reduceLT, Nat.reduceLeDiff, reduceCtorEq, Int.reduceToNat, Int.reduceLT, Int.reduceLE, Int.reduceEq, Int.reduceNeg, Int.reduceBEq, Int.reduceBNe, String.reduceEq, forall_const, ↓vmDA, vmVA, ↓vmQA, vmR, vmRA, ↓vmSA, vmSV, tyS, nuE, SubA.skip, SubA.refl, fr.2, vbRck, ↓sA_usd, ↓sA_ust, rDec1_v, rDecI okds.2.1, lit1, bs_app, bs_size, wi1]
    refine And.intro (by simp only [List.length_append, List.length_cons, List.length_nil, Nat.reduceAdd]; omega) (And.intro (by simp only [List.length_append, List.length_cons, List.length_nil, Nat.reduceAdd]; omega) ?_)
    clear nuE fr
    refine LoopA.intro (by kernel_rfl) ?_
    intro ν fr; have nuE := And.intro (fr.mem (b := ib) (by simp)) (And.intro (fr.mem (b := rb) (by simp)) (And.intro dst_ fr.nu))
    simp (maxDischargeDepth := 16) only [argE_nil, argE_cons, ↓vmD, vmV, vmStd, Nat.reduceMul, ↓reduceIte, Nat.reduceAdd, Nat.reduceSub, Nat.reduceEqDiff, Nat.reduceLT, Nat.reduceLeDiff, reduceCtorEq, Int.reduceToNat, Int.reduceLT, Int.reduceLE, Int.reduceEq, Int.reduceNeg, Int.reduceBEq, Int.reduceBNe, String.reduceEq, forall_const, ↓vmDA, vmVA, ↓vmQA, vmR, vmRA, ↓vmSA, vmSV, tyS, nuE, SubA.skip, SubA.refl, fr.2, vbRck, ↓sA_usd, ↓sA_ust, rDec1_v, rDecI okds.2.2.1, lit1, bs_app, bs_size, wi2]
    refine And.intro (by simp only [List.length_append, List.length_cons, List.length_nil, Nat.reduceAdd]; omega) (And.intro (by simp only [List.length_append, List.length_cons, List.length_nil, Nat.reduceAdd]; omega) ?_)
    clear nuE fr
    refine LoopA.intro (by kernel_rfl) ?_
    intro ν fr; have nuE := And.intro (fr.mem (b := ib) (by simp)) (And.intro (fr.mem (b := rb) (by simp)) (And.intro dst_ fr.nu))
    simp (maxDischargeDepth := 16) only [argE_nil, argE_cons, ↓vmD, vmV, vmStd, Nat.reduceMul, ↓reduceIte, Nat.reduceAdd, Nat.reduceSub, Nat.reduceEqDiff, Nat.reduceLT, Nat.reduceLeDiff, reduceCtorEq, Int.reduceToNat, Int.reduceLT, Int.reduceLE, Int.reduceEq, Int.reduceNeg, Int.reduceBEq, Int.reduceBNe, String.reduceEq, forall_const, ↓vmDA, vmVA, ↓vmQA, vmR, vmRA, ↓vmSA, vmSV, tyS, nuE, SubA.skip, SubA.refl, fr.2, vbRck, ↓sA_usd, ↓sA_ust, rDec1_v, rDecI okds.2.2.2, lit1, bs_app, bs_size, wi3]
    refine And.intro (by simp only [List.length_append, List.length_cons, List.length_nil, Nat.reduceAdd]; omega) (And.intro (by simp only [List.length_append, List.length_cons, List.length_nil, Nat.reduceAdd]; omega) ?_)
    clear nuE fr
    refine LoopA.intro (by kernel_rfl) ?_
    intro ν fr; have nuE := And.intro (fr.mem (b := ib) (by simp)) (And.intro (fr.mem (b := rb) (by simp)) (And.intro dst_ fr.nu))
    simp (maxDischargeDepth := 16) only [argE_nil, argE_cons, ↓vmD, vmV, vmStd, Nat.reduceMul, ↓reduceIte, Nat.reduceAdd, Nat.reduceSub, Nat.reduceEqDiff, Nat.reduceLT, Nat.reduceLeDiff, reduceCtorEq, Int.reduceToNat, Int.reduceLT, Int.reduceLE, Int.reduceEq, Int.reduceNeg, Int.reduceBEq, Int.reduceBNe, String.reduceEq, forall_const, ↓vmDA, vmVA, ↓vmQA, vmR, vmRA, ↓vmSA, vmSV, tyS, nuE, SubA.skip, SubA.refl, fr.2, vbRck, ↓sA_usd, ↓sA_ust, rDec1_v, lit3, bs_app, bs_size]
    refine And.intro (by first | omega | (simp only [List.length_append, List.length_cons, List.length_nil, Nat.reduceAdd]; omega)) ?_
    clear nuE fr
    have hsub : SubA A ((ib, ibB x.d) :: (rb, rC x) :: A) := SubA.trans (SubA.fresh w0 (SubA.refl _)) (SubA.fresh w1 (SubA.refl _))
    simp only [ibB, rC, rsC] at hsub
    obtain ⟨a1, ha1⟩ : ∃ z : Txt, z = acc ++ (reasonT ++ [32]) ++ x.d.code ++ [32] ++ Lib.itoa x.d.d1 ++ [32] ++ Lib.itoa x.d.d2 ++ [32] ++ Lib.itoa x.d.d3 ++ [32] ++ Lib.itoa x.d.d4 ++ (32 :: claimT) := ⟨_, rfl⟩
    rw [← ha1]
    have la1 : a1.length + (spT x.d.cl).length + (spT x.d.df).length ≤ 30000 := by rw [ha1]; simp only [List.length_append, List.length_cons, List.length_nil, Nat.reduceAdd]; omega
    have hTcl := hxr.1
    have kTcl := (kindsE_out hxk.2.2.1).1
    obtain ⟨j, K, s1, hj0, hs0, hs, hK, hjl⟩ : ∃ (j : Nat) (K : List Txt) (z : Txt), j = 0 ∧ z = a1 ∧ z = a1 ++ spT (x.d.cl.take j) ∧ K = x.d.cl.drop j ∧ j ≤ x.d.cl.length := ⟨0, x.d.cl, a1, rfl, rfl, by simp [spT], rfl, by omega⟩
    rw [show (8, some (Value.int .i64 0)) = (8, some (Value.int .i64 (j : Int))) by rw [hj0]; rfl, ← hs0]
    clear hj0 hs0
    induction K generalizing j s1 with
    | cons y K jh =>
      obtain ⟨hy, hjt, hK', hyt⟩ := drop_some hK
      have lt2 : ((j : Int) < (x.d.cl.length : Int)) = True := eq_true (by omega)
      have li2 : ((j : Int) < 0) = False := eq_false (by omega)
      have we2 : IntKind.i64.wrap ((j : Int) + 1) = ((j + 1 : Nat) : Int) := by rw [w_i64 (by omega) (by omega)]; omega
      obtain ⟨b2, off2, cs2, ty2, fr2, hp2, hb2, hc2, hcc2⟩ := hTcl.1.at hy
      have g2 : cs2[off2 + j * 1]? = some (.string (bs y)) := hcc2 0 _ rfl
      have hb3 := hsub _ _ hb2
      have q1 : (ib = b2) = False := eq_false fun h => by rw [← h] at hb2; simp only [Vm.look, dst_.2, if_false, dst_] at w1; rw [hb2] at w1; cases w1
      have q2 : (rb = b2) = False := eq_false fun h => by rw [← h] at hb2; rw [hb2] at w0; cases w0
      have hs2 : s1 ++ [32] ++ y = a1 ++ spT (x.d.cl.take (j + 1)) := by rw [hyt, spT_app, spT_one, hs]; simp
      have ls2 := spT_take x.d.cl (j + 1)
      have ls3 := congrArg List.length hs2
      simp only [List.length_append, List.length_cons, List.length_nil, Nat.reduceAdd] at ls3
      refine LoopA.intro (by kernel_rfl) ?_
      intro ν fr; have nuE := And.intro (fr.mem (b := ib) (by simp)) (And.intro (fr.mem (b := rb) (by simp)) (And.intro dst_ fr.nu))
      simp (maxDischargeDepth := 16) only [argE_nil, argE_cons, ↓vmD, vmV, vmStd, Nat.reduceMul, ↓reduceIte, Nat.reduceAdd, Nat.reduceSub, Nat.reduceEqDiff, Nat.reduceLT, Nat.reduceLeDiff, reduceCtorEq, Int.reduceToNat, Int.reduceLT, Int.reduceLE, Int.reduceEq, Int.reduceNeg, Int.reduceBEq, Int.reduceBNe, String.reduceEq, forall_const, ↓vmDA, vmVA, ↓vmQA, vmR, vmRA, ↓vmSA, vmSV, tyS, nuE, SubA.skip, SubA.refl, fr.2, vbRck, ↓sA_usd, ↓sA_ust, rDec1_v, lt2, li2, hp2, hb2, q1, q2, g2, lit1, bs_app, bs_size, we2]
      refine And.intro (by omega) (And.intro (by simp only [List.length_append, List.length_cons, List.length_nil, Nat.reduceAdd]; omega) ?_)
      have jh' := jh (j + 1) (s1 ++ [32] ++ y) hs2 hK' (by omega)
      rw [hp2] at jh'
      exact LoopA.weak jh' (by simp only [subE, get_cons, Nat.reduceEqDiff, ↓reduceIte, reduceCtorEq, Nat.reduceAdd, and_self, and_true]) (SubA.refl _)
    | nil =>
      obtain ⟨hn1, hn2⟩ := drop_nil hK hjl
      have lt2 : ((j : Int) < (x.d.cl.length : Int)) = False := eq_false (by omega)
      rw [hn2] at hs
      have ls3 := congrArg List.length hs
      simp only [List.length_append] at ls3
      refine LoopA.intro (by kernel_rfl) ?_
      intro ν fr; have nuE := And.intro (fr.mem (b := ib) (by simp)) (And.intro (fr.mem (b := rb) (by simp)) (And.intro dst_ fr.nu))
      have hs1' := hs
      simp (maxDischargeDepth := 16) only [argE_nil, argE_cons, ↓vmD, vmV, vmStd, Nat.reduceMul, ↓reduceIte, Nat.reduceAdd, Nat.reduceSub, Nat.reduceEqDiff, Nat.reduceLT, Nat.reduceLeDiff, reduceCtorEq, Int.reduceToNat, Int.reduceLT, Int.reduceLE, Int.reduceEq, Int.reduceNeg, Int.reduceBEq, Int.reduceBNe, String.reduceEq, forall_const, ↓vmDA, vmVA, ↓vmQA, vmR, vmRA, ↓vmSA, vmSV, tyS, nuE, SubA.skip, SubA.refl, fr.2, vbRck, ↓sA_usd, ↓sA_ust, rDec1_v, lt2, lit4, bs_app, bs_size]
      refine And.intro (by first | omega | (simp only [List.length_append, List.length_cons, List.length_nil, Nat.reduceAdd]; omega)) ?_
      clear nuE fr
      obtain ⟨a2, ha2⟩ : ∃ z : Txt, z = s1 ++ (32 :: defenceT) := ⟨_, rfl⟩
      rw [← ha2]
      have la2 : a2.length + (spT x.d.df).length ≤ 50000 := by rw [ha2]; simp only [List.length_append, List.length_cons, List.length_nil, Nat.reduceAdd]; omega
      have hTdf := hxr.2
      have kTdf := (kindsE_out hxk.2.2.2).1
      obtain ⟨j, K, s2, hj0, hs0, hs, hK, hjl⟩ : ∃ (j : Nat) (K : List Txt) (z : Txt), j = 0 ∧ z = a2 ∧ z = a2 ++ spT (x.d.df.take j) ∧ K = x.d.df.drop j ∧ j ≤ x.d.df.length := ⟨0, x.d.df, a2, rfl, rfl, by simp [spT], rfl, by omega⟩
      rw [show (9, some (Value.int .i64 0)) = (9, some (Value.int .i64 (j : Int))) by rw [hj0]; rfl, ← hs0]
      clear hj0 hs0
      induction K generalizing j s2 with
      | cons y K jh =>
        obtain ⟨hy, hjt, hK', hyt⟩ := drop_some hK
        have lt2 : ((j : Int) < (x.d.df.length : Int)) = True := eq_true (by omega)
        have li2 : ((j : Int) < 0) = False := eq_false (by omega)
        have we2 : IntKind.i64.wrap ((j : Int) + 1) = ((j + 1 : Nat) : Int) := by rw [w_i64 (by omega) (by omega)]; omega
        obtain ⟨b2, off2, cs2, ty2, fr2, hp2, hb2, hc2, hcc2⟩ := hTdf.1.at hy
        have g2 : cs2[off2 + j * 1]? = some (.string (bs y)) := hcc2 0 _ rfl
        have hb3 := hsub _ _ hb2
        have q1 : (ib = b2) = False := eq_false fun h => by rw [← h] at hb2; simp only [Vm.look, dst_.2, if_false, dst_] at w1; rw [hb2] at w1; cases w1
        have q2 : (rb = b2) = False := eq_false fun h => by rw [← h] at hb2; rw [hb2] at w0; cases w0
        have hs2 : s2 ++ [32] ++ y = a2 ++ spT (x.d.df.take (j + 1)) := by rw [hyt, spT_app, spT_one, hs]; simp
        have ls2 := spT_take x.d.df (j + 1)
        have ls3 := congrArg List.length hs2
        simp only [List.length_append, List.length_cons, List.length_nil, Nat.reduceAdd] at ls3
        refine LoopA.intro (by kernel_rfl) ?_
        intro ν fr; have nuE := And.intro (fr.mem (b := ib) (by simp)) (And.intro (fr.mem (b := rb) (by simp)) (And.intro dst_ fr.nu))
        simp (maxDischargeDepth := 16) only [argE_nil, argE_cons, ↓vmD, vmV, vmStd, Nat.reduceMul, ↓reduceIte, Nat.reduceAdd, Nat.reduceSub, Nat.reduceEqDiff, Nat.reduceLT, Nat.reduceLeDiff, reduceCtorEq, Int.reduceToNat, Int.reduceLT, Int.reduceLE, Int.reduceEq, Int.reduceNeg, Int.reduceBEq, Int.reduceBNe, String.reduceEq, forall_const, ↓vmDA, vmVA, ↓vmQA, vmR, vmRA, ↓vmSA, vmSV, tyS, nuE, SubA.skip, SubA.refl, fr.2, vbRck, ↓sA_usd, ↓sA_ust, rDec1_v, lt2, li2, hp2, hb2, q1, q2, g2, lit1, bs_app, bs_size, we2]
        refine And.intro (by omega) (And.intro (by simp only [List.length_append, List.length_cons, List.length_nil, Nat.reduceAdd]; omega) ?_)
        have jh' := jh (j + 1) (s2 ++ [32] ++ y) hs2 hK' (by omega)
        rw [hp2] at jh'
        exact LoopA.weak jh' (by simp only [subE, get_cons, Nat.reduceEqDiff, ↓reduceIte, reduceCtorEq, Nat.reduceAdd, and_self, and_true]) (SubA.refl _)
      | nil =>
        obtain ⟨hn1, hn2⟩ := drop_nil hK hjl
        have lt2 : ((j : Int) < (x.d.df.length : Int)) = False := eq_false (by omega)
        rw [hn2] at hs
        have ls3 := congrArg List.length hs
        simp only [List.length_append] at ls3
        refine LoopA.intro (by kernel_rfl) ?_
        intro ν fr; have nuE := And.intro (fr.mem (b := ib) (by simp)) (And.intro (fr.mem (b := rb) (by simp)) (And.intro dst_ fr.nu))
        simp (maxDischargeDepth := 16) only [argE_nil, argE_cons, ↓vmD, vmV, vmStd, Nat.reduceMul, ↓reduceIte, Nat.reduceAdd, Nat.reduceSub, Nat.reduceEqDiff, Nat.reduceLT, Nat.reduceLeDiff, reduceCtorEq, Int.reduceToNat, Int.reduceLT, Int.reduceLE, Int.reduceEq, Int.reduceNeg, Int.reduceBEq, Int.reduceBNe, String.reduceEq, forall_const, ↓vmDA, vmVA, ↓vmQA, vmR, vmRA, ↓vmSA, vmSV, tyS, nuE, SubA.skip, SubA.refl, fr.2, vbRck, ↓sA_usd, ↓sA_ust, rDec1_v, lt2, lit5, bs_app, bs_size, we]
        refine And.intro (by first | omega | (simp only [List.length_append, List.length_cons, List.length_nil, Nat.reduceAdd]; omega)) ?_
        have hfin : s2 ++ [59, 10] = acc ++ fmtL x.d := by rw [fmtL_sp, hs, ha2]; subst ha1; rw [hs1']; simp only [List.append_assoc, List.cons_append, List.nil_append]
        exact LoopA.weak (ih (e + 1) (s2 ++ [59, 10]) (by rw [hfin, hac2]) hd' (by omega)) (by simp only [subE, get_cons, Nat.reduceEqDiff, ↓reduceIte, reduceCtorEq, Nat.reduceAdd, and_self, and_true]) hsub
theorem rFmt_w (A : AH) (L : List Rs) (p : Option Addr) (cap : Nat) (hL : RsR A p L) (hl : L.length ≤ cap ∧ cap ≤ 9223372036854775807) (B_ : AH) (hB_ : SubA A B_) : valA Tryd.prog 17 #[.slice p L.length cap] B_ = some (.string (bs (fmtE (L.map Rs.d)))) := valA_eq (pureA_at (by kernel_rfl) (rFmt_h A L p cap hL hl) hB_)
theorem rFmt_v (A : AH) (L : List Rs) (p : Option Addr) (cap : Nat) (hL : RsR A p L) (hl : L.length ≤ cap ∧ cap ≤ 9223372036854775807) : valA Tryd.prog 17 #[.slice p L.length cap] A = some (.string (bs (fmtE (L.map Rs.d)))) := valA_eq (pureA_at (by kernel_rfl) (rFmt_h A L p cap hL hl) (SubA.refl _))
theorem findS_dd (c : Txt) (L : List Rs) : ((findS c L).getD noRs).d = (findR c (L.map Rs.d)).getD noRn := by
  rw [← findS_d]; cases findS c L <;> rfl
theorem findS_in {A : AH} (c : Txt) {L : List Rs} {p : Option Addr} (h : RsR A p L) : InR A ((findS c L).getD noRs) := by
  cases hf : findS c L with
  | none => exact ⟨TxR.nil, TxR.nil⟩
  | some r => exact h.2 r (findS_mem hf)
theorem chkLaw_h (A : AH) (hT : TabA A) (L : List Rs) (p : Option Addr) (cap : Nat) (hL : RsR A p L) (hl : L.length ≤ cap ∧ cap ≤ 9223372036854775807) (c : Txt) : CallA Tryd.prog 3 #[.slice p L.length cap, .string (bs c)] A (fun u_ A_ => u_ = .bool true ∧ SubA A A_) := by
  refine callA_of_denA ⟨Tryd.prog, 3, Tryd.f3, 50, [0, 1, 4, 5, 6, 7, 8], [9, 10, 11], [], _⟩ (args := [_, _]) Tryd.func3 rfl (by kernel_rfl) Tryd.ntmps3 (by simp) (by kernel_rfl) ?_
  intro ν fr; have nuE := fr.nu
  simp (maxDischargeDepth := 16) only [argE_nil, argE_cons, ↓vmD, vmV, vmStd, Nat.reduceMul, ↓reduceIte, Nat.reduceAdd, Nat.reduceSub, Nat.reduceEqDiff, Nat.reduceLT, Nat.reduceLeDiff, reduceCtorEq, Int.reduceToNat, Int.reduceLT, Int.reduceLE, Int.reduceEq, Int.reduceNeg, Int.reduceBEq, Int.reduceBNe, String.reduceEq, forall_const, ↓vmDA, vmVA, ↓vmQA, vmR, vmRA, ↓vmSA, vmSV, tyS, nuE, SubA.skip, SubA.refl, fr.2, vbRck, ↓sA_usd, ↓sA_ust, rDec1_v]
  clear nuE fr
  refine CallA.newX (small_n A L p cap hL) (SubA.refl A) ?_
  rintro v B ⟨b, rfl, hb⟩ hd
  refine ⟨A, hd.right, ?_⟩
  cases b with
  | false =>
    intro ν fr; have nuE := fr.nu
    simp (maxDischargeDepth := 16) only [argE_nil, argE_cons, ↓vmD, vmV, vmStd, Nat.reduceMul, ↓reduceIte, Nat.reduceAdd, Nat.reduceSub, Nat.reduceEqDiff, Nat.reduceLT, Nat.reduceLeDiff, reduceCtorEq, Int.reduceToNat, Int.reduceLT, Int.reduceLE, Int.reduceEq, Int.reduceNeg, Int.reduceBEq, Int.reduceBNe, String.reduceEq, forall_const, ↓vmDA, vmVA, ↓vmQA, vmR, vmRA, ↓vmSA, vmSV, tyS, nuE, SubA.skip, SubA.refl, fr.2, vbRck, ↓sA_usd, ↓sA_ust, rDec1_v]
    clear nuE fr
    refine CallA.newX (awk_n A hT) (SubA.refl A) ?_
    rintro v B rfl hd
    refine ⟨A, hd.right, ?_⟩
    intro ν fr; have nuE := fr.nu
    simp (maxDischargeDepth := 16) only [argE_nil, argE_cons, ↓vmD, vmV, vmStd, Nat.reduceMul, ↓reduceIte, Nat.reduceAdd, Nat.reduceSub, Nat.reduceEqDiff, Nat.reduceLT, Nat.reduceLeDiff, reduceCtorEq, Int.reduceToNat, Int.reduceLT, Int.reduceLE, Int.reduceEq, Int.reduceNeg, Int.reduceBEq, Int.reduceBNe, String.reduceEq, forall_const, ↓vmDA, vmVA, ↓vmQA, vmR, vmRA, ↓vmSA, vmSV, tyS, nuE, SubA.skip, SubA.refl, fr.2, vbRck, ↓sA_usd, ↓sA_ust, rDec1_v]
  | true =>
  obtain ⟨h40, hbig⟩ := hb rfl
  have hB : BigR L := fun r hr => by have := hbig r hr; omega
  intro ν fr; have nuE := fr.nu
  simp (maxDischargeDepth := 16) only [argE_nil, argE_cons, ↓vmD, vmV, vmStd, Nat.reduceMul, ↓reduceIte, Nat.reduceAdd, Nat.reduceSub, Nat.reduceEqDiff, Nat.reduceLT, Nat.reduceLeDiff, reduceCtorEq, Int.reduceToNat, Int.reduceLT, Int.reduceLE, Int.reduceEq, Int.reduceNeg, Int.reduceBEq, Int.reduceBNe, String.reduceEq, forall_const, ↓vmDA, vmVA, ↓vmQA, vmR, vmRA, ↓vmSA, vmSV, tyS, nuE, SubA.skip, SubA.refl, fr.2, vbRck, ↓sA_usd, ↓sA_ust, rDec1_v]
  clear nuE fr
  refine CallA.newX (find_n A L p cap c hL hB (by omega)) (SubA.refl A) ?_
  rintro v2 B2 ⟨r, rfl, hrd, hrin⟩ hdB2
  refine ⟨B2 ++ A, SubA.refl _, ?_⟩
  have hL2 := hL.mono hdB2.right
  have e1 := rfind_w (B2 ++ A) L p cap c hL2 (by omega)
  have hq := findS_in c hL2
  have hqd := findS_dd c L
  generalize (findS c L).getD noRs = q at e1 hq hqd
  have hfs : (findS c L).isSome = (findR c (L.map Rs.d)).isSome := by rw [← findS_d]; cases findS c L <;> rfl
  rw [hfs] at e1
  rw [← hrd] at hqd
  have e2 := chkR_w (B2 ++ A) L p cap hL2 hl
  have e3 := rchk_w (B2 ++ A) L p cap hL2 hl
  have e4 := fmtP_w (B2 ++ A) (hT.mono hdB2.right) L p cap hL2 hl
  have e5 := rFmt_w (B2 ++ A) L p cap hL2 hl
  obtain ⟨rd, p1, c1, p2, c2⟩ := r
  obtain ⟨qd, q1, k1, q2, k2⟩ := q
  simp only at hqd
  subst hqd
  have e6 := eqRs_w (B2 ++ A) qd p1 p2 q1 q2 c1 c2 k1 k2 hrin hq
  simp only [rsC] at e1 ⊢
  intro ν fr; have nuE := fr.nu
  have w0 : Vm.look (B2 ++ A) (ν 0) = none := fr.2 0
  have w1 : Vm.look (B2 ++ A) (ν 1) = none := fr.2 1
  have s1 : ∀ o, SubA (B2 ++ A) ((ν 0, o) :: (B2 ++ A)) := fun o => SubA.fresh w0 (SubA.refl _)
  have s2 : ∀ o o', SubA (B2 ++ A) ((ν 1, o') :: (ν 0, o) :: (B2 ++ A)) := fun o o' => SubA.trans (s1 o) (SubA.fresh (look_c1 (by simp [nuE]) w1) (SubA.refl _))
  have e1' := fun o => e1 _ (s1 o)
  have e2' := fun o o' => e2 _ (s2 o o')
  have e3' := fun o o' => e3 _ (s2 o o')
  have e4' := fun o o' => e4 _ (s2 o o')
  have e5' := fun o o' => e5 _ (s2 o o')
  have e6' := fun o o' => e6 _ (s2 o o')
  simp (maxDischargeDepth := 16) only [argE_nil, argE_cons, ↓vmD, vmV, vmStd, Nat.reduceMul, ↓reduceIte, Nat.reduceAdd, Nat.reduceSub, Nat.reduceEqDiff, Nat.reduceLT, Nat.reduceLeDiff, reduceCtorEq, Int.reduceToNat, Int.reduceLT, Int.reduceLE, Int.reduceEq, Int.reduceNeg, Int.reduceBEq, Int.reduceBNe, String.reduceEq, forall_const, ↓vmDA, vmVA, ↓vmQA, vmR, vmRA, ↓vmSA, vmSV, tyS, nuE, SubA.skip, SubA.refl, fr.2, vbRck, ↓sA_usd, ↓sA_ust, rDec1_v, e1', e2', e3', e4', e5', e6']
  clear nuE fr e1' e2' e3' e4' e5' e6'
  refine CallA.newX (awk_n A hT) (SubA.trans hdB2.right (s2 _ _)) ?_
  rintro v B rfl hd
  refine ⟨A, SubA.trans (SubA.trans hdB2.right (s2 _ _)) hd.right, ?_⟩
  intro ν fr; have nuE := fr.nu
  simp (maxDischargeDepth := 16) only [argE_nil, argE_cons, ↓vmD, vmV, vmStd, Nat.reduceMul, ↓reduceIte, Nat.reduceAdd, Nat.reduceSub, Nat.reduceEqDiff, Nat.reduceLT, Nat.reduceLeDiff, reduceCtorEq, Int.reduceToNat, Int.reduceLT, Int.reduceLE, Int.reduceEq, Int.reduceNeg, Int.reduceBEq, Int.reduceBNe, String.reduceEq, forall_const, ↓vmDA, vmVA, ↓vmQA, vmR, vmRA, ↓vmSA, vmSV, tyS, nuE, SubA.skip, SubA.refl, fr.2, vbRck, ↓sA_usd, ↓sA_ust, rDec1_v]
theorem chkLaw_w (A : AH) (hT : TabA A) (L : List Rs) (p : Option Addr) (cap : Nat) (hL : RsR A p L) (hl : L.length ≤ cap ∧ cap ≤ 9223372036854775807) (c : Txt) (B_ : AH) (hB_ : SubA A B_) : valA Tryd.prog 3 #[.slice p L.length cap, .string (bs c)] B_ = some (.bool true) := valA_eq (pureA_at (by kernel_rfl) (chkLaw_h A hT L p cap hL hl c) hB_)
theorem chkLaw_v (A : AH) (hT : TabA A) (L : List Rs) (p : Option Addr) (cap : Nat) (hL : RsR A p L) (hl : L.length ≤ cap ∧ cap ≤ 9223372036854775807) (c : Txt) : valA Tryd.prog 3 #[.slice p L.length cap, .string (bs c)] A = some (.bool true) := valA_eq (pureA_at (by kernel_rfl) (chkLaw_h A hT L p cap hL hl c) (SubA.refl _))
theorem checks_walk (w : World) (ht : Lib.TabIs Tryd.prog w "internal/strconv.uint64pow10" .u64 Lib.pow10Tab) (a0 : Option Addr) (len0 cap0 : Nat) (w0 : Vm.Fits w.heap (.sl 7 (.st 7 [(0, 1, .str), (1, 1, .int .i64), (2, 1, .int .i64), (3, 1, .int .i64), (4, 1, .int .i64), (5, 1, .sl 1 .str), (6, 1, .sl 1 .str)])) [.slice a0 len0 cap0]) (a1 : ByteArray) :
    CallsH Tryd.prog 3 #[.slice a0 len0 cap0, .string a1] w.heap fun e h' => e = .returned (.bool true) ∧ Grew w.heap h' := by
  obtain ⟨B, hB, hT⟩ := TabA.of ht
  obtain ⟨L, A, rfl, h1, h2, hA, hL⟩ := tab_in w0
  rw [bs_of a1]
  exact callsH_of_pure (chkLaw_v (A ++ B) (hT.mono (sat_sub hA hB)) L a0 cap0 (hL.mono (SubA.left _ _)) ⟨h1, h2⟩ _) (by kernel_rfl) (hA.both hB)
end Go.Proofs.YtamiclgnehfhpaaDoor
