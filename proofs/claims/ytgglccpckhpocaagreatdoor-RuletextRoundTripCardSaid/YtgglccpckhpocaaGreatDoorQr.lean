/-
The reference: texts.
Conditions: none.
-/
import Derived.Test.YtgglccpckhpocaaGreatDoorQn
import Derived.Test.YtgglccpckhpocaaGreatDoorQp
set_option linter.unusedSimpArgs false
set_option linter.unusedVariables false
namespace Go.Proofs.YtgglccpckhpocaaGreatDoor
open Go.Vm
set_option maxHeartbeats 4000000
set_option maxRecDepth 20000
theorem vbQr : type_of% (An @slIndexByte_v (An @indexByte_v (An @indexRune_v (An @containsRune_v (An @slHasPrefix_v (An @hasPrefix_v (An @classOf_v (An @isWordByte_v (An @letter_v (An @digit_v (An @wordAt_v (An @rword_v (An @skip_v (An @rskip_v (An @number_v (An @rnumber_v (An @literal_v (An @rtext_v (An @lexemeAt_v (An @rlexeme_v (An @isName_v (An @risName_v (An @resV_v (An @soft_usd (An @soft_ust (An @cnvN_pu (An @cnvN_up (An @eqS_pp (An @isNameV_v (An @isLitV_v (An @hasF_v (An @lvV_v (An @syV_v (An @wordV_v (An @nameV_v (An @rreV_v (An @rinV_v @rprtV_v))))))))))))))))))))))))))))))))))))) := ⟨@slIndexByte_v, @indexByte_v, @indexRune_v, @containsRune_v, @slHasPrefix_v, @hasPrefix_v, @classOf_v, @isWordByte_v, @letter_v, @digit_v, @wordAt_v, @rword_v, @skip_v, @rskip_v, @number_v, @rnumber_v, @literal_v, @rtext_v, @lexemeAt_v, @rlexeme_v, @isName_v, @risName_v, @resV_v, @soft_usd, @soft_ust, @cnvN_pu, @cnvN_up, @eqS_pp, @isNameV_v, @isLitV_v, @hasF_v, @lvV_v, @syV_v, @wordV_v, @nameV_v, @rreV_v, @rinV_v, @rprtV_v⟩
theorem dig_sl : ∀ (d : Nat), d < 10 → (ByteArray.mk #[48, 49, 50, 51, 52, 53, 54, 55, 56, 57]).extract d (d + 1) = bs [UInt8.ofNat (48 + d)] := by decide
theorem rDec1_h (n : Nat) (h0 : 0 < n) (hn : n ≤ 9223372036854775807) : CallA Tryz.prog 46 #[.int .i64 (n : Int), .int .i64 1] [] (fun u_ _ => u_ = .string (bs (Lib.decDigits n))) := by
  refine callA_of_denA ⟨Tryz.prog, 46, Tryz.f46, 25, [0, 1, 4, 5], ⟨[], none⟩, [], _⟩ rfl (args := [_, _]) Tryz.func46 rfl (by kernel_rfl) Tryz.ntmps46 (by simp) (by kernel_rfl) ?_
  intro ν fr; have nuE := fr.nu
  simp (maxDischargeDepth := 16) only [evN, ↓evP, simprocAttr, forall_const, nuE, fr.2, vbQr, ↓sA_usd, ↓sA_ust]
  have hlen : (Lib.decDigits n).length ≤ 19 := dec_len 19 n (by omega) (by omega)
  obtain ⟨m, acc, hm, ha, hp, hd⟩ : ∃ (m : Nat) (acc : List UInt8), m = n ∧ acc = [] ∧ (m = 0 → acc ≠ []) ∧ Lib.decDigits n = (if m = 0 then [] else Lib.decDigits m) ++ acc := ⟨n, [], rfl, rfl, fun h => by omega, by rw [if_neg (by omega)]; simp⟩
  have hmn : m ≤ n := by omega
  rw [show (5, some (Value.string ⟨#[]⟩)) = (5, some (Value.string (bs acc))) by rw [ha]; rfl]
  rw [show (0, some (Value.int .i64 (n : Int))) = (0, some (Value.int .i64 (m : Int))) by rw [hm]]
  clear ha hm nuE fr
  induction m using Nat.strongRecOn generalizing acc with
  | ind m ih =>
    have hal : acc.length ≤ 19 := by have := congrArg List.length hd; rw [List.length_append] at this; omega
    by_cases hm0 : m = 0
    · subst hm0
      rw [if_pos rfl, List.nil_append] at hd
      have q1 : ((0 : Int) < ((0 : Nat) : Int)) = False := eq_false (by omega)
      have q2 : ((acc.length : Int) < 1) = False := eq_false (by have := List.length_pos_iff.2 (hp rfl); omega)
      refine LoopA.intro (by kernel_rfl) ?_
      intro ν fr; have nuE := fr.nu
      simp (maxDischargeDepth := 16) only [evN, ↓evP, simprocAttr, forall_const, nuE, fr.2, vbQr, ↓sA_usd, ↓sA_ust, q1, q2, bs_size, hd]
    · rw [if_neg hm0] at hd
      have q1 : ((0 : Int) < (m : Int)) = True := eq_true (by omega)
      have r1 : (m : Int).tmod 10 = ((m % 10 : Nat) : Int) := by rw [Int.tmod_eq_emod_of_nonneg (by omega)]; omega
      have r0 : (((m % 10 : Nat) : Int) < 0) = False := eq_false (by omega)
      have r2 : IntKind.i64.wrap ((m : Int).tdiv 10) = ((m / 10 : Nat) : Int) := by rw [Int.tdiv_eq_ediv_of_nonneg (by omega), w_i64 (by omega) (by omega)]; omega
      have r3 : IntKind.i64.wrap (((m % 10 : Nat) : Int) + 1) = ((m % 10 + 1 : Nat) : Int) := by rw [w_i64 (by omega) (by omega)]; omega
      have r4 : (((m % 10 : Nat) : Int) ≤ ((m % 10 + 1 : Nat) : Int)) = True := by simp; omega
      have r5 : (((m % 10 + 1 : Nat) : Int) ≤ ((ByteArray.mk #[48, 49, 50, 51, 52, 53, 54, 55, 56, 57]).size : Int)) = True := by simp [ByteArray.size]; omega
      have ds := dig_sl (m % 10) (by omega)
      have s1 : 1 + acc.length ≤ 9223372036854775807 := by omega
      have hd2 : Lib.decDigits n = (if m / 10 = 0 then [] else Lib.decDigits (m / 10)) ++ (UInt8.ofNat (48 + m % 10) :: acc) := by
        rw [hd, Lib.decDigits]
        split
        · rename_i h10
          rw [if_pos (by omega), Nat.mod_eq_of_lt h10]; rfl
        · rename_i h10
          rw [if_neg (by omega)]; simp
      refine LoopA.intro (by kernel_rfl) ?_
      intro ν fr; have nuE := fr.nu
      simp (maxDischargeDepth := 16) only [evN, ↓evP, simprocAttr, forall_const, nuE, fr.2, vbQr, ↓sA_usd, ↓sA_ust, q1, r1, r0, r2, r3, r4, r5, ds, bs_app, bs_size, s1, List.singleton_append]
      exact LoopA.weak (ih (m / 10) (by omega) (UInt8.ofNat (48 + m % 10) :: acc) (fun _ => by simp) hd2 (by omega)) (by simp only [subE, get_cons, Nat.reduceEqDiff, ↓reduceIte, reduceCtorEq, Nat.reduceAdd, and_self, and_true]) (SubA.refl _)
theorem rDec1_v (n : Nat) (h0 : 0 < n) (hn : n ≤ 9223372036854775807) (A_ : AH) : valA Tryz.prog 46 #[.int .i64 (n : Int), .int .i64 1] A_ = some (.string (bs (Lib.decDigits n))) := valA_eq (pureA_of (by kernel_rfl) (rDec1_h n h0 hn))
theorem rDec0_h : CallA Tryz.prog 46 #[.int .i64 0, .int .i64 1] [] (fun u_ _ => u_ = .string (bs [48])) := by
  refine callA_of_denA ⟨Tryz.prog, 46, Tryz.f46, 25, [0, 1, 4, 5], ⟨[], none⟩, [], _⟩ rfl (args := [_, _]) Tryz.func46 rfl (by kernel_rfl) Tryz.ntmps46 (by simp) (by kernel_rfl) ?_
  intro ν fr; have nuE := fr.nu
  simp (maxDischargeDepth := 16) only [evN, ↓evP, simprocAttr, forall_const, nuE, fr.2, vbQr, ↓sA_usd, ↓sA_ust, rDec1_v]
  clear nuE fr
  have e0 : (ByteArray.mk #[]).size = 0 := rfl
  have ds : (ByteArray.mk #[48, 49, 50, 51, 52, 53, 54, 55, 56, 57]).extract 0 1 = bs [48] := by decide
  have e1 : bs [48] ++ ByteArray.mk #[] = bs [48] := by decide
  have r1 : (1 : Int) ≤ ((ByteArray.mk #[48, 49, 50, 51, 52, 53, 54, 55, 56, 57]).size : Int) := by decide
  have t0 : (0 : Int).tmod 10 = 0 := rfl
  have t1 : (0 : Int).tdiv 10 = 0 := rfl
  have w0 : IntKind.i64.wrap 0 = 0 := rfl
  have w1 : IntKind.i64.wrap 1 = 1 := rfl
  refine LoopA.intro (by kernel_rfl) ?_
  intro ν fr; have nuE := fr.nu
  simp (maxDischargeDepth := 16) only [evN, ↓evP, simprocAttr, forall_const, nuE, fr.2, vbQr, ↓sA_usd, ↓sA_ust, rDec1_v, e0, ds, e1, r1, bs_size, t0, t1, w0, w1]
  clear nuE fr
  refine LoopA.intro (by kernel_rfl) ?_
  intro ν fr; have nuE := fr.nu
  simp (maxDischargeDepth := 16) only [evN, ↓evP, simprocAttr, forall_const, nuE, fr.2, vbQr, ↓sA_usd, ↓sA_ust, rDec1_v, bs_size]
theorem rDec0_v (A_ : AH) : valA Tryz.prog 46 #[.int .i64 0, .int .i64 1] A_ = some (.string (bs [48])) := valA_eq (pureA_of (by kernel_rfl) (rDec0_h ))
theorem rDecN {d : Int} (h0 : 0 ≤ d) (h1 : d ≤ 9223372036854775807) (A : AH) : valA Tryz.prog 46 #[.int .i64 d, .int .i64 1] A = some (.string (bs (Lib.itoa d))) := by
  obtain ⟨m, rfl⟩ : ∃ m : Nat, d = (m : Int) := ⟨d.toNat, by omega⟩
  have : Lib.itoa (m : Int) = Lib.decDigits m := by simp [Lib.itoa]
  rw [this]
  by_cases hm : m = 0
  · subst hm
    have := rDec0_v A
    rwa [show Lib.decDigits 0 = [48] by decide +kernel]
  · exact rDec1_v m (by omega) (by omega) A
theorem rlvV_h (op : Int) : CallA Tryz.prog 77 #[.int .i64 op] [] (fun u_ _ => u_ = .int .i64 (lvO op)) := by
  refine callA_of_denA ⟨Tryz.prog, 77, Tryz.f77, 19, [0, 2, 3], ⟨[], none⟩, [], _⟩ rfl (args := [_]) Tryz.func77 rfl (by kernel_rfl) Tryz.ntmps77 (by simp) (by kernel_rfl) ?_
  intro ν fr; have nuE := fr.nu
  simp (maxDischargeDepth := 16) only [evN, ↓evP, simprocAttr, forall_const, nuE, fr.2, vbQr, ↓sA_usd, ↓sA_ust, rDec1_v, rDec0_v]
  unfold lvO
  repeat' split
  all_goals simp_all
theorem rlvV_v (op : Int) (A_ : AH) : valA Tryz.prog 77 #[.int .i64 op] A_ = some (.int .i64 (lvO op)) := valA_eq (pureA_of (by kernel_rfl) (rlvV_h op))
theorem rmkV_h (op : Int) : CallA Tryz.prog 78 #[.int .i64 op] [] (fun u_ _ => u_ = .string (bs (syO op))) := by
  refine callA_of_denA ⟨Tryz.prog, 78, Tryz.f78, 20, [0, 2, 3], ⟨[], none⟩, [], _⟩ rfl (args := [_]) Tryz.func78 rfl (by kernel_rfl) Tryz.ntmps78 (by simp) (by kernel_rfl) ?_
  intro ν fr; have nuE := fr.nu
  simp (maxDischargeDepth := 16) only [evN, ↓evP, simprocAttr, forall_const, nuE, fr.2, vbQr, ↓sA_usd, ↓sA_ust, rDec1_v, rDec0_v, rlvV_v]
  unfold syO
  repeat' split
  all_goals simp_all [bs]
theorem rmkV_v (op : Int) (A_ : AH) : valA Tryz.prog 78 #[.int .i64 op] A_ = some (.string (bs (syO op))) := valA_eq (pureA_of (by kernel_rfl) (rmkV_h op))
theorem l40 : (ByteArray.mk #[40]) = bs [40] := rfl
theorem l41 : (ByteArray.mk #[41]) = bs [41] := rfl
theorem l34 : (ByteArray.mk #[34]) = bs [34] := rfl
theorem l45 : (ByteArray.mk #[45]) = bs [45] := rfl
theorem l32 : (ByteArray.mk #[32]) = bs [32] := rfl
theorem lco : (ByteArray.mk #[44, 32]) = bs [44, 32] := rfl
theorem lct : (ByteArray.mk #[99, 111, 117, 110, 116, 40]) = bs [99, 111, 117, 110, 116, 40] := rfl
theorem lsu : (ByteArray.mk #[115, 117, 109, 40]) = bs [115, 117, 109, 40] := rfl
theorem lno : (ByteArray.mk #[110, 111, 116, 32]) = bs [110, 111, 116, 32] := rfl
theorem lin_ : (ByteArray.mk #[32, 105, 110, 32, 40]) = bs [32, 105, 110, 32, 40] := rfl
def TxC (A : AH) (x : Xs) (s : Xr) : Prop := s.op = opO x ∧ ∀ B, SubA A B → valA Tryz.prog 45 #[xrV s] B = some (.string (bs (tX x)))
theorem ropS_h (A : AH) (r : Xr) (t : Xs) (k : Int) (h : TxC A t r) (hl : (tX t).length ≤ 1000000000) : CallA Tryz.prog 76 #[.agg #[.int .i64 r.op, .string r.nm, .string r.tx, .int .i64 r.n, .slice r.p r.len r.cap], .int .i64 k] A (fun u_ A_ => u_ = .string (bs (opT k t)) ∧ SubA A A_) := by
  refine callA_of_denA ⟨Tryz.prog, 76, Tryz.f76, 16, [0, 1, 2, 4], ⟨[], none⟩, [], _⟩ rfl (args := [_, _]) Tryz.func76 rfl (by kernel_rfl) Tryz.ntmps76 (by simp) (by kernel_rfl) ?_
  intro ν fr; have nuE := fr.nu
  obtain ⟨hop, hi⟩ := h
  have f0 := fr.2 0
  have iv := fun o => hi ((ν 0, o) :: A) (SubA.fresh f0 (SubA.refl _))
  simp only [xrV, xrC] at iv
  have hz := bs_size (tX t)
  unfold opT paT
  by_cases hk : k ≤ lvO (opO t)
  · rw [if_pos (show k ≤ lvO (opO t, tX t).1 from hk)]
    have lt : (lvO r.op < k) = False := eq_false (by rw [hop]; omega)
    simp (maxDischargeDepth := 16) only [evN, ↓evP, simprocAttr, forall_const, nuE, fr.2, vbQr, ↓sA_usd, ↓sA_ust, rDec1_v, rDec0_v, rlvV_v, rmkV_v, lt, iv]
  · rw [if_neg (show ¬ k ≤ lvO (opO t, tX t).1 from hk)]
    have lt : (lvO r.op < k) = True := eq_true (by rw [hop]; omega)
    simp (maxDischargeDepth := 16) only [evN, ↓evP, simprocAttr, forall_const, nuE, fr.2, vbQr, ↓sA_usd, ↓sA_ust, rDec1_v, rDec0_v, rlvV_v, rmkV_v, lt, iv, l40, l41, bs_app, bs_size]
    exact ⟨by omega, by omega, trivial⟩
theorem ropS_w (A : AH) (r : Xr) (t : Xs) (k : Int) (h : TxC A t r) (hl : (tX t).length ≤ 1000000000) (B_ : AH) (hB_ : SubA A B_) : valA Tryz.prog 76 #[.agg #[.int .i64 r.op, .string r.nm, .string r.tx, .int .i64 r.n, .slice r.p r.len r.cap], .int .i64 k] B_ = some (.string (bs (opT k t))) := valA_eq (pureA_at (by kernel_rfl) (ropS_h A r t k h hl) hB_)
theorem opT_ge (k : Int) (x : Xs) : (tX x).length ≤ (opT k x).length := by
  unfold opT paT
  split
  · exact Nat.le_refl _
  · simp; omega
theorem more_g {α : Type} {l : List α} (h : 2 ≤ l.length) : ∃ a b r, l = a :: b :: r := by
  match l, h with
  | a :: b :: r, _ => exact ⟨a, b, r, rfl⟩
theorem inR_app (a b : List (Int × List UInt8)) : inR (a ++ b) = inR a ++ inR b := by simp [inR]
theorem inR_one (k : Int) (x : Xs) : inR [(opO x, tX x)] = [44, 32] ++ opT 4 x := by simp [inR, opT]
theorem tL_app (a b : List Xs) : tL (a ++ b) = tL a ++ tL b := by rw [tL_map, tL_map, tL_map, List.map_append]
theorem inR_take (l : List Xs) (i : Nat) : (inR (tL (l.take i))).length ≤ (inR (tL l)).length := by
  conv => rhs; rw [← List.take_append_drop i l, tL_app, inR_app, List.length_append]
  omega
theorem rtxS_h (A : AH) (op n : Int) (nm tx : ByteArray) (args : List Xs) (p : Option Addr) (cap : Nat) (rs : List Xr) (hl : args.length ≤ 140737488355328) (hrs : rs.length = args.length) (hS : StR xrC 5 A p rs) (hF : fldB op nm tx n args.length = true) (hA : ∀ (k : Nat) (x : Xs) (s : Xr), args[k]? = some x → rs[k]? = some s → TxC A x s) (hlen : (bareT op nm tx n (tL args)).length ≤ 1000000000) : CallA Tryz.prog 45 #[.agg #[.int .i64 op, .string nm, .string tx, .int .i64 n, .slice p args.length cap]] A (fun u_ A_ => u_ = .string (bs (bareT op nm tx n (tL args))) ∧ SubA A A_) := by
  refine callA_of_denA ⟨Tryz.prog, 45, Tryz.f45, 120, [0, 1, 2, 3, 4, 5, 6, 8], ⟨[], none⟩, [(9, .q false), (11, .q false), (17, .q false), (27, .q false)], _⟩ rfl (args := [_]) Tryz.func45 rfl (by kernel_rfl) Tryz.ntmps45 (by simp) (by kernel_rfl) ?_
  intro ν fr; have nuE := fr.nu
  have f0 := fr.2 0
  obtain ⟨hn1, hn2⟩ := fld_num hF
  have sA : ∀ o, SubA A ((ν 0, o) :: A) := fun o => SubA.fresh f0 (SubA.refl _)
  by_cases o1 : op = 1
  · subst o1
    have hB : bareT 1 nm tx n (tL args) = Lib.itoa n := rfl
    have h0 : 0 ≤ n := by
      unfold fldB at hF
      simp at hF
      omega
    rw [hB]
    have dv := rDecN h0 hn2
    simp (maxDischargeDepth := 16) only [evN, ↓evP, simprocAttr, forall_const, nuE, fr.2, vbQr, ↓sA_usd, ↓sA_ust, rDec1_v, rDec0_v, rlvV_v, rmkV_v, dv]
  by_cases o2 : op = 2
  · subst o2
    obtain ⟨l, rfl⟩ : ∃ l, tx = bs l := ⟨_, bs_of tx⟩
    have hB : bareT 2 nm (bs l) n (tL args) = [34] ++ l ++ [34] := by simp [bareT, bs_data]
    rw [hB] at hlen ⊢
    simp only [List.length_append, List.length_cons, List.length_nil] at hlen
    simp (maxDischargeDepth := 16) only [evN, ↓evP, simprocAttr, forall_const, nuE, fr.2, vbQr, ↓sA_usd, ↓sA_ust, rDec1_v, rDec0_v, rlvV_v, rmkV_v, l34, bs_app, bs_size]
    repeat' (first | exact trivial | refine And.intro (by first | omega | (simp only [List.length_append, List.length_cons, List.length_nil]; omega)) ?_)
  by_cases o3 : op = 3
  · subst o3
    have hB : bareT 3 nm tx n (tL args) = nm.data.toList := rfl
    rw [hB, ← bs_of nm]
    simp (maxDischargeDepth := 16) only [evN, ↓evP, simprocAttr, forall_const, nuE, fr.2, vbQr, ↓sA_usd, ↓sA_ust, rDec1_v, rDec0_v, rlvV_v, rmkV_v]
  by_cases o16 : op = 16
  · subst o16
    obtain ⟨l, rfl⟩ : ∃ l, nm = bs l := ⟨_, bs_of nm⟩
    have hB : bareT 16 (bs l) tx n (tL args) = [99, 111, 117, 110, 116, 40] ++ l ++ [44, 32] ++ Lib.itoa n ++ [41] := rfl
    have h0 : 0 ≤ n := by
      unfold fldB at hF
      simp at hF
      omega
    rw [hB] at hlen ⊢
    simp only [List.length_append, List.length_cons, List.length_nil] at hlen
    have dv := rDecN h0 hn2
    simp (maxDischargeDepth := 16) only [evN, ↓evP, simprocAttr, forall_const, nuE, fr.2, vbQr, ↓sA_usd, ↓sA_ust, rDec1_v, rDec0_v, rlvV_v, rmkV_v, lct, lco, l41, dv, bs_app, bs_size]
    repeat' (first | exact trivial | refine And.intro (by first | omega | (simp only [List.length_append, List.length_cons, List.length_nil]; omega)) ?_)
  by_cases o17 : op = 17
  · subst o17
    obtain ⟨l, rfl⟩ : ∃ l, nm = bs l := ⟨_, bs_of nm⟩
    have hB : bareT 17 (bs l) tx n (tL args) = [115, 117, 109, 40] ++ l ++ [44, 32] ++ Lib.itoa n ++ [41] := rfl
    have h0 : 0 ≤ n := by
      unfold fldB at hF
      simp at hF
      omega
    rw [hB] at hlen ⊢
    simp only [List.length_append, List.length_cons, List.length_nil] at hlen
    have dv := rDecN h0 hn2
    simp (maxDischargeDepth := 16) only [evN, ↓evP, simprocAttr, forall_const, nuE, fr.2, vbQr, ↓sA_usd, ↓sA_ust, rDec1_v, rDec0_v, rlvV_v, rmkV_v, lsu, lco, l41, dv, bs_app, bs_size]
    repeat' (first | exact trivial | refine And.intro (by first | omega | (simp only [List.length_append, List.length_cons, List.length_nil]; omega)) ?_)
  by_cases o4 : op = 4
  · subst o4
    have h1 : args.length = 1 := by
      unfold fldB at hF
      simp at hF
      omega
    obtain ⟨x, rfl⟩ := List.length_eq_one_iff.1 h1
    obtain ⟨s, rfl⟩ := List.length_eq_one_iff.1 hrs
    have hB : bareT 4 nm tx n (tL [x]) = [110, 111, 116, 32] ++ opT 6 x := by rw [← arT_at (args := [x]) (i := 0) 6 rfl]; rfl
    rw [hB] at hlen ⊢
    simp only [List.length_append, List.length_cons, List.length_nil] at hlen
    obtain ⟨bk, off, cs, ty, fr0, hp0, hbk, hcr, hcc⟩ := hS.at (i := 0) rfl
    subst hp0
    obtain ⟨q1, q2⟩ := look_ne f0 hbk
    simp only [xrC, Nat.zero_mul, Nat.add_zero] at hcr
    have iv := fun o => ropS_w A s x 6 (hA 0 x s rfl rfl) (Nat.le_trans (opT_ge 6 x) (by omega)) _ (sA o)
    simp (maxDischargeDepth := 16) only [evN, ↓evP, simprocAttr, forall_const, nuE, fr.2, vbQr, ↓sA_usd, ↓sA_ust, rDec1_v, rDec0_v, rlvV_v, rmkV_v, hbk, hcr, q1, q2, iv, lno, bs_app, bs_size]
    repeat' (first | exact trivial | refine And.intro (by first | omega | (simp only [List.length_append, List.length_cons, List.length_nil]; omega)) ?_)
  by_cases o5 : op = 5
  · subst o5
    have h1 : args.length = 1 := by
      unfold fldB at hF
      simp at hF
      omega
    obtain ⟨x, rfl⟩ := List.length_eq_one_iff.1 h1
    obtain ⟨s, rfl⟩ := List.length_eq_one_iff.1 hrs
    have hB : bareT 5 nm tx n (tL [x]) = [45] ++ opT 6 x := by rw [← arT_at (args := [x]) (i := 0) 6 rfl]; rfl
    rw [hB] at hlen ⊢
    simp only [List.length_append, List.length_cons, List.length_nil] at hlen
    obtain ⟨bk, off, cs, ty, fr0, hp0, hbk, hcr, hcc⟩ := hS.at (i := 0) rfl
    subst hp0
    obtain ⟨q1, q2⟩ := look_ne f0 hbk
    simp only [xrC, Nat.zero_mul, Nat.add_zero] at hcr
    have iv := fun o => ropS_w A s x 6 (hA 0 x s rfl rfl) (Nat.le_trans (opT_ge 6 x) (by omega)) _ (sA o)
    simp (maxDischargeDepth := 16) only [evN, ↓evP, simprocAttr, forall_const, nuE, fr.2, vbQr, ↓sA_usd, ↓sA_ust, rDec1_v, rDec0_v, rlvV_v, rmkV_v, hbk, hcr, q1, q2, iv, l45, bs_app, bs_size]
    repeat' (first | exact trivial | refine And.intro (by first | omega | (simp only [List.length_append, List.length_cons, List.length_nil]; omega)) ?_)
  by_cases o15 : op = 15
  · subst o15
    have h2 : 2 ≤ args.length := by
      unfold fldB at hF
      simp at hF
      exact hF.2
    obtain ⟨a, b, rest, rfl⟩ := more_of h2
    obtain ⟨s, s', rrest, rfl⟩ := more_g (l := rs) (by omega)
    have hB : bareT 15 nm tx n (tL (a :: b :: rest)) = opT 4 a ++ [32, 105, 110, 32, 40] ++ (opT 4 b ++ inR (tL rest)) ++ [41] := by
      rw [← arT_at (args := a :: b :: rest) (i := 0) 4 rfl]; rfl
    rw [hB] at hlen ⊢
    simp only [List.length_append, List.length_cons, List.length_nil] at hlen
    obtain ⟨bk, off, cs, ty, fr0, hp0, hbk, hcr, hcc⟩ := hS.at (i := 0) rfl
    obtain ⟨bk', off', cs', ty', fr0', hp0', hbk', hcr', hcc'⟩ := hS.at (i := 1) rfl
    subst hp0
    cases hp0'
    obtain ⟨q1, q2⟩ := look_ne f0 hbk
    rw [hbk] at hbk'
    cases hbk'
    simp only [xrC, Nat.zero_mul, Nat.add_zero, Nat.one_mul] at hcr hcr'
    have iv := fun o => ropS_w A s a 4 (hA 0 a s rfl rfl) (Nat.le_trans (opT_ge 4 a) (by omega)) _ (sA o)
    have iv2 := fun o => ropS_w A s' b 4 (hA 1 b s' rfl rfl) (Nat.le_trans (opT_ge 4 b) (by omega)) _ (sA o)
    have lt0 : ((0 : Int) < ((a :: b :: rest).length : Int)) = True := eq_true (by simp only [List.length_cons]; omega)
    have lt1 : ((1 : Int) < ((a :: b :: rest).length : Int)) = True := eq_true (by simp only [List.length_cons]; omega)
    obtain ⟨N, hN⟩ : ∃ N, (a :: b :: rest).length = N := ⟨_, rfl⟩
    rw [hN] at lt0 lt1 hl
    have hN2 : rest.length + 2 = N := by rw [← hN]; rfl
    rw [hN]
    simp (maxDischargeDepth := 16) only [evN, ↓evP, simprocAttr, forall_const, nuE, fr.2, vbQr, ↓sA_usd, ↓sA_ust, rDec1_v, rDec0_v, rlvV_v, rmkV_v, lt0, lt1, hbk, hcr, hcr', q1, q2, iv, iv2, lin_, bs_app, bs_size]
    repeat' (first | exact trivial | refine And.intro (by first | omega | (simp only [List.length_append, List.length_cons, List.length_nil]; omega)) ?_)
    have dst_ : True := (by simp [nuE]); generalize ν 0 = n1 at dst_  f0 ⊢
    clear nuE fr iv iv2
    have sN : ∀ o, SubA A ((n1, o) :: A) := fun o => SubA.fresh f0 (SubA.refl _)
    obtain ⟨e, l, acc, he, hac0, hac, hd, hle⟩ : ∃ (e : Nat) (l : List Xs) (acc : List UInt8), e = 0 ∧ acc = opT 4 a ++ [32, 105, 110, 32, 40] ++ opT 4 b ∧ acc = opT 4 a ++ [32, 105, 110, 32, 40] ++ opT 4 b ++ inR (tL (rest.take e)) ∧ l = rest.drop e ∧ e ≤ rest.length := ⟨0, rest, _, rfl, rfl, by simp [tL, inR], rfl, by omega⟩
    rw [show (4, some (Value.int .i64 2)) = (4, some (Value.int .i64 ((e + 2 : Nat) : Int))) by rw [he]; rfl, ← hac0]
    clear he hac0
    induction l generalizing e acc with
    | nil =>
      obtain ⟨hn1, hn2⟩ := drop_nil hd hle
      have lt : (((e + 2 : Nat) : Int) < (N : Int)) = False := eq_false (by omega)
      rw [hn2] at hac
      have hsz : acc.length + 1 ≤ 1000000000 := by rw [hac]; simp only [List.length_append, List.length_cons, List.length_nil]; omega
      refine LoopA.intro (by kernel_rfl) ?_
      intro ν fr; have nuE := And.intro (fr.mem (b := n1) (by simp)) (fr.nu)
      simp (maxDischargeDepth := 16) only [evN, ↓evP, simprocAttr, forall_const, nuE, fr.2, vbQr, ↓sA_usd, ↓sA_ust, rDec1_v, rDec0_v, rlvV_v, rmkV_v, lt, l41, bs_app, bs_size]
      refine And.intro (by omega) (And.intro ?_ (sN _))
      rw [hac]
      simp only [List.append_assoc]
    | cons x l ih =>
      obtain ⟨ha, hlt, hd', htk⟩ := drop_some hd
      have lt : (((e + 2 : Nat) : Int) < (N : Int)) = True := eq_true (by omega)
      have li : (((e + 2 : Nat) : Int) < 0) = False := eq_false (by omega)
      have we : IntKind.i64.wrap (((e + 2 : Nat) : Int) + 1) = ((e + 1 + 2 : Nat) : Int) := by rw [w_i64 (by omega) (by omega)]; omega
      obtain ⟨z, hz⟩ : ∃ z, (s :: s' :: rrest)[e + 2]? = some z := ⟨_, List.getElem?_eq_getElem (by rw [hrs]; omega)⟩
      obtain ⟨bk', off', cs', ty', fr0', hp0', hbk', hcz, _⟩ := hS.at hz
      cases hp0'
      rw [hbk] at hbk'
      cases hbk'
      simp only [xrC] at hcz
      have htc := hA (e + 2) x z (by simpa using ha) hz
      have hpre := inR_take rest (e + 1)
      rw [htk, tL_app, inR_app, List.length_append, tL, tL, inR_one 4 x, List.length_append, List.length_cons, List.length_cons, List.length_nil] at hpre
      have hg := opT_ge 4 x
      have hal : acc.length + 2 + (opT 4 x).length ≤ 1000000000 := by rw [hac]; simp only [List.length_append, List.length_cons, List.length_nil]; omega
      obtain ⟨q1, q2⟩ := look_ne f0 hbk
      have iv := fun o => ropS_w A z x 4 htc (by omega) _ (sN o)
      refine LoopA.intro (by kernel_rfl) ?_
      intro ν fr; have nuE := And.intro (fr.mem (b := n1) (by simp)) (fr.nu)
      simp (maxDischargeDepth := 16) only [evN, ↓evP, simprocAttr, forall_const, nuE, fr.2, vbQr, ↓sA_usd, ↓sA_ust, rDec1_v, rDec0_v, rlvV_v, rmkV_v, lt, li, hbk, hcz, q1, q2, iv, lco, bs_app, bs_size, we]
      repeat' (first | exact trivial | refine And.intro (by first | omega | (simp only [List.length_append, List.length_cons, List.length_nil]; omega)) ?_)
      refine LoopA.weak (ih (e + 1) (acc ++ [44, 32] ++ opT 4 x) ?_ hd' (by omega)) (by simp only [subE, get_cons, Nat.reduceEqDiff, ↓reduceIte, reduceCtorEq, Nat.reduceAdd, and_self, and_true]) (SubA.refl _)
      rw [hac, htk, tL_app, inR_app, tL, tL, inR_one 4 x]
      simp only [List.append_assoc]
  have hm : 6 ≤ op ∧ op ≤ 14 ∧ args.length = 2 := by
    unfold fldB at hF
    rw [if_neg o1, if_neg o2, if_neg o3, if_neg (by omega), if_neg (by omega)] at hF
    simp only [Bool.and_eq_true] at hF
    have := hF.2
    split at this
    · rename_i h; simp at this; omega
    · simp at this; omega
  obtain ⟨hm1, hm2, h2⟩ := hm
  obtain ⟨x, y, rfl⟩ := len_two h2
  obtain ⟨s, s', rfl⟩ := len_two (hrs.trans h2)
  have hB : bareT op nm tx n (tL [x, y]) = opT (leO op) x ++ ([32] ++ syO op ++ [32]) ++ opT (lvO op + 1) y := by
    rw [← arT_at (args := [x, y]) (i := 0) _ rfl, ← arT_at (args := [x, y]) (i := 1) _ rfl]
    unfold bareT
    rw [if_neg o1, if_neg o2, if_neg o3, if_neg o16, if_neg o17, if_neg o4, if_neg o5, if_neg o15]
  rw [hB] at hlen ⊢
  simp only [List.length_append, List.length_cons, List.length_nil] at hlen
  have lv : 0 ≤ lvO op ∧ lvO op ≤ 6 := by unfold lvO; repeat' split; all_goals omega
  have wl : IntKind.i64.wrap (lvO op + 1) = lvO op + 1 := w_i64 (by omega) (by omega)
  have sl := syO_len op
  obtain ⟨bk, off, cs, ty, fr0, hp0, hbk, hcr, hcc⟩ := hS.at (i := 0) rfl
  obtain ⟨bk', off', cs', ty', fr0', hp0', hbk', hcr', hcc'⟩ := hS.at (i := 1) rfl
  subst hp0
  cases hp0'
  obtain ⟨q1, q2⟩ := look_ne f0 hbk
  rw [hbk] at hbk'
  cases hbk'
  simp only [xrC, Nat.zero_mul, Nat.add_zero, Nat.one_mul] at hcr hcr'
  have g1 := opT_ge (leO op) x
  have g2 := opT_ge (lvO op + 1) y
  have iv2 := fun o => ropS_w A s' y (lvO op + 1) (hA 1 y s' rfl rfl) (by omega) _ (sA o)
  have iv := fun o => ropS_w A s x (leO op) (hA 0 x s rfl rfl) (by omega) _ (sA o)
  by_cases hl3 : lvO op = 3
  · have hle : leO op = 4 := by unfold leO; rw [if_pos hl3]
    have h4 : lvO op + 1 = 4 := by omega
    have w4 : IntKind.i64.wrap 4 = 4 := rfl
    rw [hle] at iv hlen ⊢
    rw [h4] at iv2 hlen ⊢
    simp (maxDischargeDepth := 16) only [evN, ↓evP, simprocAttr, forall_const, nuE, fr.2, vbQr, ↓sA_usd, ↓sA_ust, rDec1_v, rDec0_v, rlvV_v, rmkV_v, eq_false o1, eq_false o2, eq_false o3, eq_false o16, eq_false o17, eq_false o4, eq_false o5, eq_false o15, hl3, hbk, hcr, hcr', q1, q2, iv, iv2, w4, l32, bs_app, bs_size]
    repeat' (first | exact trivial | refine And.intro (by first | omega | (simp only [List.length_append, List.length_cons, List.length_nil]; omega)) ?_)
    simp only [List.append_assoc, List.cons_append, List.nil_append]
  · have hle : leO op = lvO op := by unfold leO; rw [if_neg hl3]
    rw [hle] at iv hlen ⊢
    simp (maxDischargeDepth := 16) only [evN, ↓evP, simprocAttr, forall_const, nuE, fr.2, vbQr, ↓sA_usd, ↓sA_ust, rDec1_v, rDec0_v, rlvV_v, rmkV_v, eq_false o1, eq_false o2, eq_false o3, eq_false o16, eq_false o17, eq_false o4, eq_false o5, eq_false o15, eq_false hl3, hbk, hcr, hcr', q1, q2, iv, iv2, wl, l32, bs_app, bs_size]
    repeat' (first | exact trivial | refine And.intro (by first | omega | (simp only [List.length_append, List.length_cons, List.length_nil]; omega)) ?_)
    simp only [List.append_assoc, List.cons_append, List.nil_append]
theorem rtxS_w (A : AH) (op n : Int) (nm tx : ByteArray) (args : List Xs) (p : Option Addr) (cap : Nat) (rs : List Xr) (hl : args.length ≤ 140737488355328) (hrs : rs.length = args.length) (hS : StR xrC 5 A p rs) (hF : fldB op nm tx n args.length = true) (hA : ∀ (k : Nat) (x : Xs) (s : Xr), args[k]? = some x → rs[k]? = some s → TxC A x s) (hlen : (bareT op nm tx n (tL args)).length ≤ 1000000000) (B_ : AH) (hB_ : SubA A B_) : valA Tryz.prog 45 #[.agg #[.int .i64 op, .string nm, .string tx, .int .i64 n, .slice p args.length cap]] B_ = some (.string (bs (bareT op nm tx n (tL args)))) := valA_eq (pureA_at (by kernel_rfl) (rtxS_h A op n nm tx args p cap rs hl hrs hS hF hA hlen) hB_)
theorem arg_le {op n : Int} {nm tx : ByteArray} {args : List Xs} (hF : fldB op nm tx n args.length = true) : ∀ x ∈ args, (tX x).length ≤ (bareT op nm tx n (tL args)).length := by
  intro z hz
  have hne : args.length ≠ 0 := fun h => by rw [List.eq_nil_of_length_eq_zero h] at hz; cases hz
  unfold fldB at hF
  split at hF
  · simp at hF; exact absurd (by rw [hF.2]; rfl) hne
  split at hF
  · simp at hF; exact absurd (by rw [hF.2]; rfl) hne
  split at hF
  · simp at hF; exact absurd (by rw [hF.2]; rfl) hne
  split at hF
  · simp at hF; exact absurd (by rw [hF.2]; rfl) hne
  rename_i o1 o2 o3 o16
  simp only [Bool.and_eq_true] at hF
  have hF := hF.2
  split at hF
  · rename_i o4
    obtain ⟨x, rfl⟩ := List.length_eq_one_iff.1 (of_decide_eq_true hF)
    rw [List.mem_singleton.1 hz]
    have hg := opT_ge 6 x
    rcases o4 with rfl | rfl
    · have hB : bareT 4 nm tx n (tL [x]) = [110, 111, 116, 32] ++ opT 6 x := by rw [← arT_at (args := [x]) (i := 0) 6 rfl]; rfl
      rw [hB, List.length_append]; omega
    · have hB : bareT 5 nm tx n (tL [x]) = [45] ++ opT 6 x := by rw [← arT_at (args := [x]) (i := 0) 6 rfl]; rfl
      rw [hB, List.length_append]; omega
  rename_i o4
  split at hF
  · rename_i h6
    obtain ⟨x, y, rfl⟩ := len_two (of_decide_eq_true hF)
    have hB : bareT op nm tx n (tL [x, y]) = opT (leO op) x ++ ([32] ++ syO op ++ [32]) ++ opT (lvO op + 1) y := by
      rw [← arT_at (args := [x, y]) (i := 0) _ rfl, ← arT_at (args := [x, y]) (i := 1) _ rfl]
      unfold bareT
      rw [if_neg o1, if_neg o2, if_neg o3, if_neg (by omega), if_neg (by omega), if_neg (by omega), if_neg (by omega), if_neg (by omega)]
    have g1 := opT_ge (leO op) x
    have g2 := opT_ge (lvO op + 1) y
    rw [hB]
    simp only [List.length_append]
    rcases List.mem_cons.1 hz with e | e
    · rw [e]; omega
    · rw [List.mem_singleton.1 e]; omega
  · simp only [Bool.and_eq_true, decide_eq_true_eq] at hF
    obtain ⟨rfl, h2⟩ := hF
    obtain ⟨a, b, rest, rfl⟩ := more_of h2
    have hB : bareT 15 nm tx n (tL (a :: b :: rest)) = opT 4 a ++ [32, 105, 110, 32, 40] ++ (opT 4 b ++ inR (tL rest)) ++ [41] := by
      rw [← arT_at (args := a :: b :: rest) (i := 0) 4 rfl]; rfl
    rw [hB]
    simp only [List.length_append]
    have g1 := opT_ge 4 a
    have g2 := opT_ge 4 b
    rcases List.mem_cons.1 hz with e | e
    · rw [e]; omega
    rcases List.mem_cons.1 e with e | e
    · rw [e]; omega
    obtain ⟨l1, l2, rfl⟩ := List.append_of_mem e
    have g3 := opT_ge 4 z
    rw [tL_app, tL, inR_app]
    have : inR ((opO z, tX z) :: tL l2) = inR [(opO z, tX z)] ++ inR (tL l2) := by rw [← inR_app]; rfl
    rw [this, inR_one 4 z]
    simp only [List.length_append]
    omega
theorem rtxX {A : AH} {t : Xs} {r : Xr} (h : ExR A t r) : wX t = true → (tX t).length ≤ 1000000000 → TxC A t r := by
  induction h with
  | @mk op n nm tx args p cap rs h0 h0' h1 h2 h3 ih =>
    intro hw hl
    obtain ⟨hF, hall⟩ := wX_out hw
    rw [tX] at hl
    refine ⟨rfl, fun B hB => ?_⟩
    rw [tX]
    exact rtxS_w A op n nm tx args p cap rs h0 h1 h2 hF (fun k x s hx hs => ih k x s hx hs (hall x (List.mem_of_getElem? hx)) (Nat.le_trans (arg_le hF x (List.mem_of_getElem? hx)) hl)) hl B hB
end Go.Proofs.YtgglccpckhpocaaGreatDoor
namespace Go.Proofs.YtgglccpckhpocaaGreatDoor
open Go.Vm
set_option maxHeartbeats 4000000
set_option maxRecDepth 20000
theorem rexV_h (A : AH) (t : Xs) (r : Xr) (h : ExR A t r) (hz : SzX t) (hl : (exT t).length ≤ 1000000000) : CallA Tryz.prog 20 #[.agg #[.int .i64 r.op, .string r.nm, .string r.tx, .int .i64 r.n, .slice r.p r.len r.cap]] A (fun u_ A_ => u_ = .string (bs (exT t)) ∧ SubA A A_) := by
  refine callA_of_denA ⟨Tryz.prog, 20, Tryz.f20, 8, [0, 1, 2], ⟨[], none⟩, [], _⟩ rfl (args := [_]) Tryz.func20 rfl (by kernel_rfl) Tryz.ntmps20 (by simp) (by kernel_rfl) ?_
  intro ν fr; have nuE := fr.nu
  have f0 := fr.2 0
  have iv := fun o => rwrX h hz ((ν 0, o) :: A) (SubA.fresh f0 (SubA.refl _))
  simp only [xrV, xrC] at iv
  cases hw : wX t with
  | false =>
    rw [hw] at iv
    have he : exT t = [] := by unfold exT; rw [hw]; rfl
    rw [he]
    simp (maxDischargeDepth := 16) only [evN, ↓evP, simprocAttr, forall_const, nuE, fr.2, vbQr, ↓sA_usd, ↓sA_ust, rDec1_v, rDec0_v, rlvV_v, rmkV_v, iv]
    rfl
  | true =>
    rw [hw] at iv
    have he : exT t = tX t := by unfold exT; rw [hw]; rfl
    rw [he] at hl ⊢
    have iv2 := fun o => (rtxX h hw hl).2 ((ν 0, o) :: A) (SubA.fresh f0 (SubA.refl _))
    simp only [xrV, xrC] at iv2
    simp (maxDischargeDepth := 16) only [evN, ↓evP, simprocAttr, forall_const, nuE, fr.2, vbQr, ↓sA_usd, ↓sA_ust, rDec1_v, rDec0_v, rlvV_v, rmkV_v, iv, iv2]
theorem rexV_w (A : AH) (t : Xs) (r : Xr) (h : ExR A t r) (hz : SzX t) (hl : (exT t).length ≤ 1000000000) (B_ : AH) (hB_ : SubA A B_) : valA Tryz.prog 20 #[.agg #[.int .i64 r.op, .string r.nm, .string r.tx, .int .i64 r.n, .slice r.p r.len r.cap]] B_ = some (.string (bs (exT t))) := valA_eq (pureA_at (by kernel_rfl) (rexV_h A t r h hz hl) hB_)
theorem lru : (ByteArray.mk #[114, 117, 108, 101, 32]) = bs [114, 117, 108, 101, 32] := rfl
theorem lwh : (ByteArray.mk #[32, 119, 104, 101, 110, 32]) = bs [32, 119, 104, 101, 110, 32] := rfl
theorem lcl : (ByteArray.mk #[58, 32]) = bs [58, 32] := rfl
theorem lpa : (ByteArray.mk #[112, 97, 115, 115]) = bs [112, 97, 115, 115] := rfl
theorem lre : (ByteArray.mk #[114, 101, 102, 101, 114]) = bs [114, 101, 102, 101, 114] := rfl
theorem lde : (ByteArray.mk #[100, 101, 99, 108, 105, 110, 101]) = bs [100, 101, 99, 108, 105, 110, 101] := rfl
theorem lsc : (ByteArray.mk #[32, 115, 99, 111, 114, 101, 32]) = bs [32, 115, 99, 111, 114, 101, 32] := rfl
theorem lse : (ByteArray.mk #[59, 10]) = bs [59, 10] := rfl
theorem rfmV_h (A : AH) (us : List Ru) (p : Option Addr) (cap : Nat) (hlu : us.length ≤ 140737488355328) (hR : RuL A us p) (hz : ∀ u ∈ us, SzX u.w) (hl : (fmF us).length ≤ 1000000000) : CallA Tryz.prog 18 #[.slice p us.length cap] A (fun u_ A_ => u_ = .string (bs (fmT us)) ∧ SubA A A_) := by
  refine callA_of_denA ⟨Tryz.prog, 18, Tryz.f18, 66, [0, 2, 3, 4, 35], ⟨[], none⟩, [(7, .q false)], _⟩ rfl (args := [_]) Tryz.func18 rfl (by kernel_rfl) Tryz.ntmps18 (by simp) (by kernel_rfl) ?_
  intro ν fr; have nuE := fr.nu
  have wv := rwrR_w A us p cap hlu hR hz A (SubA.refl _)
  cases hw : wrU_ us with
  | false =>
    rw [hw] at wv
    have he : fmT us = [] := by unfold fmT; rw [hw]; rfl
    rw [he]
    simp (maxDischargeDepth := 16) only [evN, ↓evP, simprocAttr, forall_const, nuE, fr.2, vbQr, ↓sA_usd, ↓sA_ust, rDec1_v, rDec0_v, rlvV_v, rmkV_v, wv]
    rfl
  | true =>
    rw [hw] at wv
    have he : fmT us = fmF us := by unfold fmT; rw [hw]; rfl
    rw [he]
    have hok : ∀ u ∈ us, ∃ dn, okU dn u = true := by
      have : ∀ (l dn : List Ru), wrG dn l = true → ∀ u ∈ l, ∃ dn, okU dn u = true := by
        intro l
        induction l with
        | nil => intro dn _ u hu; cases hu
        | cons v l ih =>
          intro dn h u hu
          rw [wrG, Bool.and_eq_true] at h
          rcases List.mem_cons.1 hu with e | e
          · rw [e]; exact ⟨dn, h.1⟩
          · exact ih _ h.2 u e
      unfold wrU_ at hw
      simp only [Bool.and_eq_true] at hw
      exact this us [] hw.2
    obtain ⟨rs, hrl, hS, hall⟩ := hR
    simp (maxDischargeDepth := 16) only [evN, ↓evP, simprocAttr, forall_const, nuE, fr.2, vbQr, ↓sA_usd, ↓sA_ust, rDec1_v, rDec0_v, rlvV_v, rmkV_v, wv]
    clear nuE fr wv hw he
    obtain ⟨e, l, acc, he, hac0, hac, hd, hle⟩ : ∃ (e : Nat) (l : List Ru) (acc : List UInt8), e = 0 ∧ acc = [] ∧ acc = fmF (us.take e) ∧ l = us.drop e ∧ e ≤ us.length := ⟨0, us, [], rfl, rfl, rfl, rfl, by omega⟩
    rw [show (4, some (Value.int .i64 0)) = (4, some (Value.int .i64 (e : Int))) by rw [he]; rfl, show (3, some (Value.string ⟨#[]⟩)) = (3, some (Value.string (bs acc))) by rw [hac0]; rfl]
    clear he hac0
    have hlen : ∀ e, (fmF (us.take e)).length ≤ (fmF us).length := fun e => by
      unfold fmF
      have h := List.take_append_drop e us
      conv => rhs; rw [← h, List.flatMap_append, List.length_append]
      omega
    induction l generalizing e acc with
    | nil =>
      obtain ⟨hn1, hn2⟩ := drop_nil hd hle
      have lt : ((e : Int) < (us.length : Int)) = False := eq_false (by omega)
      rw [hn2] at hac
      refine LoopA.intro (by kernel_rfl) ?_
      intro ν fr; have nuE := fr.nu
      simp (maxDischargeDepth := 16) only [evN, ↓evP, simprocAttr, forall_const, nuE, fr.2, vbQr, ↓sA_usd, ↓sA_ust, rDec1_v, rDec0_v, rlvV_v, rmkV_v, lt]
      rw [hac]
    | cons u l ih =>
      obtain ⟨ha, hlt, hd', htk⟩ := drop_some hd
      have lt : ((e : Int) < (us.length : Int)) = True := eq_true (by omega)
      have li : ((e : Int) < 0) = False := eq_false (by omega)
      have we : IntKind.i64.wrap ((e : Int) + 1) = ((e + 1 : Nat) : Int) := by rw [w_i64 (by omega) (by omega)]; omega
      obtain ⟨r, hr⟩ : ∃ r, rs[e]? = some r := ⟨_, List.getElem?_eq_getElem (by omega)⟩
      obtain ⟨bk, off, cs, ty, fr0, hp0, hbk, hcr, hcc⟩ := hS.at hr
      subst hp0
      obtain ⟨hr1, hrw, hr3, hr4⟩ := hall e u r ha hr
      have c0 : cs[off + e * 8]? = some (.string u.nm) := hcc 0 _ (by simp [ruC, hr1])
      have c6 : cs[off + e * 8 + 6]? = some (.int .i64 u.act) := hcc 6 _ (by simp [ruC, hr3])
      have c7 : cs[off + e * 8 + 7]? = some (.int .i64 u.sc) := hcc 7 _ (by simp [ruC, hr4])
      have w5 : rdCS (some (.cells cs ty fr0)) (off + e * 8 + 1) 5 = some #[.int .i64 r.w.op, .string r.w.nm, .string r.w.tx, .int .i64 r.w.n, .slice r.w.p r.w.len r.w.cap] := by
        have h := rdCS_sub hcr (k := 1) (n := 5) (by decide)
        simpa [ruC] using h
      obtain ⟨dn, ho⟩ := hok u (List.mem_of_getElem? ha)
      unfold okU at ho
      simp only [Bool.and_eq_true, decide_eq_true_eq] at ho
      obtain ⟨⟨⟨⟨_, hwx⟩, hact⟩, hs0⟩, hs1⟩ := ho
      have hle1 := hlen (e + 1)
      have hpush : fmF (us.take (e + 1)) = fmF (us.take e) ++ ruTx u := by rw [htk]; simp [fmF]
      rw [hpush, List.length_append, ← hac] at hle1
      obtain ⟨ln, hln⟩ : ∃ l, u.nm = bs l := ⟨_, bs_of u.nm⟩
      have hru : ruTx u = [114, 117, 108, 101, 32] ++ ln ++ [32, 119, 104, 101, 110, 32] ++ tX u.w ++ ([58, 32] ++ actT u.act) ++ scT u.sc ++ [59, 10] := by unfold ruTx; rw [hln, bs_data]
      rw [hru] at hle1 hpush
      rw [hln] at c0
      simp only [List.length_append, List.length_cons, List.length_nil] at hle1
      have iv := (rtxX hrw hwx (by omega)).2 A (SubA.refl _)
      simp only [xrV, xrC] at iv
      have dv := rDecN hs0 (by omega)
      rcases (show u.act = 0 ∨ u.act = 1 ∨ u.act = 2 by omega) with hact0 | hact1 | hact2
      · rw [hact0] at c6 hle1 hpush
        have ea : actT 0 = [112, 97, 115, 115] := rfl
        rw [ea] at hle1 hpush
        simp only [List.length_append, List.length_cons, List.length_nil] at hle1
        refine LoopA.intro (by kernel_rfl) ?_
        intro ν fr; have nuE := fr.nu
        by_cases hsc : u.sc = 0
        · have sz : ((0 : Int) < u.sc) = False := eq_false (by omega)
          have es : scT u.sc = [] := by unfold scT; rw [if_pos hsc]
          rw [es] at hle1 hpush
          simp (maxDischargeDepth := 16) only [evN, ↓evP, simprocAttr, forall_const, nuE, fr.2, vbQr, ↓sA_usd, ↓sA_ust, rDec1_v, rDec0_v, rlvV_v, rmkV_v, lt, li, hbk, c0, w5, iv, lru, lwh, lcl, lpa, lse, c6, c7, sz, we, bs_app, bs_size]
          repeat' (first | exact trivial | refine And.intro (by first | omega | (simp only [List.length_append, List.length_cons, List.length_nil]; omega)) ?_)
          refine LoopA.weak (ih (e + 1) (acc ++ [114, 117, 108, 101, 32] ++ ln ++ [32, 119, 104, 101, 110, 32] ++ tX u.w ++ [58, 32] ++ [112, 97, 115, 115] ++ [59, 10]) ?_ hd' (by omega)) (by simp only [subE, get_cons, Nat.reduceEqDiff, ↓reduceIte, reduceCtorEq, Nat.reduceAdd, and_self, and_true]) (SubA.refl _)
          rw [hpush, ← hac]
          simp only [List.append_assoc, List.cons_append, List.nil_append]
        · have sz : ((0 : Int) < u.sc) = True := eq_true (by omega)
          have es : scT u.sc = [32, 115, 99, 111, 114, 101, 32] ++ Lib.itoa u.sc := by unfold scT; rw [if_neg hsc]
          rw [es] at hle1 hpush
          simp only [List.length_append, List.length_cons, List.length_nil] at hle1
          simp (maxDischargeDepth := 16) only [evN, ↓evP, simprocAttr, forall_const, nuE, fr.2, vbQr, ↓sA_usd, ↓sA_ust, rDec1_v, rDec0_v, rlvV_v, rmkV_v, lt, li, hbk, c0, w5, iv, lru, lwh, lcl, lpa, lse, lsc, c6, c7, sz, dv, we, bs_app, bs_size]
          repeat' (first | exact trivial | refine And.intro (by first | omega | (simp only [List.length_append, List.length_cons, List.length_nil]; omega)) ?_)
          refine LoopA.weak (ih (e + 1) (acc ++ [114, 117, 108, 101, 32] ++ ln ++ [32, 119, 104, 101, 110, 32] ++ tX u.w ++ [58, 32] ++ [112, 97, 115, 115] ++ [32, 115, 99, 111, 114, 101, 32] ++ Lib.itoa u.sc ++ [59, 10]) ?_ hd' (by omega)) (by simp only [subE, get_cons, Nat.reduceEqDiff, ↓reduceIte, reduceCtorEq, Nat.reduceAdd, and_self, and_true]) (SubA.refl _)
          rw [hpush, ← hac]
          simp only [List.append_assoc, List.cons_append, List.nil_append]
      · rw [hact1] at c6 hle1 hpush
        have ea : actT 1 = [114, 101, 102, 101, 114] := rfl
        rw [ea] at hle1 hpush
        simp only [List.length_append, List.length_cons, List.length_nil] at hle1
        refine LoopA.intro (by kernel_rfl) ?_
        intro ν fr; have nuE := fr.nu
        by_cases hsc : u.sc = 0
        · have sz : ((0 : Int) < u.sc) = False := eq_false (by omega)
          have es : scT u.sc = [] := by unfold scT; rw [if_pos hsc]
          rw [es] at hle1 hpush
          simp (maxDischargeDepth := 16) only [evN, ↓evP, simprocAttr, forall_const, nuE, fr.2, vbQr, ↓sA_usd, ↓sA_ust, rDec1_v, rDec0_v, rlvV_v, rmkV_v, lt, li, hbk, c0, w5, iv, lru, lwh, lcl, lre, lse, c6, c7, sz, we, bs_app, bs_size]
          repeat' (first | exact trivial | refine And.intro (by first | omega | (simp only [List.length_append, List.length_cons, List.length_nil]; omega)) ?_)
          refine LoopA.weak (ih (e + 1) (acc ++ [114, 117, 108, 101, 32] ++ ln ++ [32, 119, 104, 101, 110, 32] ++ tX u.w ++ [58, 32] ++ [114, 101, 102, 101, 114] ++ [59, 10]) ?_ hd' (by omega)) (by simp only [subE, get_cons, Nat.reduceEqDiff, ↓reduceIte, reduceCtorEq, Nat.reduceAdd, and_self, and_true]) (SubA.refl _)
          rw [hpush, ← hac]
          simp only [List.append_assoc, List.cons_append, List.nil_append]
        · have sz : ((0 : Int) < u.sc) = True := eq_true (by omega)
          have es : scT u.sc = [32, 115, 99, 111, 114, 101, 32] ++ Lib.itoa u.sc := by unfold scT; rw [if_neg hsc]
          rw [es] at hle1 hpush
          simp only [List.length_append, List.length_cons, List.length_nil] at hle1
          simp (maxDischargeDepth := 16) only [evN, ↓evP, simprocAttr, forall_const, nuE, fr.2, vbQr, ↓sA_usd, ↓sA_ust, rDec1_v, rDec0_v, rlvV_v, rmkV_v, lt, li, hbk, c0, w5, iv, lru, lwh, lcl, lre, lse, lsc, c6, c7, sz, dv, we, bs_app, bs_size]
          repeat' (first | exact trivial | refine And.intro (by first | omega | (simp only [List.length_append, List.length_cons, List.length_nil]; omega)) ?_)
          refine LoopA.weak (ih (e + 1) (acc ++ [114, 117, 108, 101, 32] ++ ln ++ [32, 119, 104, 101, 110, 32] ++ tX u.w ++ [58, 32] ++ [114, 101, 102, 101, 114] ++ [32, 115, 99, 111, 114, 101, 32] ++ Lib.itoa u.sc ++ [59, 10]) ?_ hd' (by omega)) (by simp only [subE, get_cons, Nat.reduceEqDiff, ↓reduceIte, reduceCtorEq, Nat.reduceAdd, and_self, and_true]) (SubA.refl _)
          rw [hpush, ← hac]
          simp only [List.append_assoc, List.cons_append, List.nil_append]
      · rw [hact2] at c6 hle1 hpush
        have ea : actT 2 = [100, 101, 99, 108, 105, 110, 101] := rfl
        rw [ea] at hle1 hpush
        simp only [List.length_append, List.length_cons, List.length_nil] at hle1
        refine LoopA.intro (by kernel_rfl) ?_
        intro ν fr; have nuE := fr.nu
        by_cases hsc : u.sc = 0
        · have sz : ((0 : Int) < u.sc) = False := eq_false (by omega)
          have es : scT u.sc = [] := by unfold scT; rw [if_pos hsc]
          rw [es] at hle1 hpush
          simp (maxDischargeDepth := 16) only [evN, ↓evP, simprocAttr, forall_const, nuE, fr.2, vbQr, ↓sA_usd, ↓sA_ust, rDec1_v, rDec0_v, rlvV_v, rmkV_v, lt, li, hbk, c0, w5, iv, lru, lwh, lcl, lde, lse, c6, c7, sz, we, bs_app, bs_size]
          repeat' (first | exact trivial | refine And.intro (by first | omega | (simp only [List.length_append, List.length_cons, List.length_nil]; omega)) ?_)
          refine LoopA.weak (ih (e + 1) (acc ++ [114, 117, 108, 101, 32] ++ ln ++ [32, 119, 104, 101, 110, 32] ++ tX u.w ++ [58, 32] ++ [100, 101, 99, 108, 105, 110, 101] ++ [59, 10]) ?_ hd' (by omega)) (by simp only [subE, get_cons, Nat.reduceEqDiff, ↓reduceIte, reduceCtorEq, Nat.reduceAdd, and_self, and_true]) (SubA.refl _)
          rw [hpush, ← hac]
          simp only [List.append_assoc, List.cons_append, List.nil_append]
        · have sz : ((0 : Int) < u.sc) = True := eq_true (by omega)
          have es : scT u.sc = [32, 115, 99, 111, 114, 101, 32] ++ Lib.itoa u.sc := by unfold scT; rw [if_neg hsc]
          rw [es] at hle1 hpush
          simp only [List.length_append, List.length_cons, List.length_nil] at hle1
          simp (maxDischargeDepth := 16) only [evN, ↓evP, simprocAttr, forall_const, nuE, fr.2, vbQr, ↓sA_usd, ↓sA_ust, rDec1_v, rDec0_v, rlvV_v, rmkV_v, lt, li, hbk, c0, w5, iv, lru, lwh, lcl, lde, lse, lsc, c6, c7, sz, dv, we, bs_app, bs_size]
          repeat' (first | exact trivial | refine And.intro (by first | omega | (simp only [List.length_append, List.length_cons, List.length_nil]; omega)) ?_)
          refine LoopA.weak (ih (e + 1) (acc ++ [114, 117, 108, 101, 32] ++ ln ++ [32, 119, 104, 101, 110, 32] ++ tX u.w ++ [58, 32] ++ [100, 101, 99, 108, 105, 110, 101] ++ [32, 115, 99, 111, 114, 101, 32] ++ Lib.itoa u.sc ++ [59, 10]) ?_ hd' (by omega)) (by simp only [subE, get_cons, Nat.reduceEqDiff, ↓reduceIte, reduceCtorEq, Nat.reduceAdd, and_self, and_true]) (SubA.refl _)
          rw [hpush, ← hac]
          simp only [List.append_assoc, List.cons_append, List.nil_append]
theorem rfmV_w (A : AH) (us : List Ru) (p : Option Addr) (cap : Nat) (hlu : us.length ≤ 140737488355328) (hR : RuL A us p) (hz : ∀ u ∈ us, SzX u.w) (hl : (fmF us).length ≤ 1000000000) (B_ : AH) (hB_ : SubA A B_) : valA Tryz.prog 18 #[.slice p us.length cap] B_ = some (.string (bs (fmT us))) := valA_eq (pureA_at (by kernel_rfl) (rfmV_h A us p cap hlu hR hz hl) hB_)
end Go.Proofs.YtgglccpckhpocaaGreatDoor
