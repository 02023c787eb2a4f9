/-
The reference: what is writable.
Conditions: none.
-/
import Derived.Test.YtgglccpckhpocaaDoorQj
set_option linter.unusedSimpArgs false
set_option linter.unusedVariables false
namespace Go.Proofs.YtgglccpckhpocaaDoor
open Go.Vm
set_option maxHeartbeats 4000000
set_option maxRecDepth 20000
theorem vbQp : type_of% (An @slIndexByte_v (An @indexByte_v (An @indexRune_v (An @containsRune_v (An @slHasPrefix_v (An @hasPrefix_v (An @classOf_v (An @isWordByte_v (An @letter_v (An @digit_v (An @wordAt_v (An @rword_v (An @skip_v (An @number_v (An @literal_v (An @lexemeAt_v (An @isName_v (An @risName_v (An @resV_v (An @soft_usd (An @soft_ust (An @cnvN_pu (An @cnvN_up (An @eqS_pp (An @isNameV_v (An @isLitV_v (An @hasF_v (An @lvV_v (An @syV_v (An @wordV_v @nameV_v)))))))))))))))))))))))))))))) := ⟨@slIndexByte_v, @indexByte_v, @indexRune_v, @containsRune_v, @slHasPrefix_v, @hasPrefix_v, @classOf_v, @isWordByte_v, @letter_v, @digit_v, @wordAt_v, @rword_v, @skip_v, @number_v, @literal_v, @lexemeAt_v, @isName_v, @risName_v, @resV_v, @soft_usd, @soft_ust, @cnvN_pu, @cnvN_up, @eqS_pp, @isNameV_v, @isLitV_v, @hasF_v, @lvV_v, @syV_v, @wordV_v, @nameV_v⟩
theorem rreV_h (s : ByteArray) : CallA Tryd.prog 36 #[.string s] [] (fun u_ _ => u_ = .bool (resB s)) := by
  refine callA_of_denA ⟨Tryd.prog, 36, Tryd.f36, 17, [0, 2, 3], ⟨[], none⟩, [], _⟩ rfl (args := [_]) Tryd.func36 rfl (by kernel_rfl) Tryd.ntmps36 (by simp) (by kernel_rfl) ?_
  intro ν fr; have nuE := fr.nu
  simp (maxDischargeDepth := 16) only [evN, ↓evP, simprocAttr, forall_const, nuE, fr.2, vbQp, ↓sA_usd, ↓sA_ust]
  unfold resB
  repeat' split
  all_goals simp_all
theorem rreV_v (s : ByteArray) (A_ : AH) : valA Tryd.prog 36 #[.string s] A_ = some (.bool (resB s)) := valA_eq (pureA_of (by kernel_rfl) (rreV_h s))
theorem rinV_h (s : ByteArray) : CallA Tryd.prog 20 #[.string s] [] (fun u_ _ => u_ = .bool (naB s)) := by
  refine callA_of_denA ⟨Tryd.prog, 20, Tryd.f20, 10, [0, 2], ⟨[], none⟩, [], _⟩ rfl (args := [_]) Tryd.func20 rfl (by kernel_rfl) Tryd.ntmps20 (by simp) (by kernel_rfl) ?_
  intro ν fr; have nuE := fr.nu
  unfold naB
  cases h1 : nameF s with
  | true => cases h2 : resB s <;> simp (maxDischargeDepth := 16) only [evN, ↓evP, simprocAttr, forall_const, nuE, fr.2, vbQp, ↓sA_usd, ↓sA_ust, rreV_v, h1, h2]
  | false => simp (maxDischargeDepth := 16) only [evN, ↓evP, simprocAttr, forall_const, nuE, fr.2, vbQp, ↓sA_usd, ↓sA_ust, rreV_v, h1]
theorem rinV_v (s : ByteArray) (A_ : AH) : valA Tryd.prog 20 #[.string s] A_ = some (.bool (naB s)) := valA_eq (pureA_of (by kernel_rfl) (rinV_h s))
theorem rprtV_h (s : ByteArray) (hs : s.size ≤ 9223372036854775807) : CallA Tryd.prog 19 #[.string s] [] (fun u_ _ => u_ = .bool (litB s)) := by
  refine callA_of_denA ⟨Tryd.prog, 19, Tryd.f19, 29, [0, 2, 3], ⟨[], none⟩, [], _⟩ rfl (args := [_]) Tryd.func19 rfl (by kernel_rfl) Tryd.ntmps19 (by simp) (by kernel_rfl) ?_
  intro ν fr; have nuE := fr.nu
  simp (maxDischargeDepth := 16) only [evN, ↓evP, simprocAttr, forall_const, nuE, fr.2, vbQp, ↓sA_usd, ↓sA_ust, rreV_v, rinV_v]
  obtain ⟨e, l, he, hd, hle, hx⟩ : ∃ (e : Nat) (l : List UInt8), e = 0 ∧ s.toList.drop e = l ∧ e ≤ s.size ∧ litB s = (decide (s.size ≤ 100) && l.all chB) := ⟨0, _, rfl, rfl, by omega, by simp [litB]⟩
  rw [show (3, some (Value.int .i64 0)) = (3, some (Value.int .i64 (e : Int))) by rw [he]; rfl]
  clear he nuE fr
  induction l generalizing e with
  | nil =>
    have hn : e = s.size := by
      have := congrArg List.length hd
      rw [List.length_drop, size_list] at this
      simp at this
      omega
    have lt : ((e : Int) < (s.size : Int)) = False := eq_false (by omega)
    have k1 : ((s.size : Int) ≤ 100) = (s.size ≤ 100) := propext (by omega)
    refine LoopA.intro (by kernel_rfl) ?_
    intro ν fr; have nuE := fr.nu
    simp (maxDischargeDepth := 16) only [evN, ↓evP, simprocAttr, forall_const, nuE, fr.2, vbQp, ↓sA_usd, ↓sA_ust, rreV_v, rinV_v, lt, k1]
    rw [hx]; simp
  | cons c l ih =>
    obtain ⟨hp, hc, hl', hsl, hb⟩ := byte_at hd
    have hcl := u8_lt c
    have lt : ((e : Int) < (s.size : Int)) = True := eq_true (by omega)
    have we : IntKind.i64.wrap ((e : Int) + 1) = ((e + 1 : Nat) : Int) := by rw [w_i64 (by omega) (by omega)]; omega
    refine LoopA.intro (by kernel_rfl) ?_
    intro ν fr; have nuE := fr.nu
    by_cases c1 : c.toNat < 32
    · have k1 : ((c.toNat : Int) < 32) := by omega
      have hcb : chB c = false := by simp [chB]; omega
      simp (maxDischargeDepth := 16) only [evN, ↓evP, simprocAttr, forall_const, nuE, fr.2, vbQp, ↓sA_usd, ↓sA_ust, rreV_v, rinV_v, lt, hb, k1]
      rw [hx, List.all_cons, hcb]; simp
    have k1 : ((c.toNat : Int) < 32) = False := eq_false (by omega)
    by_cases c2 : 126 < c.toNat
    · have k2 : (126 < (c.toNat : Int)) := by omega
      have hcb : chB c = false := by simp [chB]; omega
      simp (maxDischargeDepth := 16) only [evN, ↓evP, simprocAttr, forall_const, nuE, fr.2, vbQp, ↓sA_usd, ↓sA_ust, rreV_v, rinV_v, lt, hb, k1, k2]
      rw [hx, List.all_cons, hcb]; simp
    have k2 : (126 < (c.toNat : Int)) = False := eq_false (by omega)
    by_cases c3 : c.toNat = 34
    · have k3 : ((c.toNat : Int) == 34) = true := by simp; omega
      have k3' : ((c.toNat : Int) = 34) = True := eq_true (by omega)
      have hcb : chB c = false := by simp [chB]; omega
      simp (maxDischargeDepth := 16) only [evN, ↓evP, simprocAttr, forall_const, nuE, fr.2, vbQp, ↓sA_usd, ↓sA_ust, rreV_v, rinV_v, lt, hb, k1, k2, k3, k3']
      rw [hx, List.all_cons, hcb]; simp
    have k3 : ((c.toNat : Int) == 34) = false := by simp; omega
    have k3' : ((c.toNat : Int) = 34) = False := eq_false (by omega)
    have hcb : chB c = true := by simp [chB]; omega
    simp (maxDischargeDepth := 16) only [evN, ↓evP, simprocAttr, forall_const, nuE, fr.2, vbQp, ↓sA_usd, ↓sA_ust, rreV_v, rinV_v, lt, hb, k1, k2, k3, k3', we]
    exact LoopA.weak (ih (e + 1) hl' (by omega) (by rw [hx, List.all_cons, hcb, Bool.true_and])) (by simp only [subE, get_cons, Nat.reduceEqDiff, ↓reduceIte, reduceCtorEq, Nat.reduceAdd, and_self, and_true]) (SubA.refl _)
theorem rprtV_v (s : ByteArray) (hs : s.size ≤ 9223372036854775807) (A_ : AH) : valA Tryd.prog 19 #[.string s] A_ = some (.bool (litB s)) := valA_eq (pureA_of (by kernel_rfl) (rprtV_h s hs))
theorem rwrS_h (A : AH) (op n : Int) (nm tx : ByteArray) (args : List Xs) (p : Option Addr) (cap : Nat) (rs : List Xr) (hl : args.length ≤ 140737488355328) (hrs : rs.length = args.length) (hS : StR xrC 5 A p rs) (htx : tx.size ≤ 9223372036854775807) (ih : ∀ (k : Nat) (x : Xs) (r : Xr), args[k]? = some x → rs[k]? = some r → ∀ B, SubA A B → valA Tryd.prog 8 #[xrV r] B = some (.bool (wX x))) : CallA Tryd.prog 8 #[.agg #[.int .i64 op, .string nm, .string tx, .int .i64 n, .slice p args.length cap]] A (fun u_ A_ => u_ = .bool (wX (.mk op nm tx n args)) ∧ SubA A A_) := by
  refine callA_of_denA ⟨Tryd.prog, 8, Tryd.f8, 140, [0, 1, 2, 3, 4, 5, 30, 118], ⟨[], none⟩, [], _⟩ rfl (args := [_]) Tryd.func8 rfl (by kernel_rfl) Tryd.ntmps8 (by simp) (by kernel_rfl) ?_
  intro ν fr; have nuE := fr.nu
  have f0 := fr.2 0
  have hw : wX (.mk op nm tx n args) = (fldB op nm tx n args.length && args.all wX) := by rw [wX, wL_all]
  rw [hw]
  simp (maxDischargeDepth := 16) only [evN, ↓evP, simprocAttr, forall_const, nuE, fr.2, vbQp, ↓sA_usd, ↓sA_ust, rreV_v, rinV_v, rprtV_v]
  have dst_ : True := (by simp [nuE]); generalize ν 0 = n1 at dst_  f0 ⊢
  clear nuE fr hw
  obtain ⟨e, l, he, hd, hle, hx⟩ : ∃ (e : Nat) (l : List Xs), e = 0 ∧ l = args.drop e ∧ e ≤ args.length ∧ (fldB op nm tx n args.length && args.all wX) = (fldB op nm tx n args.length && l.all wX) := ⟨0, _, rfl, rfl, by omega, rfl⟩
  rw [hx]
  rw [show (4, some (Value.int .i64 0)) = (4, some (Value.int .i64 (e : Int))) by rw [he]; rfl]
  clear he hx
  induction l generalizing e with
  | nil =>
    obtain ⟨hn1, hn2⟩ := drop_nil hd hle
    have lt : ((e : Int) < (args.length : Int)) = False := eq_false (by omega)
    have hN : (fldB op nm tx n args.length && ([] : List Xs).all wX) = fldB op nm tx n args.length := by simp
    rw [hN]
    have sA : ∀ o, SubA A ((n1, o) :: A) := fun o => SubA.fresh f0 (SubA.refl _)
    refine LoopA.intro (by kernel_rfl) ?_
    intro ν fr; have nuE := And.intro (fr.mem (b := n1) (by simp)) (fr.nu)
    have lv := rprtV_v tx htx
    have kz : ((args.length : Int) = 0) = (args.length = 0) := propext (by omega)
    have k1 : ((args.length : Int) = 1) = (args.length = 1) := propext (by omega)
    have k2 : ((args.length : Int) = 2) = (args.length = 2) := propext (by omega)
    have k3 : (2 ≤ (args.length : Int)) = (2 ≤ args.length) := propext (by omega)
    have b0 : ((args.length : Int) == 0) = decide (args.length = 0) := by rw [Bool.eq_iff_iff]; simp
    have b1 : ((args.length : Int) == 1) = decide (args.length = 1) := by rw [Bool.eq_iff_iff]; simp; omega
    have b2 : ((args.length : Int) == 2) = decide (args.length = 2) := by rw [Bool.eq_iff_iff]; simp; omega
    have bt : (tx.toList == []) = decide (tx.toList = []) := by cases tx.toList <;> rfl
    have bn : (nm.toList == []) = decide (nm.toList = []) := by cases nm.toList <;> rfl
    by_cases o1 : op = 1
    · subst o1
      simp (maxDischargeDepth := 16) only [evN, ↓evP, simprocAttr, forall_const, nuE, fr.2, vbQp, ↓sA_usd, ↓sA_ust, rreV_v, rinV_v, rprtV_v, lt, b0, bt, bn, em_nil, kz]
      all_goals repeat' split
      all_goals refine ⟨?_, sA _⟩
      all_goals simp_all [fldB, emB]
      all_goals by_cases k1 : 0 ≤ n <;> by_cases k2 : n ≤ 9007199254740992 <;> by_cases k3 : tx.toList = [] <;> by_cases k4 : n = 0 <;> simp_all <;> omega
    by_cases o2 : op = 2
    · subst o2
      cases hl : litB tx <;> simp (maxDischargeDepth := 16) only [evN, ↓evP, simprocAttr, forall_const, nuE, fr.2, vbQp, ↓sA_usd, ↓sA_ust, rreV_v, rinV_v, rprtV_v, lt, b0, bt, bn, em_nil, kz, lv, hl]
      all_goals repeat' split
      all_goals refine ⟨?_, sA _⟩
      all_goals simp_all [fldB, emB]
      all_goals by_cases k1 : 0 ≤ n <;> by_cases k2 : n ≤ 9007199254740992 <;> by_cases k3 : tx.toList = [] <;> by_cases k4 : n = 0 <;> simp_all <;> omega
    by_cases o3 : op = 3
    · subst o3
      cases hl : naB nm <;> simp (maxDischargeDepth := 16) only [evN, ↓evP, simprocAttr, forall_const, nuE, fr.2, vbQp, ↓sA_usd, ↓sA_ust, rreV_v, rinV_v, rprtV_v, lt, b0, bt, bn, em_nil, kz, hl]
      all_goals repeat' split
      all_goals refine ⟨?_, sA _⟩
      all_goals simp_all [fldB, emB]
      all_goals by_cases k1 : 0 ≤ n <;> by_cases k2 : n ≤ 9007199254740992 <;> by_cases k3 : tx.toList = [] <;> by_cases k4 : n = 0 <;> simp_all <;> omega
    by_cases o16 : op = 16
    · subst o16
      cases hl : naB nm <;> simp (maxDischargeDepth := 16) only [evN, ↓evP, simprocAttr, forall_const, nuE, fr.2, vbQp, ↓sA_usd, ↓sA_ust, rreV_v, rinV_v, rprtV_v, lt, b0, bt, bn, em_nil, kz, hl]
      all_goals repeat' split
      all_goals refine ⟨?_, sA _⟩
      all_goals simp_all [fldB, emB]
      all_goals by_cases k1 : 0 ≤ n <;> by_cases k2 : n ≤ 9007199254740992 <;> by_cases k3 : tx.toList = [] <;> by_cases k4 : n = 0 <;> simp_all <;> omega
    by_cases o17 : op = 17
    · subst o17
      cases hl : naB nm <;> simp (maxDischargeDepth := 16) only [evN, ↓evP, simprocAttr, forall_const, nuE, fr.2, vbQp, ↓sA_usd, ↓sA_ust, rreV_v, rinV_v, rprtV_v, lt, b0, bt, bn, em_nil, kz, hl]
      all_goals repeat' split
      all_goals refine ⟨?_, sA _⟩
      all_goals simp_all [fldB, emB]
      all_goals by_cases k1 : 0 ≤ n <;> by_cases k2 : n ≤ 9007199254740992 <;> by_cases k3 : tx.toList = [] <;> by_cases k4 : n = 0 <;> simp_all <;> omega
    have hF : fldB op nm tx n args.length = (emB nm && emB tx && decide (n = 0) && (if op = 4 ∨ op = 5 then decide (args.length = 1) else if 6 ≤ op ∧ op ≤ 14 then decide (args.length = 2) else decide (op = 15) && decide (2 ≤ args.length))) := by
      unfold fldB
      rw [if_neg o1, if_neg o2, if_neg o3, if_neg (by omega)]
    rw [hF]
    clear hF
    by_cases e1 : nm.toList = []
    rotate_left
    · simp (maxDischargeDepth := 16) only [evN, ↓evP, simprocAttr, forall_const, nuE, fr.2, vbQp, ↓sA_usd, ↓sA_ust, rreV_v, rinV_v, rprtV_v, lt, eq_false o1, eq_false o2, eq_false o3, eq_false o16, eq_false o17, em_nil, eq_false e1]
      all_goals repeat' split
      all_goals first | exact sA _ | exact ⟨by simp [emB, e1], sA _⟩
    by_cases e2 : tx.toList = []
    rotate_left
    · simp (maxDischargeDepth := 16) only [evN, ↓evP, simprocAttr, forall_const, nuE, fr.2, vbQp, ↓sA_usd, ↓sA_ust, rreV_v, rinV_v, rprtV_v, lt, eq_false o1, eq_false o2, eq_false o3, eq_false o16, eq_false o17, em_nil, e1, eq_false e2]
      all_goals repeat' split
      all_goals first | exact sA _ | exact ⟨by simp [emB, e2], sA _⟩
    by_cases e3 : n = 0
    rotate_left
    · simp (maxDischargeDepth := 16) only [evN, ↓evP, simprocAttr, forall_const, nuE, fr.2, vbQp, ↓sA_usd, ↓sA_ust, rreV_v, rinV_v, rprtV_v, lt, eq_false o1, eq_false o2, eq_false o3, eq_false o16, eq_false o17, em_nil, e1, e2, eq_false e3]
      all_goals repeat' split
      all_goals first | exact sA _ | exact ⟨by simp [emB, e3], sA _⟩
    have hE : (emB nm && emB tx && decide (n = 0)) = true := by simp [emB, e1, e2, e3]
    rw [hE, Bool.true_and]
    clear hE
    by_cases o4 : op = 4
    · simp (maxDischargeDepth := 16) only [evN, ↓evP, simprocAttr, forall_const, nuE, fr.2, vbQp, ↓sA_usd, ↓sA_ust, rreV_v, rinV_v, rprtV_v, lt, o4, em_nil, e1, e2, e3, b1]
      first | exact sA _ | exact ⟨by simp, sA _⟩
    by_cases o5 : op = 5
    · simp (maxDischargeDepth := 16) only [evN, ↓evP, simprocAttr, forall_const, nuE, fr.2, vbQp, ↓sA_usd, ↓sA_ust, rreV_v, rinV_v, rprtV_v, lt, o5, em_nil, e1, e2, e3, b1]
      first | exact sA _ | exact ⟨by simp, sA _⟩
    by_cases o15 : op = 15
    · simp (maxDischargeDepth := 16) only [evN, ↓evP, simprocAttr, forall_const, nuE, fr.2, vbQp, ↓sA_usd, ↓sA_ust, rreV_v, rinV_v, rprtV_v, lt, o15, em_nil, e1, e2, e3, k3]
      first | exact sA _ | exact ⟨by simp, sA _⟩
    rw [if_neg (by omega)]
    have p6 : (6 ≤ op) = (6 ≤ op) := rfl
    simp (maxDischargeDepth := 16) only [evN, ↓evP, simprocAttr, forall_const, nuE, fr.2, vbQp, ↓sA_usd, ↓sA_ust, rreV_v, rinV_v, rprtV_v, lt, eq_false o1, eq_false o2, eq_false o3, eq_false o16, eq_false o17, eq_false o4, eq_false o5, eq_false o15, em_nil, e1, e2, e3, k2, b2]
    all_goals repeat' split
    all_goals first | exact sA _ | exact ⟨by simp_all; try omega, sA _⟩
  | cons x l ihl =>
    obtain ⟨ha, hlt, hd', htk⟩ := drop_some hd
    have lt : ((e : Int) < (args.length : Int)) = True := eq_true (by omega)
    have li : ((e : Int) < 0) = False := eq_false (by omega)
    have we : IntKind.i64.wrap ((e : Int) + 1) = ((e + 1 : Nat) : Int) := by rw [w_i64 (by omega) (by omega)]; omega
    obtain ⟨s, hs⟩ : ∃ s, rs[e]? = some s := ⟨_, List.getElem?_eq_getElem (by omega)⟩
    obtain ⟨bk, off, cs, ty, fr0, hp0, hbk, hcr, hcc⟩ := hS.at hs
    subst hp0
    simp only [xrC] at hcr
    obtain ⟨q1, q2⟩ := look_ne f0 hbk
    refine LoopA.intro (by kernel_rfl) ?_
    intro ν fr; have nuE := And.intro (fr.mem (b := n1) (by simp)) (fr.nu)
    have iv := ih e x s ha hs ((n1, .cells #[.int .i64 op, .string nm, .string tx, .int .i64 n, .slice (some ⟨bk, off, none⟩) args.length cap] 24) :: A) (SubA.fresh f0 (SubA.refl _))
    simp only [xrV, xrC] at iv
    cases hw : wX x with
    | true =>
      rw [hw] at iv
      simp (maxDischargeDepth := 16) only [evN, ↓evP, simprocAttr, forall_const, nuE, fr.2, vbQp, ↓sA_usd, ↓sA_ust, rreV_v, rinV_v, rprtV_v, lt, li, hbk, hcr, q1, q2, iv, we]
      have hc : (fldB op nm tx n args.length && (x :: l).all wX) = (fldB op nm tx n args.length && l.all wX) := by simp [hw]
      rw [hc]
      exact LoopA.weak (ihl (e + 1) hd' (by omega)) (by simp only [subE, get_cons, Nat.reduceEqDiff, ↓reduceIte, reduceCtorEq, Nat.reduceAdd, and_self, and_true]) (SubA.refl _)
    | false =>
      rw [hw] at iv
      simp (maxDischargeDepth := 16) only [evN, ↓evP, simprocAttr, forall_const, nuE, fr.2, vbQp, ↓sA_usd, ↓sA_ust, rreV_v, rinV_v, rprtV_v, lt, li, hbk, hcr, q1, q2, iv, we]
      exact ⟨by simp [hw], SubA.fresh f0 (SubA.refl _)⟩
theorem rwrS_w (A : AH) (op n : Int) (nm tx : ByteArray) (args : List Xs) (p : Option Addr) (cap : Nat) (rs : List Xr) (hl : args.length ≤ 140737488355328) (hrs : rs.length = args.length) (hS : StR xrC 5 A p rs) (htx : tx.size ≤ 9223372036854775807) (ih : ∀ (k : Nat) (x : Xs) (r : Xr), args[k]? = some x → rs[k]? = some r → ∀ B, SubA A B → valA Tryd.prog 8 #[xrV r] B = some (.bool (wX x))) (B_ : AH) (hB_ : SubA A B_) : valA Tryd.prog 8 #[.agg #[.int .i64 op, .string nm, .string tx, .int .i64 n, .slice p args.length cap]] B_ = some (.bool (wX (.mk op nm tx n args))) := valA_eq (pureA_at (by kernel_rfl) (rwrS_h A op n nm tx args p cap rs hl hrs hS htx ih) hB_)
theorem rwrX {A : AH} {t : Xs} {r : Xr} (h : ExR A t r) : SzX t → ∀ B, SubA A B → valA Tryd.prog 8 #[xrV r] B = some (.bool (wX t)) := by
  induction h with
  | @mk op n nm tx args p cap rs h0 h0' h1 h2 h3 ih =>
    rintro (⟨z1, z2, z3⟩) B hB
    exact rwrS_w A op n nm tx args p cap rs h0 h1 h2 z2 (fun k x r hx hr C hC => ih k x r hx hr (z3 x (List.mem_of_getElem? hx)) C hC) B hB
end Go.Proofs.YtgglccpckhpocaaDoor
