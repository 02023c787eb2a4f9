/-
The examples of the chapter.
Conditions: none.
-/
import Derived.Test.YtgglccpckhpocaaDoorAwp
set_option linter.unusedSimpArgs false
set_option linter.unusedVariables false
namespace Go.Proofs.YtgglccpckhpocaaDoor
open Go.Vm
set_option maxHeartbeats 8000000
set_option maxRecDepth 20000
theorem vbAwx : type_of% (An @slIndexByte_v (An @indexByte_v (An @indexRune_v (An @containsRune_v (An @slHasPrefix_v (An @hasPrefix_v (An @classOf_v (An @isWordByte_v (An @letter_v (An @digit_v (An @wordAt_v (An @rword_v (An @skip_v (An @number_v (An @literal_v (An @lexemeAt_v (An @isName_v (An @risName_v (An @resV_v (An @soft_usd (An @soft_ust (An @cnvN_pu (An @cnvN_up (An @eqS_pp (An @isNameV_v (An @isLitV_v (An @hasF_v (An @lvV_v (An @syV_v (An @wordV_v @nameV_v)))))))))))))))))))))))))))))) := ⟨@slIndexByte_v, @indexByte_v, @indexRune_v, @containsRune_v, @slHasPrefix_v, @hasPrefix_v, @classOf_v, @isWordByte_v, @letter_v, @digit_v, @wordAt_v, @rword_v, @skip_v, @number_v, @literal_v, @lexemeAt_v, @isName_v, @risName_v, @resV_v, @soft_usd, @soft_ust, @cnvN_pu, @cnvN_up, @eqS_pp, @isNameV_v, @isLitV_v, @hasF_v, @lvV_v, @syV_v, @wordV_v, @nameV_v⟩
theorem awk25_h (A : AH) (hT : TabA A) : CallA Tryd.prog 6 #[] A (fun u_ A_ => u_ = .bool true ∧ SubA A A_) := by
  refine callA_of_denA ⟨Tryd.prog, 6, Tryd.f6, 120, [0, 1, 2, 4, 5, 6, 9, 10, 12, 13], ⟨[10, 9, 13], none⟩, [], _⟩ rfl (args := []) Tryd.func6 rfl (by kernel_rfl) Tryd.ntmps6 (by simp) (by kernel_rfl) ?_
  intro ν fr; have nuE := fr.nu
  simp (maxDischargeDepth := 16) (maxSteps := 2000000) only [evN, ↓evP, simprocAttr, forall_const, nuE, fr.2, vbAwx, ↓sA_usd, ↓sA_ust]
  clear nuE fr
  refine CallA.newX (parR_h A ex1 (by decide)) (SubA.refl A) ?_
  rintro v1 B1 ⟨e, at_, us, p1, c1, hP, h64, hc1, rfl, hR1⟩ hdB
  obtain ⟨rfl, rfl, rfl⟩ := hP.det ex1_o
  refine ⟨B1 ++ A, SubA.refl _, ?_⟩
  clear hP h64
  intro ν fr; have nuE := fr.nu
  simp (maxDischargeDepth := 16) (maxSteps := 2000000) only [evN, ↓evP, simprocAttr, forall_const, nuE, fr.2, vbAwx, ↓sA_usd, ↓sA_ust]
  clear nuE fr
  refine CallA.newX (twoA_h (B1 ++ A) 11 ⟨3, ⟨#[97, 109, 111, 117, 110, 116]⟩, ⟨#[]⟩, 0, none, 0, 0⟩ ⟨1, ⟨#[]⟩, ⟨#[]⟩, 100, none, 0, 0⟩) (SubA.refl _) ?_
  rintro v2 B2 ⟨p2, c2, rfl, hS2⟩ hdB2
  have hE2 : ExR B2 (twoX 11 (nX ⟨#[97, 109, 111, 117, 110, 116]⟩) (nuX 100)) ⟨11, eB, eB, 0, p2, 2, c2⟩ := ExR.two (ExR.leaf _ _ _ _ _ _ _) (ExR.leaf _ _ _ _ _ _ _) hS2
  refine ⟨B2 ++ (B1 ++ A), SubA.refl _, ?_⟩
  intro ν fr; have nuE := fr.nu
  have f5 : Vm.look (B2 ++ (B1 ++ A)) (ν 0) = none := fr.2 0
  simp only [xrV, xrC]
  simp (maxDischargeDepth := 16) (maxSteps := 2000000) only [evN, ↓evP, simprocAttr, forall_const, nuE, fr.2, vbAwx, ↓sA_usd, ↓sA_ust, sc_x1]
  have dst_ : True := (by simp [nuE]); generalize ν 0 = n5 at dst_  f5 ⊢
  clear nuE fr
  refine CallA.newX (twoA_h _ 7 ⟨11, eB, eB, 0, p2, 2, c2⟩ ⟨4, ⟨#[]⟩, ⟨#[]⟩, 0, some ⟨n5, 0, none⟩, 1, 1⟩) (SubA.refl _) ?_
  rintro v3 B3 ⟨p3, c3, rfl, hS3⟩ hdB3
  have f5B : Vm.look ((n5, Obj.cells #[.int .i64 3, .string ⟨#[116, 111, 107, 101, 110]⟩, .string ⟨#[]⟩, .int .i64 0, .slice none 0 0] 24) :: (B2 ++ (B1 ++ A))) n5 ≠ none := by simp [Vm.look]
  have hB5 : Vm.look B3 n5 = none := hdB3 n5 f5B
  have sB2 : SubA B2 (B3 ++ ((n5, Obj.cells #[.int .i64 3, .string ⟨#[116, 111, 107, 101, 110]⟩, .string ⟨#[]⟩, .int .i64 0, .slice none 0 0] 24) :: (B2 ++ (B1 ++ A)))) := SubA.trans (SubA.trans (SubA.left B2 _) (SubA.fresh f5 (SubA.refl _))) hdB3.right
  have sN5 : SubA [(n5, Obj.cells #[.int .i64 3, .string ⟨#[116, 111, 107, 101, 110]⟩, .string ⟨#[]⟩, .int .i64 0, .slice none 0 0] 24)] (B3 ++ ((n5, Obj.cells #[.int .i64 3, .string ⟨#[116, 111, 107, 101, 110]⟩, .string ⟨#[]⟩, .int .i64 0, .slice none 0 0] 24) :: (B2 ++ (B1 ++ A)))) := SubA.trans (SubA.left [_] _) hdB3.right
  have sBA : SubA (B1 ++ A) (B3 ++ ((n5, Obj.cells #[.int .i64 3, .string ⟨#[116, 111, 107, 101, 110]⟩, .string ⟨#[]⟩, .int .i64 0, .slice none 0 0] 24) :: (B2 ++ (B1 ++ A)))) := SubA.trans (SubA.trans hdB2.right (SubA.fresh f5 (SubA.refl _))) hdB3.right
  have hE3 : ExR (B3 ++ ((n5, Obj.cells #[.int .i64 3, .string ⟨#[116, 111, 107, 101, 110]⟩, .string ⟨#[]⟩, .int .i64 0, .slice none 0 0] 24) :: (B2 ++ (B1 ++ A)))) t1 ⟨7, eB, eB, 0, p3, 2, c3⟩ :=
    ExR.two (hE2.mono sB2) (ExR.one (ExR.leaf _ 3 0 ⟨#[116, 111, 107, 101, 110]⟩ ⟨#[]⟩ none 0) ⟨by simp, (xr_one n5 24 ⟨3, ⟨#[116, 111, 107, 101, 110]⟩, ⟨#[]⟩, 0, none, 0, 0⟩ []).mono sN5⟩) (hS3.mono (SubA.left _ _))
  refine ⟨_, SubA.refl _, ?_⟩
  generalize (B3 ++ ((n5, Obj.cells #[.int .i64 3, .string ⟨#[116, 111, 107, 101, 110]⟩, .string ⟨#[]⟩, .int .i64 0, .slice none 0 0] 24) :: (B2 ++ (B1 ++ A)))) = M3 at hE3 sBA
  clear sB2 sN5 hdB3 hdB2 hS3 hS2 hE2 hB5 f5B f5 dst_
  have hR3 : RuL M3 [u1] p1 := hR1.mono (SubA.trans (SubA.left _ _) sBA)
  have hT3 : TabA M3 := hT.mono (SubA.trans hdB.right sBA)
  have sA3 : SubA A M3 := SubA.trans hdB.right sBA
  clear hR1 hT sBA hdB B1 B2 B3
  intro ν fr; have nuE := fr.nu
  have f4 : Vm.look M3 (ν 0) = none := fr.2 0
  simp only [xrV, xrC]
  simp (maxDischargeDepth := 16) (maxSteps := 2000000) only [evN, ↓evP, simprocAttr, forall_const, nuE, fr.2, vbAwx, ↓sA_usd, ↓sA_ust]
  have dst_ : True := (by simp [nuE]); generalize ν 0 = n4 at dst_  f4 ⊢
  clear nuE fr dst_
  refine CallA.newX (parX_h ((n4, _) :: M3) ex2 (by decide)) (SubA.refl _) ?_
  rintro v4 B4 ⟨e, at_, t, r4, hP, rfl, hE4⟩ hdB4
  obtain ⟨rfl, rfl, rfl⟩ := hP.det ex2_o
  have h44 : Vm.look B4 n4 = none := hdB4 n4 (by simp [Vm.look])
  refine ⟨(n4, _) :: (B4 ++ M3), SubA.both (X := [(n4, _)]) (SubA.trans (SubA.left [_] _) hdB4.right) (SubA.both (SubA.left _ _) (SubA.trans (SubA.fresh f4 (SubA.refl _)) hdB4.right)), ?_⟩
  clear hP
  intro ν fr; have nuE := And.intro (fr.mem (b := n4) (by simp)) (fr.nu)
  have f5 : Vm.look ((n4, _) :: (B4 ++ M3)) (ν 0) = none := fr.2 0
  simp only [xrV, xrC]
  simp (maxDischargeDepth := 16) (maxSteps := 2000000) only [evN, ↓evP, simprocAttr, forall_const, nuE, fr.2, vbAwx, ↓sA_usd, ↓sA_ust]
  have dst_ : ((ν 0 = n4) = False) ∧ ((n4 = ν 0) = False) := (by simp [nuE]); generalize ν 0 = n5 at dst_  f5 ⊢
  clear nuE fr
  have f4' : Vm.look (B4 ++ M3) n4 = none := look_app_none h44 f4
  have e54 : (n4 = n5) = False := dst_.2
  have dB4 : Dis B4 M3 := Dis.subr hdB4 (SubA.fresh f4 (SubA.refl _))
  have hE3 := hE3.mono dB4.right
  have hE4 := hE4.mono (SubA.left B4 M3)
  have hR3 := hR3.mono dB4.right
  have hT3 := hT3.mono dB4.right
  have sA3 : SubA A (B4 ++ M3) := SubA.trans sA3 dB4.right
  generalize B4 ++ M3 = M4 at f4' hE3 hE4 hR3 hT3 sA3 f5 ⊢
  clear hdB4 dB4 h44 f4
  refine CallA.newX (parX_h ((n5, _) :: (n4, _) :: M4) ex3 (by decide)) (SubA.refl _) ?_
  rintro v5 B5 ⟨e, at_, t, r5, hP, rfl, hE5⟩ hdB5
  obtain ⟨rfl, rfl, rfl⟩ := hP.det ex3_o
  refine ⟨(n5, _) :: (n4, _) :: M4, hdB5.right, ?_⟩
  clear hP hdB5 hE5
  intro ν fr; have nuE := And.intro (fr.mem (b := n5) (by simp)) (And.intro (fr.mem (b := n4) (by simp)) (fr.nu))
  have f8 : Vm.look ((n5, _) :: (n4, _) :: M4) (ν 0) = none := fr.2 0
  simp only [xrV, xrC]
  have d5 := dst_
  simp (maxDischargeDepth := 16) (maxSteps := 2000000) only [evN, ↓evP, simprocAttr, forall_const, nuE, fr.2, vbAwx, ↓sA_usd, ↓sA_ust, dst_]
  have dst_ : ((ν 0 = n5) = False) ∧ ((ν 0 = n4) = False) ∧ ((n5 = ν 0) = False) ∧ ((n4 = ν 0) = False) := (by simp [nuE]); generalize ν 0 = n8 at dst_  f8 ⊢
  clear nuE fr
  refine CallA.newX (parR_h ((n8, _) :: (n5, _) :: (n4, _) :: M4) ex4 (by decide)) (SubA.refl _) ?_
  rintro v6 B6 ⟨e, at_, us, p6, c6, hP, h64, hc6, rfl, hR6⟩ hdB6
  obtain ⟨rfl, rfl, rfl⟩ := hP.det ex4_o
  refine ⟨(n5, _) :: (n4, _) :: M4, SubA.trans (SubA.fresh f8 (SubA.refl _)) hdB6.right, ?_⟩
  clear hP hdB6 hR6 h64 hc6 f8
  intro ν fr; have nuE := And.intro (fr.mem (b := n5) (by simp)) (And.intro (fr.mem (b := n4) (by simp)) (fr.nu))
  simp (maxDischargeDepth := 16) (maxSteps := 2000000) only [evN, ↓evP, simprocAttr, forall_const, nuE, fr.2, vbAwx, ↓sA_usd, ↓sA_ust, e54]
  have f55 : Vm.look M4 n5 = none := by simpa only [Vm.look, e54, if_false] using f5
  clear nuE fr f5
  have d54 := d5
  obtain ⟨rs, hrl, hRS, hall⟩ := hR3
  obtain ⟨r, rfl⟩ := List.length_eq_one_iff.1 hrl
  obtain ⟨hn1, hw1, ha1, hs1⟩ := hall 0 u1 r rfl rfl
  obtain ⟨bk, off, cs, ty, fr0, hp0, hbk, hcr, hcc⟩ := hRS.at (i := 0) rfl
  subst hp0
  have c0 : cs[off]? = some (.string ⟨#[98, 105, 103]⟩) := by have := hcc 0 _ rfl; rw [hn1] at this; simpa [u1] using this
  have c6 : cs[off + 6]? = some (.int .i64 1) := by have := hcc 6 _ rfl; rw [ha1] at this; simpa [u1] using this
  have c7 : cs[off + 7]? = some (.int .i64 5) := by have := hcc 7 _ rfl; rw [hs1] at this; simpa [u1] using this
  have w5 : rdCS (some (.cells cs ty fr0)) (off + 1) 5 = some #[.int .i64 r.w.op, .string r.w.nm, .string r.w.tx, .int .i64 r.w.n, .slice r.w.p r.w.len r.w.cap] := by
    have h := rdCS_sub hcr (k := 1) (n := 5) (by decide)
    simpa [ruC] using h
  obtain ⟨q1, q2⟩ := look_ne f4' hbk
  obtain ⟨q3, q4⟩ := look_ne f55 hbk
  have sW : ∀ o o', SubA M4 ((n5, o) :: (n4, o') :: M4) := fun o o' => SubA.fresh (look_c1 e54 f55) (SubA.fresh f4' (SubA.refl _))
  have iv1 := sameE hw1 hE3 _ (sW (.cells #[.int .i64 r4.op, .string r4.nm, .string r4.tx, .int .i64 r4.n, .slice r4.p r4.len r4.cap] 24) (.cells #[.int .i64 7, .string eB, .string eB, .int .i64 0, .slice p3 2 c3] 24))
  simp only [xrV, xrC] at iv1
  refine MeantA.planO awPl _ (SubA.refl _) (by kernel_rfl) (by kernel_rfl) (by kernel_rfl) (by kernel_rfl) aw_plan (by kernel_rfl) ?_
  unfold awPl
  intro O hO
  simp only [stripL_cons, stripL_nil, stripL_app, stripL_app', List.toList_toArray] at hO
  have o0 := op_at hO 0
  simp only [List.getElem?_cons_succ, List.getElem?_cons_zero, List.append_eq, List.cons_append, List.nil_append] at o0
  have o1 := op_at hO 1
  simp only [List.getElem?_cons_succ, List.getElem?_cons_zero, List.append_eq, List.cons_append, List.nil_append] at o1
  have o2 := op_at hO 2
  simp only [List.getElem?_cons_succ, List.getElem?_cons_zero, List.append_eq, List.cons_append, List.nil_append] at o2
  have o3 := op_at hO 3
  simp only [List.getElem?_cons_succ, List.getElem?_cons_zero, List.append_eq, List.cons_append, List.nil_append] at o3
  have o4 := op_at hO 4
  simp only [List.getElem?_cons_succ, List.getElem?_cons_zero, List.append_eq, List.cons_append, List.nil_append] at o4
  have o5 := op_at hO 5
  simp only [List.getElem?_cons_succ, List.getElem?_cons_zero, List.append_eq, List.cons_append, List.nil_append] at o5
  have o6 := op_at hO 6
  simp only [List.getElem?_cons_succ, List.getElem?_cons_zero, List.append_eq, List.cons_append, List.nil_append] at o6
  have o7 := op_at hO 7
  simp only [List.getElem?_cons_succ, List.getElem?_cons_zero, List.append_eq, List.cons_append, List.nil_append] at o7
  have o8 := op_at hO 8
  simp only [List.getElem?_cons_succ, List.getElem?_cons_zero, List.append_eq, List.cons_append, List.nil_append] at o8
  have o9 := op_at hO 9
  simp only [List.getElem?_cons_succ, List.getElem?_cons_zero, List.append_eq, List.cons_append, List.nil_append] at o9
  have o10 := op_at hO 10
  simp only [List.getElem?_cons_succ, List.getElem?_cons_zero, List.append_eq, List.cons_append, List.nil_append] at o10
  have o11 := op_at hO 11
  simp only [List.getElem?_cons_succ, List.getElem?_cons_zero, List.append_eq, List.cons_append, List.nil_append] at o11
  have o12 := op_at hO 12
  simp only [List.getElem?_cons_succ, List.getElem?_cons_zero, List.append_eq, List.cons_append, List.nil_append] at o12
  have o13 := op_at hO 13
  simp only [List.getElem?_cons_succ, List.getElem?_cons_zero, List.append_eq, List.cons_append, List.nil_append] at o13
  have o14 := op_at hO 14
  simp only [List.getElem?_cons_succ, List.getElem?_cons_zero, List.append_eq, List.cons_append, List.nil_append] at o14
  have o15 := op_at hO 15
  simp only [List.getElem?_cons_succ, List.getElem?_cons_zero, List.append_eq, List.cons_append, List.nil_append] at o15
  have o16 := op_at hO 16
  simp only [List.getElem?_cons_succ, List.getElem?_cons_zero, List.append_eq, List.cons_append, List.nil_append] at o16
  have o17 := op_at hO 17
  simp only [List.getElem?_cons_succ, List.getElem?_cons_zero, List.append_eq, List.cons_append, List.nil_append] at o17
  have o18 := op_at hO 18
  simp only [List.getElem?_cons_succ, List.getElem?_cons_zero, List.append_eq, List.cons_append, List.nil_append] at o18
  have o19 := op_at hO 19
  simp only [List.getElem?_cons_succ, List.getElem?_cons_zero, List.append_eq, List.cons_append, List.nil_append] at o19
  have o20 := op_at hO 20
  simp only [List.getElem?_cons_succ, List.getElem?_cons_zero, List.append_eq, List.cons_append, List.nil_append] at o20
  have o21 := op_at hO 21
  simp only [List.getElem?_cons_succ, List.getElem?_cons_zero, List.append_eq, List.cons_append, List.nil_append] at o21
  have o22 := op_at hO 22
  simp only [List.getElem?_cons_succ, List.getElem?_cons_zero, List.append_eq, List.cons_append, List.nil_append] at o22
  have o23 := op_at hO 23
  simp only [List.getElem?_cons_succ, List.getElem?_cons_zero, List.append_eq, List.cons_append, List.nil_append] at o23
  have o24 := op_at hO 24
  simp only [List.getElem?_cons_succ, List.getElem?_cons_zero, List.append_eq, List.cons_append, List.nil_append] at o24
  have o25 := op_at hO 25
  simp only [List.getElem?_cons_succ, List.getElem?_cons_zero, List.append_eq, List.cons_append, List.nil_append] at o25
  have o26 := op_at hO 26
  simp only [List.getElem?_cons_succ, List.getElem?_cons_zero, List.append_eq, List.cons_append, List.nil_append] at o26
  have o27 := op_at hO 27
  simp only [List.getElem?_cons_succ, List.getElem?_cons_zero, List.append_eq, List.cons_append, List.nil_append] at o27
  have o28 := op_at hO 28
  simp only [List.getElem?_cons_succ, List.getElem?_cons_zero, List.append_eq, List.cons_append, List.nil_append] at o28
  have o29 := op_at hO 29
  simp only [List.getElem?_cons_succ, List.getElem?_cons_zero, List.append_eq, List.cons_append, List.nil_append] at o29
  have o30 := op_at hO 30
  simp only [List.getElem?_cons_succ, List.getElem?_cons_zero, List.append_eq, List.cons_append, List.nil_append] at o30
  have o31 := op_at hO 31
  simp only [List.getElem?_cons_succ, List.getElem?_cons_zero, List.append_eq, List.cons_append, List.nil_append] at o31
  have o32 := op_at hO 32
  simp only [List.getElem?_cons_succ, List.getElem?_cons_zero, List.append_eq, List.cons_append, List.nil_append] at o32
  have o33 := op_at hO 33
  simp only [List.getElem?_cons_succ, List.getElem?_cons_zero, List.append_eq, List.cons_append, List.nil_append] at o33
  have o34 := op_at hO 34
  simp only [List.getElem?_cons_succ, List.getElem?_cons_zero, List.append_eq, List.cons_append, List.nil_append] at o34
  have o35 := op_at hO 35
  simp only [List.getElem?_cons_succ, List.getElem?_cons_zero, List.append_eq, List.cons_append, List.nil_append] at o35
  have o36 := op_at hO 36
  simp only [List.getElem?_cons_succ, List.getElem?_cons_zero, List.append_eq, List.cons_append, List.nil_append] at o36
  have o37 := op_at hO 37
  simp only [List.getElem?_cons_succ, List.getElem?_cons_zero, List.append_eq, List.cons_append, List.nil_append] at o37
  have o38 := op_at hO 38
  simp only [List.getElem?_cons_succ, List.getElem?_cons_zero, List.append_eq, List.cons_append, List.nil_append] at o38
  have o39 := op_at hO 39
  simp only [List.getElem?_cons_succ, List.getElem?_cons_zero, List.append_eq, List.cons_append, List.nil_append] at o39
  have o40 := op_at hO 40
  simp only [List.getElem?_cons_succ, List.getElem?_cons_zero, List.append_eq, List.cons_append, List.nil_append] at o40
  have o41 := op_at hO 41
  simp only [List.getElem?_cons_succ, List.getElem?_cons_zero, List.append_eq, List.cons_append, List.nil_append] at o41
  have o42 := op_at hO 42
  simp only [List.getElem?_cons_succ, List.getElem?_cons_zero, List.append_eq, List.cons_append, List.nil_append] at o42
  have o43 := op_at hO 43
  simp only [List.getElem?_cons_succ, List.getElem?_cons_zero, List.append_eq, List.cons_append, List.nil_append] at o43
  have o44 := op_at hO 44
  simp only [List.getElem?_cons_succ, List.getElem?_cons_zero, List.append_eq, List.cons_append, List.nil_append] at o44
  have o45 := op_at hO 45
  simp only [List.getElem?_cons_succ, List.getElem?_cons_zero, List.append_eq, List.cons_append, List.nil_append] at o45
  have o46 := op_at hO 46
  simp only [List.getElem?_cons_succ, List.getElem?_cons_zero, List.append_eq, List.cons_append, List.nil_append] at o46
  have o47 := op_at hO 47
  simp only [List.getElem?_cons_succ, List.getElem?_cons_zero, List.append_eq, List.cons_append, List.nil_append] at o47
  have o48 := op_at hO 48
  simp only [List.getElem?_cons_succ, List.getElem?_cons_zero, List.append_eq, List.cons_append, List.nil_append] at o48
  have o49 := op_at hO 49
  simp only [List.getElem?_cons_succ, List.getElem?_cons_zero, List.append_eq, List.cons_append, List.nil_append] at o49
  have o50 := op_at hO 50
  simp only [List.getElem?_cons_succ, List.getElem?_cons_zero, List.append_eq, List.cons_append, List.nil_append] at o50
  have o51 := op_at hO 51
  simp only [List.getElem?_cons_succ, List.getElem?_cons_zero, List.append_eq, List.cons_append, List.nil_append] at o51
  have o52 := op_at hO 52
  simp only [List.getElem?_cons_succ, List.getElem?_cons_zero, List.append_eq, List.cons_append, List.nil_append] at o52
  have o53 := op_at hO 53
  simp only [List.getElem?_cons_succ, List.getElem?_cons_zero, List.append_eq, List.cons_append, List.nil_append] at o53
  have o54 := op_at hO 54
  simp only [List.getElem?_cons_succ, List.getElem?_cons_zero, List.append_eq, List.cons_append, List.nil_append] at o54
  have o55 := op_at hO 55
  simp only [List.getElem?_cons_succ, List.getElem?_cons_zero, List.append_eq, List.cons_append, List.nil_append] at o55
  have o56 := op_at hO 56
  simp only [List.getElem?_cons_succ, List.getElem?_cons_zero, List.append_eq, List.cons_append, List.nil_append] at o56
  have o57 := op_at hO 57
  simp only [List.getElem?_cons_succ, List.getElem?_cons_zero, List.append_eq, List.cons_append, List.nil_append] at o57
  have o58 := op_at hO 58
  simp only [List.getElem?_cons_succ, List.getElem?_cons_zero, List.append_eq, List.cons_append, List.nil_append] at o58
  have o59 := op_at hO 59
  simp only [List.getElem?_cons_succ, List.getElem?_cons_zero, List.append_eq, List.cons_append, List.nil_append] at o59
  have o60 := op_at hO 60
  simp only [List.getElem?_cons_succ, List.getElem?_cons_zero, List.append_eq, List.cons_append, List.nil_append] at o60
  have o61 := op_at hO 61
  simp only [List.getElem?_cons_succ, List.getElem?_cons_zero, List.append_eq, List.cons_append, List.nil_append] at o61
  have o62 := op_at hO 62
  simp only [List.getElem?_cons_succ, List.getElem?_cons_zero, List.append_eq, List.cons_append, List.nil_append] at o62
  have o63 := op_at hO 63
  simp only [List.getElem?_cons_succ, List.getElem?_cons_zero, List.append_eq, List.cons_append, List.nil_append] at o63
  have o64 := op_at hO 64
  simp only [List.getElem?_cons_succ, List.getElem?_cons_zero, List.append_eq, List.cons_append, List.nil_append] at o64
  have o65 := op_at hO 65
  simp only [List.getElem?_cons_succ, List.getElem?_cons_zero, List.append_eq, List.cons_append, List.nil_append] at o65
  have o66 := op_at hO 66
  simp only [List.getElem?_cons_succ, List.getElem?_cons_zero, List.append_eq, List.cons_append, List.nil_append] at o66
  have o67 := op_at hO 67
  simp only [List.getElem?_cons_succ, List.getElem?_cons_zero, List.append_eq, List.cons_append, List.nil_append] at o67
  have o68 := op_at hO 68
  simp only [List.getElem?_cons_succ, List.getElem?_cons_zero, List.append_eq, List.cons_append, List.nil_append] at o68
  have o69 := op_at hO 69
  simp only [List.getElem?_cons_succ, List.getElem?_cons_zero, List.append_eq, List.cons_append, List.nil_append] at o69
  have o70 := op_at hO 70
  simp only [List.getElem?_cons_succ, List.getElem?_cons_zero, List.append_eq, List.cons_append, List.nil_append] at o70
  have o71 := op_at hO 71
  simp only [List.getElem?_cons_succ, List.getElem?_cons_zero, List.append_eq, List.cons_append, List.nil_append] at o71
  have o72 := op_at hO 72
  simp only [List.getElem?_cons_succ, List.getElem?_cons_zero, List.append_eq, List.cons_append, List.nil_append] at o72
  have s3 := slot_at o3
  simp only [] at s3
  have s5 := slot_at o5
  simp only [] at s5
  have s8 := slot_at o8
  simp only [] at s8
  have s12 := slot_at o12
  simp only [] at s12
  have s19 := slot_at o19
  simp only [] at s19
  have s27 := slot_at o27
  simp only [] at s27
  have s31 := slot_at o31
  simp only [] at s31
  have s42 := slot_at o42
  simp only [] at s42
  have s46 := slot_at o46
  simp only [] at s46
  have s50 := slot_at o50
  simp only [] at s50
  have s54 := slot_at o54
  simp only [] at s54
  have s58 := slot_at o58
  simp only [] at s58
  have s67 := slot_at o67
  simp only [] at s67
  clear hO
  intro ν fr; have nuE := And.intro (fr.mem (b := n5) (by simp)) (And.intro (fr.mem (b := n4) (by simp)) (fr.nu))
  simp (maxDischargeDepth := 16) (maxSteps := 2000000) only [evN, ↓evP, simprocAttr, forall_const, nuE, fr.2, vbAwx, ↓sA_usd, ↓sA_ust, e54, d54, hbk, q1, q2, q3, q4, c0, c6, c7, w5, iv1, o0, o1, o2, o3, o4, o5, o6, o7, o8, o9, o10, o11, o12, o13, o14, o15, o16, o17, o18, o19, o20, o21, o22, o23, o24, o25, o26, o27, o28, o29, o30, o31, o32, o33, o34, o35, o36, o37, o38, o39, o40, o41, o42, o43, o44, o45, o46, o47, o48, o49, o50, o51, o52, o53, o54, o55, o56, o57, o58, o59, o60, o61, o62, o63, o64, o65, o66, o67, o68, o69, o70, o71, o72, s3, s5, s8, s12, s19, s27, s31, s42, s46, s50, s54, s58, s67]
  generalize hW : (n5, Obj.cells #[.int .i64 r4.op, .string r4.nm, .string r4.tx, .int .i64 r4.n, .slice r4.p r4.len r4.cap] 24) :: (n4, Obj.cells #[.int .i64 7, .string eB, .string eB, .int .i64 0, .slice p3 2 c3] 24) :: M4 = W
  have sMW : SubA M4 W := by rw [← hW]; exact sW _ _
  clear nuE fr
  refine CallA.newX (twoA_h (W) 13 ⟨3, ⟨#[97]⟩, ⟨#[]⟩, 0, none, 0, 0⟩ ⟨3, ⟨#[98]⟩, ⟨#[]⟩, 0, none, 0, 0⟩) (SubA.refl _) ?_
  rintro v7 B7 ⟨p7, k7, rfl, hS7⟩ hd7
  refine ⟨B7 ++ (W), SubA.refl _, ?_⟩
  have s7_ := hd7.right
  have hE7 : ExR B7 (twoX 13 (nX ⟨#[97]⟩) (nX ⟨#[98]⟩)) ⟨13, eB, eB, 0, p7, 2, k7⟩ := ExR.two (ExR.leaf _ _ _ _ _ _ _) (ExR.leaf _ _ _ _ _ _ _) hS7
  intro ν fr; have nuE := fr.nu
  simp only [xrV, xrC]
  simp (maxDischargeDepth := 16) (maxSteps := 2000000) only [evN, ↓evP, simprocAttr, forall_const, nuE, fr.2, vbAwx, ↓sA_usd, ↓sA_ust, eq_true s7_, o0, o1, o2, o3, o4, o5, o6, o7, o8, o9, o10, o11, o12, o13, o14, o15, o16, o17, o18, o19, o20, o21, o22, o23, o24, o25, o26, o27, o28, o29, o30, o31, o32, o33, o34, o35, o36, o37, o38, o39, o40, o41, o42, o43, o44, o45, o46, o47, o48, o49, o50, o51, o52, o53, o54, o55, o56, o57, o58, o59, o60, o61, o62, o63, o64, o65, o66, o67, o68, o69, o70, o71, o72, s3, s5, s8, s12, s19, s27, s31, s42, s46, s50, s54, s58, s67]
  clear nuE fr
  refine CallA.newX (twoA_h (B7 ++ W) 14 ⟨3, ⟨#[99]⟩, ⟨#[]⟩, 0, none, 0, 0⟩ ⟨1, ⟨#[]⟩, ⟨#[]⟩, 2, none, 0, 0⟩) (SubA.refl _) ?_
  rintro v8 B8 ⟨p8, k8, rfl, hS8⟩ hd8
  refine ⟨B8 ++ (B7 ++ W), SubA.refl _, ?_⟩
  have s8_ := hd8.right
  have hE8 : ExR B8 (twoX 14 (nX ⟨#[99]⟩) (nuX 2)) ⟨14, eB, eB, 0, p8, 2, k8⟩ := ExR.two (ExR.leaf _ _ _ _ _ _ _) (ExR.leaf _ _ _ _ _ _ _) hS8
  intro ν fr; have nuE := fr.nu
  simp only [xrV, xrC]
  simp (maxDischargeDepth := 16) (maxSteps := 2000000) only [evN, ↓evP, simprocAttr, forall_const, nuE, fr.2, vbAwx, ↓sA_usd, ↓sA_ust, eq_true s8_, o0, o1, o2, o3, o4, o5, o6, o7, o8, o9, o10, o11, o12, o13, o14, o15, o16, o17, o18, o19, o20, o21, o22, o23, o24, o25, o26, o27, o28, o29, o30, o31, o32, o33, o34, o35, o36, o37, o38, o39, o40, o41, o42, o43, o44, o45, o46, o47, o48, o49, o50, o51, o52, o53, o54, o55, o56, o57, o58, o59, o60, o61, o62, o63, o64, o65, o66, o67, o68, o69, o70, o71, o72, s3, s5, s8, s12, s19, s27, s31, s42, s46, s50, s54, s58, s67]
  clear nuE fr
  refine CallA.newX (twoA_h (B8 ++ (B7 ++ W)) 13 ⟨13, eB, eB, 0, p7, 2, k7⟩ ⟨14, eB, eB, 0, p8, 2, k8⟩) (SubA.refl _) ?_
  rintro v9 B9 ⟨p9, k9, rfl, hS9⟩ hd9
  refine ⟨B9 ++ (B8 ++ (B7 ++ W)), SubA.refl _, ?_⟩
  have s9_ := hd9.right
  have hE9 : ExR (B9 ++ (B8 ++ (B7 ++ W))) t2 ⟨13, eB, eB, 0, p9, 2, k9⟩ := ExR.two ((hE7.mono (SubA.left B7 W)).mono (SubA.trans s8_ s9_)) ((hE8.mono (SubA.left B8 _)).mono s9_) (hS9.mono (SubA.left _ _))
  have sM9 : SubA M4 (B9 ++ (B8 ++ (B7 ++ W))) := SubA.trans sMW (SubA.trans s7_ (SubA.trans s8_ s9_))
  have iv2 := sameE (hE4.mono sM9) hE9 _ (SubA.refl _)
  simp only [xrV, xrC] at iv2
  intro ν fr; have nuE := fr.nu
  simp only [xrV, xrC]
  simp (maxDischargeDepth := 16) (maxSteps := 2000000) only [evN, ↓evP, simprocAttr, forall_const, nuE, fr.2, vbAwx, ↓sA_usd, ↓sA_ust, eq_true s9_, iv2, o0, o1, o2, o3, o4, o5, o6, o7, o8, o9, o10, o11, o12, o13, o14, o15, o16, o17, o18, o19, o20, o21, o22, o23, o24, o25, o26, o27, o28, o29, o30, o31, o32, o33, o34, o35, o36, o37, o38, o39, o40, o41, o42, o43, o44, o45, o46, o47, o48, o49, o50, o51, o52, o53, o54, o55, o56, o57, o58, o59, o60, o61, o62, o63, o64, o65, o66, o67, o68, o69, o70, o71, o72, s3, s5, s8, s12, s19, s27, s31, s42, s46, s50, s54, s58, s67]
  clear iv2 hE9 hE8 hE7 hS9 hS8 hS7 s9_ s8_ s7_ hd9 hd8 hd7
  generalize B9 ++ (B8 ++ (B7 ++ W)) = W9 at sM9
  clear nuE fr
  refine CallA.newX (twoA_h (W9) 8 ⟨3, ⟨#[97]⟩, ⟨#[]⟩, 0, none, 0, 0⟩ ⟨3, ⟨#[98]⟩, ⟨#[]⟩, 0, none, 0, 0⟩) (SubA.refl _) ?_
  rintro v10 B10 ⟨p10, k10, rfl, hS10⟩ hd10
  refine ⟨B10 ++ (W9), SubA.refl _, ?_⟩
  have s10_ := hd10.right
  have hE10 : ExR B10 (twoX 8 (nX ⟨#[97]⟩) (nX ⟨#[98]⟩)) ⟨8, eB, eB, 0, p10, 2, k10⟩ := ExR.two (ExR.leaf _ _ _ _ _ _ _) (ExR.leaf _ _ _ _ _ _ _) hS10
  intro ν fr; have nuE := fr.nu
  simp only [xrV, xrC]
  simp (maxDischargeDepth := 16) (maxSteps := 2000000) only [evN, ↓evP, simprocAttr, forall_const, nuE, fr.2, vbAwx, ↓sA_usd, ↓sA_ust, eq_true s10_, o0, o1, o2, o3, o4, o5, o6, o7, o8, o9, o10, o11, o12, o13, o14, o15, o16, o17, o18, o19, o20, o21, o22, o23, o24, o25, o26, o27, o28, o29, o30, o31, o32, o33, o34, o35, o36, o37, o38, o39, o40, o41, o42, o43, o44, o45, o46, o47, o48, o49, o50, o51, o52, o53, o54, o55, o56, o57, o58, o59, o60, o61, o62, o63, o64, o65, o66, o67, o68, o69, o70, o71, o72, s3, s5, s8, s12, s19, s27, s31, s42, s46, s50, s54, s58, s67]
  clear nuE fr
  refine CallA.newX (twoA_h (B10 ++ W9) 8 ⟨8, eB, eB, 0, p10, 2, k10⟩ ⟨3, ⟨#[99]⟩, ⟨#[]⟩, 0, none, 0, 0⟩) (SubA.refl _) ?_
  rintro v11 B11 ⟨p11, k11, rfl, hS11⟩ hd11
  refine ⟨B11 ++ (B10 ++ W9), SubA.refl _, ?_⟩
  have s11_ := hd11.right
  have hE11 : ExR (B11 ++ (B10 ++ W9)) t3 ⟨8, eB, eB, 0, p11, 2, k11⟩ := ExR.two ((hE10.mono (SubA.left B10 W9)).mono s11_) (ExR.leaf _ _ _ _ _ _ _) (hS11.mono (SubA.left _ _))
  have sM11 : SubA M4 (B11 ++ (B10 ++ W9)) := SubA.trans sM9 (SubA.trans s10_ s11_)
  have hw3 : wX t3 = true := by decide +kernel
  have iv3 := exV_w (B11 ++ (B10 ++ W9)) (hT3.mono sM11) t3 ⟨8, eB, eB, 0, p11, 2, k11⟩ hE11 (wX_sz hE11 hw3) (by decide +kernel) _ (SubA.refl _)
  rw [show bs (exT t3) = ⟨#[40, 97, 32, 61, 32, 98, 41, 32, 61, 32, 99]⟩ by kernel_rfl] at iv3
  have hw1' : wX u1.w = true := by decide +kernel
  have iv4 := fmP_w M4 hT3 [u1] (some ⟨bk, off, none⟩) c1 ⟨[r], rfl, hRS, hall⟩ (fun u hu => by simp at hu; subst hu; exact wX_sz hw1 hw1') (by decide +kernel) (B11 ++ (B10 ++ W9)) sM11
  rw [show bs (fmT [u1]) = ⟨#[114, 117, 108, 101, 32, 98, 105, 103, 32, 119, 104, 101, 110, 32, 97, 109, 111, 117, 110, 116, 32, 60, 61, 32, 49, 48, 48, 32, 111, 114, 32, 110, 111, 116, 32, 116, 111, 107, 101, 110, 58, 32, 114, 101, 102, 101, 114, 32, 115, 99, 111, 114, 101, 32, 53, 59, 10]⟩ by kernel_rfl] at iv4
  simp only [List.length_cons, List.length_nil, Nat.zero_add] at iv4
  intro ν fr; have nuE := fr.nu
  simp only [xrV, xrC]
  simp (maxDischargeDepth := 16) (maxSteps := 2000000) only [evN, ↓evP, simprocAttr, forall_const, nuE, fr.2, vbAwx, ↓sA_usd, ↓sA_ust, eq_true s11_, iv3, iv4, o0, o1, o2, o3, o4, o5, o6, o7, o8, o9, o10, o11, o12, o13, o14, o15, o16, o17, o18, o19, o20, o21, o22, o23, o24, o25, o26, o27, o28, o29, o30, o31, o32, o33, o34, o35, o36, o37, o38, o39, o40, o41, o42, o43, o44, o45, o46, o47, o48, o49, o50, o51, o52, o53, o54, o55, o56, o57, o58, o59, o60, o61, o62, o63, o64, o65, o66, o67, o68, o69, o70, o71, o72, s3, s5, s8, s12, s19, s27, s31, s42, s46, s50, s54, s58, s67]
  exact SubA.trans sA3 sM11
theorem awk25_w (A : AH) (hT : TabA A) (B_ : AH) (hB_ : SubA A B_) : valA Tryd.prog 6 #[] B_ = some (.bool true) := valA_eq (pureA_at (by kernel_rfl) (awk25_h A hT) hB_)
end Go.Proofs.YtgglccpckhpocaaDoor
