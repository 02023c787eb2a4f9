/-
The law of expressions and their texts.
Conditions: none.
-/
import Derived.Test.YtgglccpckhpocaaDoorQq
import Derived.Test.YtgglccpckhpocaaDoorQp
import Derived.Test.YtgglccpckhpocaaDoorAwx
import Derived.Test.YtgglccpckhpocaaDoorQa
set_option linter.unusedSimpArgs false
set_option linter.unusedVariables false
namespace Go.Proofs.YtgglccpckhpocaaDoor
open Go.Vm
set_option maxHeartbeats 4000000
set_option maxRecDepth 20000
theorem vbLxp : type_of% (An @slIndexByte_v (An @indexByte_v (An @indexRune_v (An @containsRune_v (An @slHasPrefix_v (An @hasPrefix_v (An @classOf_v (An @isWordByte_v (An @letter_v (An @digit_v (An @wordAt_v (An @rword_v (An @skip_v (An @number_v (An @literal_v (An @lexemeAt_v (An @isName_v (An @risName_v (An @resV_v (An @soft_usd (An @soft_ust (An @cnvN_pu (An @cnvN_up (An @eqS_pp (An @isNameV_v (An @isLitV_v (An @hasF_v (An @lvV_v (An @syV_v (An @wordV_v (An @nameV_v (An @rreV_v (An @rinV_v @rprtV_v))))))))))))))))))))))))))))))))) := ⟨@slIndexByte_v, @indexByte_v, @indexRune_v, @containsRune_v, @slHasPrefix_v, @hasPrefix_v, @classOf_v, @isWordByte_v, @letter_v, @digit_v, @wordAt_v, @rword_v, @skip_v, @number_v, @literal_v, @lexemeAt_v, @isName_v, @risName_v, @resV_v, @soft_usd, @soft_ust, @cnvN_pu, @cnvN_up, @eqS_pp, @isNameV_v, @isLitV_v, @hasF_v, @lvV_v, @syV_v, @wordV_v, @nameV_v, @rreV_v, @rinV_v, @rprtV_v⟩
theorem stp_end {x : LR} (h : x.k = 0) : Stp 0 x := by
  have : ∀ (k : Int) (t : ByteArray), k ≠ 0 → isL x k t = false := fun k t hk => by unfold isL; rw [h]; simp; intro e; exact absurd e.symm hk
  refine .of ?_ ?_ ?_ ?_ ?_ <;> intro _ <;> simp [opX, cmX, inB, this]
theorem pxo_text {t : Xs} (h : wX t = true) (hl : (tX t).length ≤ 4000) : PxO (bs (tX t)) 0 0 t := by
  have hw := wrX_of t h
  obtain ⟨K, k1, k2⟩ := tk_scanF (kX t) (okX hw [] (.inl rfl)) (by rw [kX_text]; exact hl)
  rw [kX_text] at k1
  obtain ⟨a1, a2⟩ := at_scan (L := (scanF (bs (tX t))).2.2) (by rw [k1]) k2 rfl
  have hs : Stp 0 (lxA (scanF (bs (tX t))).2.2 (0 + ln (kX t))) := by
    exact stp_end a2
  have hx := (good_all hw 0 1 rfl (by omega)).1 _ 0 (by rw [opK_one]; exact a1) (by rw [opK_one]; exact hs)
  rw [opK_one, Nat.zero_add] at hx
  rw [Nat.zero_add] at a2
  have hlen : K.length = ln (kX t) := by have := congrArg List.length k2; simpa [ln] using this
  obtain ⟨x, hx1, hx2⟩ := at_of (L := (scanF (bs (tX t))).2.2) (j := ln (kX t)) (by rw [k1]; simp [hlen])
  exact .ok (by rw [k1]) hx hx1 (by rw [← hx2]; exact a2)
def oneR (t : Xs) : Ru := ⟨⟨#[114]⟩, t, 0, 0⟩
theorem r_nm : naB ⟨#[114]⟩ = true := by decide +kernel
theorem oneR_w {t : Xs} (h : wX t = true) : RuW (oneR t) := ⟨r_nm, wrX_of t h, ⟨Int.le_refl 0, by show (0 : Int) ≤ 2; decide⟩, Int.le_refl 0, by show (0 : Int) ≤ 1000; decide⟩
theorem oneR_text (t : Xs) : tkT (ruK (oneR t) []) = [114, 117, 108, 101, 32, 114, 32, 119, 104, 101, 110, 32] ++ tX t ++ [58, 32, 112, 97, 115, 115, 59] := by
  unfold ruK oneR
  simp [tkT, tkT_app, nm_form, mk_form, ml, ruB, whB, kX_text, scK, actT, bs_list]
theorem pao_one {t : Xs} (h : wX t = true) (hl : (tX t).length ≤ 3980) : PaO (bs ([114, 117, 108, 101, 32, 114, 32, 119, 104, 101, 110, 32] ++ tX t ++ [58, 32, 112, 97, 115, 115, 59])) 0 0 [oneR t] := by
  have hlen : (tkT (ruK (oneR t) [])).length ≤ 4000 := by rw [oneR_text]; simp only [List.length_append, List.length_cons, List.length_nil]; omega
  obtain ⟨K, k1, k2⟩ := tk_scanF (ruK (oneR t) []) (ru_ok (oneR_w h) (e := []) trivial) hlen
  rw [oneR_text] at k1
  obtain ⟨a1, a2⟩ := at_scan (L := (scanF (bs ([114, 117, 108, 101, 32, 114, 32, 119, 104, 101, 110, 32] ++ tX t ++ [58, 32, 112, 97, 115, 115, 59]))).2.2) (by rw [k1]) k2 rfl
  have hp := pu_at (dn := []) (oneR_w h) rfl (by decide) (e := []) rfl a1
  have hk : (lxA (scanF (bs ([114, 117, 108, 101, 32, 114, 32, 119, 104, 101, 110, 32] ++ tX t ++ [58, 32, 112, 97, 115, 115, 59]))).2.2 0).k ≠ 0 := by
    have : keyX (lxA (scanF (bs ([114, 117, 108, 101, 32, 114, 32, 119, 104, 101, 110, 32] ++ tX t ++ [58, 32, 112, 97, 115, 115, 59]))).2.2 0) = keyX (nmY ruB) := AtK.hd (X := lexK (ruK (oneR t) []).tail) a1 |>.1
    rw [(key_lx this).1]; decide
  exact .ok (by rw [k1]) (.step hk hp (.fin a2))
theorem nm_ne' {s : ByteArray} (h : naB s = true) : s.data.toList ≠ [] := by
  intro e
  unfold naB nameF at h
  simp only [Bool.and_eq_true, decide_eq_true_eq] at h
  have := size_list s
  rw [ByteArray.toList_eq, e] at this
  simp at this; omega
theorem tX_ne {t : Xs} (h : wX t = true) : tX t ≠ [] := by
  have hw := wrX_of t h
  clear h
  cases hw with
  | num => rw [tX, bareT, if_pos rfl]; exact itoa_ne _
  | txt => rw [tX, bareT, if_neg (by decide), if_pos rfl]; simp
  | nam h => rw [tX, bareT, if_neg (by decide), if_neg (by decide), if_pos rfl]; exact nm_ne' h
  | use h => rw [tX]; rcases h with rfl | rfl <;> simp [bareT]
  | one h => rw [tX]; rcases h with rfl | rfl <;> simp [bareT]
  | two h => rw [tX, bareT, if_neg (by omega), if_neg (by omega), if_neg (by omega), if_neg (by omega), if_neg (by omega), if_neg (by omega), if_neg (by omega), if_neg (by omega)]; simp
  | inn => rw [tX]; simp [bareT]
theorem l12 : (ByteArray.mk #[114, 117, 108, 101, 32, 114, 32, 119, 104, 101, 110, 32]) = bs [114, 117, 108, 101, 32, 114, 32, 119, 104, 101, 110, 32] := rfl
theorem l7 : (ByteArray.mk #[58, 32, 112, 97, 115, 115, 59]) = bs [58, 32, 112, 97, 115, 115, 59] := rfl
theorem exprL_h (A : AH) (hT : TabA A) (t : Xs) (r : Xr) (h : ExR A t r) (hzt : SzX t) (hnt : NbX t) : CallA Tryd.prog 3 #[.agg #[.int .i64 r.op, .string r.nm, .string r.tx, .int .i64 r.n, .slice r.p r.len r.cap]] A (fun u_ A_ => u_ = .bool true ∧ SubA A A_) := by
  refine callA_of_denA ⟨Tryd.prog, 3, Tryd.f3, 74, [0, 1, 2, 3, 4, 5, 6, 7, 8], ⟨[10, 9], none⟩, [(10, .q false)], _⟩ rfl (args := [_]) Tryd.func3 rfl (by kernel_rfl) Tryd.ntmps3 (by simp) (by kernel_rfl) ?_
  intro ν fr; have nuE := fr.nu
  have f0 := fr.2 0
  have sA : ∀ o, SubA A ((ν 0, o) :: A) := fun o => SubA.fresh f0 (SubA.refl _)
  have av := fun o => awk25_w A hT _ (sA o)
  have sv := fun o => rszX h 300 (by omega) (by omega) _ (sA o)
  simp only [xrV, xrC] at sv
  by_cases h3 : szX t 300 ≤ 300
  rotate_left
  · have lt : (300 < szX t 300) = True := eq_true (by omega)
    simp (maxDischargeDepth := 16) only [evN, ↓evP, simprocAttr, forall_const, nuE, fr.2, vbLxp, ↓sA_usd, ↓sA_ust, sv, lt, av]
  have lt : (300 < szX t 300) = False := eq_false (by omega)
  have e1 := sz_len t hnt 300 (by omega) h3
  have hex : (exT t).length ≤ 1000000000 := by
    unfold exT
    split
    · omega
    · simp
  have v3 := fun o => exV_w A hT t r h hzt hex _ (sA o)
  have v4 := fun o => rwrX h hzt _ (sA o)
  simp only [xrV, xrC] at v4
  cases hw : wX t with
  | false =>
    have he : exT t = [] := by unfold exT; rw [hw]; rfl
    simp only [he] at v3
    simp only [hw] at v4
    simp (maxDischargeDepth := 16) only [evN, ↓evP, simprocAttr, forall_const, nuE, fr.2, vbLxp, ↓sA_usd, ↓sA_ust, sv, lt, v3, v4, em_nil, bs_list, av]
  | true =>
    have he : exT t = tX t := by unfold exT; rw [hw]; rfl
    simp only [he] at v3
    simp only [hw] at v4
    have hne := eq_false (tX_ne hw)
    have hnb : (tX t == []) = false := by rw [← Bool.not_eq_true, beq_iff_eq, hne]; simp
    have hnc : (tX t != []) = true := by unfold bne; rw [hnb]; rfl
    have hsz := bs_size (tX t)
    by_cases h4 : (tX t).length ≤ 3960
    rotate_left
    · have lt4 : (3960 < ((tX t).length : Int)) = True := eq_true (by omega)
      simp (maxDischargeDepth := 16) only [evN, ↓evP, simprocAttr, forall_const, nuE, fr.2, vbLxp, ↓sA_usd, ↓sA_ust, sv, lt, v3, v4, hne, hnb, hnc, em_nil, bs_list, bs_size, lt4, av]
    have lt4 : (3960 < ((tX t).length : Int)) = False := eq_false (by omega)
    simp (maxDischargeDepth := 16) only [evN, ↓evP, simprocAttr, forall_const, nuE, fr.2, vbLxp, ↓sA_usd, ↓sA_ust, sv, lt, v3, v4, hne, hnb, hnc, em_nil, bs_list, bs_size, lt4]
    have dst_ : True := (by simp [nuE]); generalize ν 0 = n1 at dst_  f0 ⊢
    clear nuE fr av sv v3 v4 sA
    refine CallA.newX (parX_h _ (bs (tX t)) (by omega)) (SubA.refl _) ?_
    rintro v B ⟨e, at_, t', r', hP, rfl, hr⟩ hdB
    obtain ⟨rfl, rfl, rfl⟩ := hP.det (pxo_text hw (by omega))
    have hB1 : Vm.look B n1 = none := hdB n1 (by simp [Vm.look])
    have dB : Dis B A := Dis.subr hdB (SubA.fresh f0 (SubA.refl _))
    refine ⟨(n1, _) :: (B ++ A), SubA.both (X := [(n1, _)]) (SubA.trans (SubA.left [_] _) hdB.right) (SubA.both (SubA.left _ _) (SubA.trans (SubA.fresh f0 (SubA.refl _)) hdB.right)), ?_⟩
    have gBA : Vm.look (B ++ A) n1 = none := look_app_none hB1 f0
    intro ν fr; have nuE := And.intro (fr.mem (b := n1) (by simp)) (fr.nu)
    have g0 := fr.2 0
    simp only [xrV, xrC]
    have e12 : ByteArray.mk #[114, 117, 108, 101, 32, 114, 32, 119, 104, 101, 110, 32] ++ bs (tX t') ++ ByteArray.mk #[58, 32, 112, 97, 115, 115, 59] = bs ([114, 117, 108, 101, 32, 114, 32, 119, 104, 101, 110, 32] ++ tX t' ++ [58, 32, 112, 97, 115, 115, 59]) := by rw [l12, l7, bs_app, bs_app]
    have s1 : (ByteArray.mk #[114, 117, 108, 101, 32, 114, 32, 119, 104, 101, 110, 32]).size + (bs (tX t')).size ≤ 9223372036854775807 := by rw [hsz]; show 12 + _ ≤ _; omega
    have s2 : (ByteArray.mk #[114, 117, 108, 101, 32, 114, 32, 119, 104, 101, 110, 32] ++ bs (tX t')).size + (ByteArray.mk #[58, 32, 112, 97, 115, 115, 59]).size ≤ 9223372036854775807 := by rw [ByteArray.size_append, hsz]; show 12 + _ + 7 ≤ _; omega
    obtain ⟨F, hF⟩ : ∃ F, ByteArray.mk #[114, 117, 108, 101, 32, 114, 32, 119, 104, 101, 110, 32] ++ bs (tX t') ++ ByteArray.mk #[58, 32, 112, 97, 115, 115, 59] = F := ⟨_, rfl⟩
    simp (maxDischargeDepth := 16) only [evN, ↓evP, simprocAttr, forall_const, nuE, fr.2, vbLxp, ↓sA_usd, ↓sA_ust, s1, s2, hF]
    rw [hF] at e12
    have dst_ : ((ν 0 = n1) = False) ∧ ((n1 = ν 0) = False) := (by simp [nuE]); generalize ν 0 = n2 at dst_  g0 ⊢
    have d12 := dst_
    clear nuE fr dst_
    have gBA2 : Vm.look (B ++ A) n2 = none := (SubA.fresh gBA (SubA.refl _)).none g0
    refine CallA.newX (parR_h _ F (by rw [e12, bs_size]; simp only [List.length_append, List.length_cons, List.length_nil]; omega)) (SubA.refl _) ?_
    rintro v B2 ⟨e2, a2, us2, p2, k2, hP2, hl2, hc2, rfl, hR2⟩ hd2
    rw [e12] at hP2
    obtain ⟨rfl, rfl, rfl⟩ := hP2.det (pao_one hw (by omega))
    have hB21 : Vm.look B2 n1 = none := hd2 n1 (by simp [Vm.look, d12])
    have hB22 : Vm.look B2 n2 = none := hd2 n2 (by simp [Vm.look])
    have sBA : ∀ o o', SubA (B ++ A) ((n2, o) :: (n1, o') :: (B ++ A)) := fun o o' => SubA.fresh (look_c1 d12.2 gBA2) (SubA.fresh gBA (SubA.refl _))
    have sn1 : ∀ o o', SubA [(n1, o')] ((n2, o) :: (n1, o') :: (B ++ A)) := fun o o' => SubA.trans (SubA.left [(n1, o')] (B ++ A)) (SubA.fresh (look_c1 d12.2 gBA2) (SubA.refl _))
    refine ⟨(n2, _) :: (n1, _) :: (B2 ++ (B ++ A)), SubA.both (X := [(n2, _)]) (SubA.trans (SubA.left [_] _) hd2.right) (SubA.both (X := [(n1, _)]) (SubA.trans (sn1 _ _) hd2.right) (SubA.both (SubA.left _ _) (SubA.trans (sBA _ _) hd2.right))), ?_⟩
    have gC1 : Vm.look (B2 ++ (B ++ A)) n1 = none := look_app_none hB21 gBA
    have gC2 : Vm.look (B2 ++ (B ++ A)) n2 = none := look_app_none hB22 gBA2
    have dB2BA : Dis B2 (B ++ A) := Dis.subr hd2 (sBA _ _)
    have sC : ∀ o o', SubA (B2 ++ (B ++ A)) ((n2, o) :: (n1, o') :: (B2 ++ (B ++ A))) := fun o o' => SubA.fresh (look_c1 d12.2 gC2) (SubA.fresh gC1 (SubA.refl _))
    have sAC := SubA.trans dB.right dB2BA.right
    have q1 := (hr.mono (SubA.left B A)).mono dB2BA.right
    have q2 := h.mono sAC
    have iv1 := fun o o' => sameE q1 q2 _ (sC o o')
    obtain ⟨rs2, hl2', hS2, hall2⟩ := hR2.mono (SubA.left B2 (B ++ A))
    obtain ⟨s2, rfl⟩ := List.length_eq_one_iff.1 hl2'
    obtain ⟨z1, z2, z3, z4⟩ := hall2 0 _ s2 rfl rfl
    obtain ⟨bk, off, cs, ty, fr0, hp0, hbk, hcr, hcc⟩ := hS2.at (i := 0) rfl
    subst hp0
    simp only [Nat.zero_mul, Nat.add_zero] at hcr
    have w5 : rdCS (some (.cells cs ty fr0)) (off + 1) 5 = some #[.int .i64 s2.w.op, .string s2.w.nm, .string s2.w.tx, .int .i64 s2.w.n, .slice s2.w.p s2.w.len s2.w.cap] := by
      have h := rdCS_sub hcr (k := 1) (n := 5) (by decide)
      simpa [ruC] using h
    have iv2 := fun o o' => sameE z2 q2 _ (sC o o')
    have av2 := fun o o' => awk25_w A hT _ (SubA.trans sAC (sC o o'))
    obtain ⟨u1, u2⟩ := look_ne gC1 hbk
    obtain ⟨u3, u4⟩ := look_ne gC2 hbk
    simp only [xrV, xrC] at iv1 iv2
    intro ν fr; have nuE := And.intro (fr.mem (b := n2) (by simp)) (And.intro (fr.mem (b := n1) (by simp)) (fr.nu))
    simp (maxDischargeDepth := 16) only [evN, ↓evP, simprocAttr, forall_const, nuE, fr.2, vbLxp, ↓sA_usd, ↓sA_ust, d12, iv1, iv2, av2, hbk, w5, u1, u2, u3, u4]
    exact SubA.trans sAC (sC _ _)
theorem exprL_v (A : AH) (hT : TabA A) (t : Xs) (r : Xr) (h : ExR A t r) (hzt : SzX t) (hnt : NbX t) : valA Tryd.prog 3 #[.agg #[.int .i64 r.op, .string r.nm, .string r.tx, .int .i64 r.n, .slice r.p r.len r.cap]] A = some (.bool true) := valA_eq (pureA_at (by kernel_rfl) (exprL_h A hT t r h hzt hnt) (SubA.refl _))
theorem expr_walk (w : World) (ht : Lib.TabIs Tryd.prog w "internal/strconv.uint64pow10" .u64 Lib.pow10Tab) (a0 : Array Value) (w0 : ExA w.heap a0) :
    CallsH Tryd.prog 3 #[.agg a0] w.heap fun e h' => e = .returned (.bool true) ∧ Grew w.heap h' := by
  obtain ⟨B, hB, hT⟩ := TabA.of ht
  obtain ⟨t, r, rfl, h, hzt, hnt⟩ := w0
  exact callsH_of_pure (exprL_v (allH w.heap) (hT.mono hB.sub_all) t r h hzt hnt) (by kernel_rfl) (sat_all _)
end Go.Proofs.YtgglccpckhpocaaDoor
