/-
The law of canonical texts.
Conditions: none.
-/
import Derived.Test.YtgglccpckhpocaaGreatDoorQn
import Derived.Test.YtgglccpckhpocaaGreatDoorQp
import Derived.Test.YtgglccpckhpocaaGreatDoorAwx
import Derived.Test.YtgglccpckhpocaaGreatDoorQa
set_option linter.unusedSimpArgs false
set_option linter.unusedVariables false
namespace Go.Proofs.YtgglccpckhpocaaGreatDoor
open Go.Vm
set_option maxHeartbeats 4000000
set_option maxRecDepth 20000
theorem vbLcn : type_of% (An @slIndexByte_v (An @indexByte_v (An @indexRune_v (An @containsRune_v (An @slHasPrefix_v (An @hasPrefix_v (An @classOf_v (An @isWordByte_v (An @letter_v (An @digit_v (An @wordAt_v (An @rword_v (An @skip_v (An @rskip_v (An @number_v (An @rnumber_v (An @literal_v (An @rtext_v (An @lexemeAt_v (An @rlexeme_v (An @isName_v (An @risName_v (An @resV_v (An @soft_usd (An @soft_ust (An @cnvN_pu (An @cnvN_up (An @eqS_pp (An @isNameV_v (An @isLitV_v (An @hasF_v (An @lvV_v (An @syV_v (An @wordV_v (An @nameV_v (An @rreV_v (An @rinV_v @rprtV_v))))))))))))))))))))))))))))))))))))) := ⟨@slIndexByte_v, @indexByte_v, @indexRune_v, @containsRune_v, @slHasPrefix_v, @hasPrefix_v, @classOf_v, @isWordByte_v, @letter_v, @digit_v, @wordAt_v, @rword_v, @skip_v, @rskip_v, @number_v, @rnumber_v, @literal_v, @rtext_v, @lexemeAt_v, @rlexeme_v, @isName_v, @risName_v, @resV_v, @soft_usd, @soft_ust, @cnvN_pu, @cnvN_up, @eqS_pp, @isNameV_v, @isLitV_v, @hasF_v, @lvV_v, @syV_v, @wordV_v, @nameV_v, @rreV_v, @rinV_v, @rprtV_v⟩
theorem wrG_mem : ∀ (l dn : List Ru), wrG dn l = true → ∀ u ∈ l, wX u.w = true
  | [], _, _, u, hu => by cases hu
  | v :: l, dn, h, u, hu => by
    rw [wrG, Bool.and_eq_true] at h
    rcases List.mem_cons.1 hu with e | e
    · subst e
      have := h.1
      unfold okU at this
      simp only [Bool.and_eq_true] at this
      exact this.1.1.1.2
    · exact wrG_mem l _ h.2 u e
theorem wrU_mem {us : List Ru} (h : wrU_ us = true) : ∀ u ∈ us, wX u.w = true := by
  unfold wrU_ at h
  simp only [Bool.and_eq_true] at h
  exact wrG_mem us [] h.2
theorem ruL_sz {A : AH} {us : List Ru} {p : Option Addr} (hR : RuL A us p) (h : ∀ u ∈ us, wX u.w = true) : ∀ u ∈ us, SzX u.w := by
  intro u hu
  obtain ⟨rs, hl, _, hall⟩ := hR
  obtain ⟨k, hk⟩ := List.getElem?_of_mem hu
  have hlt := (List.getElem?_eq_some_iff.1 hk).1
  exact wX_sz (hall k u _ hk (List.getElem?_eq_getElem (by omega))).2.1 (h u hu)
theorem fmT_ok {us : List Ru} (h : wrU_ us = true) : fmT us = fmF us := if_pos h
theorem fmF_len0 (us : List Ru) : ((fmF us).length = 0) = (us.length = 0) := by
  cases us with
  | nil => simp [fmF]
  | cons u l => 
    apply propext
    unfold fmF ruTx
    rw [List.flatMap_cons]
    simp
theorem fmF_nil (us : List Ru) : (fmF us = []) = (us.length = 0) := by
  rw [← fmF_len0]; exact propext List.length_eq_zero_iff.symm
theorem pao_none {s : ByteArray} {e : Int} {a : Nat} {us : List Ru} (h : PaO s e a us) (he : e ≠ 0) : us = [] := by
  cases h with
  | scan => rfl
  | er => rfl
  | ok => exact absurd rfl he
theorem canonL_h (A : AH) (hT : TabA A) (s : ByteArray) : CallA Tryz.prog 7 #[.string s] A (fun u_ A_ => u_ = .bool true ∧ SubA A A_) := by
  refine callA_of_denA ⟨Tryz.prog, 7, Tryz.f7, 67, [0, 2, 3, 4, 6, 7, 8], ⟨[9], none⟩, [], _⟩ rfl (args := [_]) Tryz.func7 rfl (by kernel_rfl) Tryz.ntmps7 (by simp) (by kernel_rfl) ?_
  intro ν fr; have nuE := fr.nu
  have av := awk25_w A hT A (SubA.refl _)
  by_cases hs : s.size ≤ 2000
  rotate_left
  · have lt : (2000 < (s.size : Int)) = True := eq_true (by omega)
    simp (maxDischargeDepth := 16) only [evN, ↓evP, simprocAttr, forall_const, nuE, fr.2, vbLcn, ↓sA_usd, ↓sA_ust, lt, av]
  have lt : (2000 < (s.size : Int)) = False := eq_false (by omega)
  simp (maxDischargeDepth := 16) only [evN, ↓evP, simprocAttr, forall_const, nuE, fr.2, vbLcn, ↓sA_usd, ↓sA_ust, lt]
  clear nuE fr
  refine CallA.newX (parR_h A s (by omega)) (SubA.refl _) ?_
  rintro v B ⟨e1, a1, us, p1, k1, hP1, hl1, hc1, rfl, hR1⟩ d1
  refine ⟨B ++ A, SubA.refl _, ?_⟩
  have sA := d1.right
  have av1 := awk25_w A hT (B ++ A) sA
  intro ν fr; have nuE := fr.nu
  by_cases he : e1 = 0
  rotate_left
  · have hu := pao_none hP1 he
    subst hu
    simp (maxDischargeDepth := 16) only [evN, ↓evP, simprocAttr, forall_const, nuE, fr.2, vbLcn, ↓sA_usd, ↓sA_ust, eq_false he, av1]
    exact sA
  subst he
  obtain ⟨hw, hlen⟩ := pao_w hP1 hl1
  have hz := ruL_sz hR1 (wrU_mem hw)
  have hR1' := hR1.mono (SubA.left B A)
  have fv := fmP_w (B ++ A) (hT.mono sA) us p1 k1 hR1' hz (by omega) (B ++ A) (SubA.refl _)
  have wv := rwrR_w (B ++ A) us p1 k1 (by omega) hR1' hz (B ++ A) (SubA.refl _)
  rw [fmT_ok hw] at fv
  rw [hw] at wv
  have kl : ((us.length : Int) = 0) = (us.length = 0) := propext (by omega)
  have b0 : ((us.length : Int) == 0) = decide (us.length = 0) := by rw [Bool.eq_iff_iff]; simp
  have bn : (fmF us == []) = decide (us.length = 0) := by rw [Bool.eq_iff_iff]; simp only [beq_iff_eq, decide_eq_true_eq, fmF_nil]
  have hsz := bs_size (fmF us)
  by_cases h4 : (fmF us).length ≤ 4000
  rotate_left
  · have lt4 : (4000 < ((fmF us).length : Int)) = True := eq_true (by omega)
    simp (maxDischargeDepth := 16) only [evN, ↓evP, simprocAttr, forall_const, nuE, fr.2, vbLcn, ↓sA_usd, ↓sA_ust, fv, wv, kl, b0, bn, em_nil, bs_list, bs_size, lt4, av1, fmF_nil]
    exact sA
  have lt4 : (4000 < ((fmF us).length : Int)) = False := eq_false (by omega)
  simp (maxDischargeDepth := 16) only [evN, ↓evP, simprocAttr, forall_const, nuE, fr.2, vbLcn, ↓sA_usd, ↓sA_ust, fv, wv, kl, b0, bn, em_nil, bs_list, bs_size, lt4, fmF_nil]
  clear nuE fr
  have hz4 : (bs (fmF us)).size ≤ 100000 := by omega
  refine CallA.newX (parR_h (B ++ A) (bs (fmF us)) hz4) (SubA.refl _) ?_
  rintro v B2 ⟨e2, a2, us2, p2, k2, hP2, hl2, hc2, rfl, hR2⟩ d2
  obtain ⟨rfl, rfl, rfl⟩ := hP2.det (pao_fmt hw h4)
  refine ⟨B2 ++ (B ++ A), SubA.refl _, ?_⟩
  have sB := d2.right
  have q1 := hR1'.mono sB
  have q2 := hR2.mono (SubA.left B2 (B ++ A))
  have iv := smR_w _ us2 p1 p2 k1 k2 (by omega) q1 q2 _ (SubA.refl _)
  have fv2 := fmP_w _ (hT.mono (SubA.trans sA sB)) us2 p2 k2 q2 hz (by omega) _ (SubA.refl _)
  rw [fmT_ok hw] at fv2
  have av2 := awk25_w A hT _ (SubA.trans sA sB)
  intro ν fr; have nuE := fr.nu
  simp (maxDischargeDepth := 16) only [evN, ↓evP, simprocAttr, forall_const, nuE, fr.2, vbLcn, ↓sA_usd, ↓sA_ust, iv, fv2, av2]
  exact SubA.trans sA sB
theorem canonL_v (A : AH) (hT : TabA A) (s : ByteArray) : valA Tryz.prog 7 #[.string s] A = some (.bool true) := valA_eq (pureA_at (by kernel_rfl) (canonL_h A hT s) (SubA.refl _))
theorem canon_walk (w : World) (ht : Lib.TabIs Tryz.prog w "internal/strconv.uint64pow10" .u64 Lib.pow10Tab) (s : ByteArray) :
    CallsH Tryz.prog 7 #[.string s] w.heap fun e h' => e = .returned (.bool true) ∧ Grew w.heap h' := by
  obtain ⟨B, hB, hT⟩ := TabA.of ht
  exact callsH_of_pure (canonL_v B hT s) (by kernel_rfl) hB
end Go.Proofs.YtgglccpckhpocaaGreatDoor
