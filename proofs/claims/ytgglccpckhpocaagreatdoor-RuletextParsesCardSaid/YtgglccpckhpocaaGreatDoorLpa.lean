/-
The law of parsing rules.
Conditions: none.
-/
import Derived.Test.YtgglccpckhpocaaGreatDoorQt
import Derived.Test.YtgglccpckhpocaaGreatDoorAwx
import Derived.Test.YtgglccpckhpocaaGreatDoorQa
set_option linter.unusedSimpArgs false
set_option linter.unusedVariables false
namespace Go.Proofs.YtgglccpckhpocaaGreatDoor
open Go.Vm
set_option maxHeartbeats 4000000
set_option maxRecDepth 20000
theorem vbLpa : type_of% (An @slIndexByte_v (An @indexByte_v (An @indexRune_v (An @containsRune_v (An @slHasPrefix_v (An @hasPrefix_v (An @classOf_v (An @isWordByte_v (An @letter_v (An @digit_v (An @wordAt_v (An @rword_v (An @skip_v (An @rskip_v (An @number_v (An @rnumber_v (An @literal_v (An @rtext_v (An @lexemeAt_v (An @rlexeme_v (An @isName_v (An @risName_v (An @resV_v (An @soft_usd (An @soft_ust (An @cnvN_pu (An @cnvN_up (An @eqS_pp (An @isNameV_v (An @isLitV_v (An @hasF_v (An @lvV_v (An @syV_v (An @wordV_v (An @nameV_v @rresV_v))))))))))))))))))))))))))))))))))) := ⟨@slIndexByte_v, @indexByte_v, @indexRune_v, @containsRune_v, @slHasPrefix_v, @hasPrefix_v, @classOf_v, @isWordByte_v, @letter_v, @digit_v, @wordAt_v, @rword_v, @skip_v, @rskip_v, @number_v, @rnumber_v, @literal_v, @rtext_v, @lexemeAt_v, @rlexeme_v, @isName_v, @risName_v, @resV_v, @soft_usd, @soft_ust, @cnvN_pu, @cnvN_up, @eqS_pp, @isNameV_v, @isLitV_v, @hasF_v, @lvV_v, @syV_v, @wordV_v, @nameV_v, @rresV_v⟩
theorem parsesL_h (A : AH) (hT : TabA A) (s : ByteArray) : CallA Tryz.prog 3 #[.string s] A (fun u_ A_ => u_ = .bool true ∧ SubA A A_) := by
  refine callA_of_denA ⟨Tryz.prog, 3, Tryz.f3, 41, [0, 2, 3, 4, 5, 6, 7, 8], ⟨[9, 10], none⟩, [], _⟩ rfl (args := [_]) Tryz.func3 rfl (by kernel_rfl) Tryz.ntmps3 (by simp) (by kernel_rfl) ?_
  intro ν fr; have nuE := fr.nu
  have av := awk25_w A hT A (SubA.refl _)
  by_cases hs : s.size ≤ 4100
  rotate_left
  · have lt : (4100 < (s.size : Int)) = True := eq_true (by omega)
    simp (maxDischargeDepth := 16) only [evN, ↓evP, simprocAttr, forall_const, nuE, fr.2, vbLpa, ↓sA_usd, ↓sA_ust, lt, av]
  have lt : (4100 < (s.size : Int)) = False := eq_false (by omega)
  simp (maxDischargeDepth := 16) only [evN, ↓evP, simprocAttr, forall_const, nuE, fr.2, vbLpa, ↓sA_usd, ↓sA_ust, lt]
  clear nuE fr
  refine CallA.newX (parR_h A s (by omega)) (SubA.refl _) ?_
  rintro v B ⟨e1, a1, us, p1, k1, hP1, hl1, hc1, rfl, hR1⟩ d1
  refine ⟨B ++ A, SubA.refl _, ?_⟩
  intro ν fr; have nuE := fr.nu
  simp (maxDischargeDepth := 16) only [evN, ↓evP, simprocAttr, forall_const, nuE, fr.2, vbLpa, ↓sA_usd, ↓sA_ust]
  clear nuE fr
  refine CallA.newX (rparse_h (B ++ A) s (by omega)) (SubA.refl _) ?_
  rintro v B2 ⟨e2, a2, us2, p2, k2, hP2, hl2, hc2, rfl, hR2⟩ d2
  obtain ⟨rfl, rfl, rfl⟩ := hP1.det hP2
  refine ⟨B2 ++ (B ++ A), SubA.refl _, ?_⟩
  have sAll := SubA.trans d1.right d2.right
  have q1 := (hR1.mono (SubA.left B A)).mono d2.right
  have q2 := hR2.mono (SubA.left B2 (B ++ A))
  have iv := smR_w _ us p1 p2 k1 k2 (by omega) q1 q2 _ (SubA.refl _)
  have av2 := awk25_w A hT _ sAll
  intro ν fr; have nuE := fr.nu
  simp (maxDischargeDepth := 16) only [evN, ↓evP, simprocAttr, forall_const, nuE, fr.2, vbLpa, ↓sA_usd, ↓sA_ust, iv, av2]
  exact sAll
theorem parsesL_v (A : AH) (hT : TabA A) (s : ByteArray) : valA Tryz.prog 3 #[.string s] A = some (.bool true) := valA_eq (pureA_at (by kernel_rfl) (parsesL_h A hT s) (SubA.refl _))
theorem parses_walk (w : World) (ht : Lib.TabIs Tryz.prog w "internal/strconv.uint64pow10" .u64 Lib.pow10Tab) (s : ByteArray) :
    CallsH Tryz.prog 3 #[.string s] w.heap fun e h' => e = .returned (.bool true) ∧ Grew w.heap h' := by
  obtain ⟨B, hB, hT⟩ := TabA.of ht
  exact callsH_of_pure (parsesL_v B hT s) (by kernel_rfl) hB
end Go.Proofs.YtgglccpckhpocaaGreatDoor
