/-
The law of reading expressions.
Conditions: none.
-/
import Derived.Test.YtgglccpckhpocaaGreatDoorQm
import Derived.Test.YtgglccpckhpocaaGreatDoorAwx
import Derived.Test.YtgglccpckhpocaaGreatDoorQa
set_option linter.unusedSimpArgs false
set_option linter.unusedVariables false
namespace Go.Proofs.YtgglccpckhpocaaGreatDoor
open Go.Vm
set_option maxHeartbeats 4000000
set_option maxRecDepth 20000
theorem vbLrd : type_of% (An @slIndexByte_v (An @indexByte_v (An @indexRune_v (An @containsRune_v (An @slHasPrefix_v (An @hasPrefix_v (An @classOf_v (An @isWordByte_v (An @letter_v (An @digit_v (An @wordAt_v (An @rword_v (An @skip_v (An @rskip_v (An @number_v (An @rnumber_v (An @literal_v (An @rtext_v (An @lexemeAt_v (An @rlexeme_v (An @isName_v (An @risName_v (An @resV_v (An @soft_usd (An @soft_ust (An @cnvN_pu (An @cnvN_up (An @eqS_pp (An @isNameV_v (An @isLitV_v (An @hasF_v (An @lvV_v (An @syV_v (An @wordV_v (An @nameV_v @rresV_v))))))))))))))))))))))))))))))))))) := ⟨@slIndexByte_v, @indexByte_v, @indexRune_v, @containsRune_v, @slHasPrefix_v, @hasPrefix_v, @classOf_v, @isWordByte_v, @letter_v, @digit_v, @wordAt_v, @rword_v, @skip_v, @rskip_v, @number_v, @rnumber_v, @literal_v, @rtext_v, @lexemeAt_v, @rlexeme_v, @isName_v, @risName_v, @resV_v, @soft_usd, @soft_ust, @cnvN_pu, @cnvN_up, @eqS_pp, @isNameV_v, @isLitV_v, @hasF_v, @lvV_v, @syV_v, @wordV_v, @nameV_v, @rresV_v⟩
theorem readsL_h (A : AH) (hT : TabA A) (s : ByteArray) : CallA Tryz.prog 4 #[.string s] A (fun u_ A_ => u_ = .bool true ∧ SubA A A_) := by
  refine callA_of_denA ⟨Tryz.prog, 4, Tryz.f4, 41, [0, 2, 3, 4, 5, 6, 7, 8], ⟨[12, 13], none⟩, [], _⟩ rfl (args := [_]) Tryz.func4 rfl (by kernel_rfl) Tryz.ntmps4 (by simp) (by kernel_rfl) ?_
  intro ν fr; have nuE := fr.nu
  by_cases hs : s.size ≤ 4100
  rotate_left
  · have lt : (4100 < (s.size : Int)) = True := eq_true (by omega)
    have av := awk25_w A hT A (SubA.refl _)
    simp (maxDischargeDepth := 16) only [evN, ↓evP, simprocAttr, forall_const, nuE, fr.2, vbLrd, ↓sA_usd, ↓sA_ust, lt, av]
  have lt : (4100 < (s.size : Int)) = False := eq_false (by omega)
  simp (maxDischargeDepth := 16) only [evN, ↓evP, simprocAttr, forall_const, nuE, fr.2, vbLrd, ↓sA_usd, ↓sA_ust, lt]
  clear nuE fr
  refine CallA.newX (parX_h A s (by omega)) (SubA.refl _) ?_
  rintro v B ⟨e, at_, t, r, hP, rfl, hr⟩ hdB
  refine ⟨B ++ A, SubA.refl _, ?_⟩
  intro ν fr; have nuE := fr.nu
  have f0 : Vm.look (B ++ A) (ν 0) = none := fr.2 0
  simp only [xrV, xrC]
  simp (maxDischargeDepth := 16) only [evN, ↓evP, simprocAttr, forall_const, nuE, fr.2, vbLrd, ↓sA_usd, ↓sA_ust]
  have dst_ : True := (by simp [nuE]); generalize ν 0 = n1 at dst_  f0 ⊢
  clear nuE fr
  refine CallA.newX (rpexp_h ((n1, _) :: (B ++ A)) s (by omega)) (SubA.refl _) ?_
  rintro v B2 ⟨e2, at2, t2, r2, hP2, rfl, hr2⟩ hdB2
  obtain ⟨rfl, rfl, rfl⟩ := hP.det hP2
  have hB1 : Vm.look B2 n1 = none := hdB2 n1 (by simp [Vm.look])
  have dB2 : Dis B2 (B ++ A) := Dis.subr hdB2 (SubA.fresh f0 (SubA.refl _))
  refine ⟨(n1, _) :: (B2 ++ (B ++ A)), SubA.both (X := [(n1, _)]) (SubA.trans (SubA.left [_] _) hdB2.right) (SubA.both (SubA.left _ _) (SubA.trans (SubA.fresh f0 (SubA.refl _)) hdB2.right)), ?_⟩
  have iv := fun W (hW : SubA (B2 ++ (B ++ A)) W) => sameE ((hr.mono (SubA.left B A)).mono dB2.right) (hr2.mono (SubA.left B2 _)) W hW
  have av := fun W (hW : SubA (B2 ++ (B ++ A)) W) => awk25_w A hT W (SubA.trans (SubA.trans hdB.right dB2.right) hW)
  have f1 : Vm.look (B2 ++ (B ++ A)) n1 = none := look_app_none hB1 f0
  simp only [xrV, xrC] at iv ⊢
  intro ν fr; have nuE := And.intro (fr.mem (b := n1) (by simp)) (fr.nu)
  have f2 := fr.2 0
  have sW : ∀ o o', SubA (B2 ++ (B ++ A)) ((ν 0, o) :: (n1, o') :: (B2 ++ (B ++ A))) := fun o o' => SubA.fresh (look_c1 (by simp [nuE]) ((SubA.fresh f1 (SubA.refl _)).none f2)) (SubA.fresh f1 (SubA.refl _))
  have iv2 := fun o o' => iv _ (sW o o')
  have av2 := fun o o' => av _ (sW o o')
  simp (maxDischargeDepth := 16) only [evN, ↓evP, simprocAttr, forall_const, nuE, fr.2, vbLrd, ↓sA_usd, ↓sA_ust, iv2, av2]
  exact SubA.trans (SubA.trans hdB.right dB2.right) (sW _ _)
theorem readsL_v (A : AH) (hT : TabA A) (s : ByteArray) : valA Tryz.prog 4 #[.string s] A = some (.bool true) := valA_eq (pureA_at (by kernel_rfl) (readsL_h A hT s) (SubA.refl _))
theorem reads_walk (w : World) (ht : Lib.TabIs Tryz.prog w "internal/strconv.uint64pow10" .u64 Lib.pow10Tab) (s : ByteArray) :
    CallsH Tryz.prog 4 #[.string s] w.heap fun e h' => e = .returned (.bool true) ∧ Grew w.heap h' := by
  obtain ⟨B, hB, hT⟩ := TabA.of ht
  exact callsH_of_pure (readsL_v B hT s) (by kernel_rfl) hB
end Go.Proofs.YtgglccpckhpocaaGreatDoor
