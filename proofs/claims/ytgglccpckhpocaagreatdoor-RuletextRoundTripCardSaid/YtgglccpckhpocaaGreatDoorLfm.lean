/-
The laws of formatting and of the round trip.
Conditions: none.
-/
import Derived.Test.YtgglccpckhpocaaGreatDoorLcn
import Derived.Test.YtgglccpckhpocaaGreatDoorQq
import Derived.Test.YtgglccpckhpocaaGreatDoorQr
set_option linter.unusedSimpArgs false
set_option linter.unusedVariables false
namespace Go.Proofs.YtgglccpckhpocaaGreatDoor
open Go.Vm
set_option maxHeartbeats 4000000
set_option maxRecDepth 20000
theorem vbLfm : type_of% (An @slIndexByte_v (An @indexByte_v (An @indexRune_v (An @containsRune_v (An @slHasPrefix_v (An @hasPrefix_v (An @classOf_v (An @isWordByte_v (An @letter_v (An @digit_v (An @wordAt_v (An @rword_v (An @skip_v (An @rskip_v (An @number_v (An @rnumber_v (An @literal_v (An @rtext_v (An @lexemeAt_v (An @rlexeme_v (An @isName_v (An @risName_v (An @resV_v (An @soft_usd (An @soft_ust (An @cnvN_pu (An @cnvN_up (An @eqS_pp (An @isNameV_v (An @isLitV_v (An @hasF_v (An @lvV_v (An @syV_v (An @wordV_v (An @nameV_v (An @rreV_v (An @rinV_v (An @rprtV_v (An @rDec1_v (An @rDec0_v (An @rlvV_v @rmkV_v))))))))))))))))))))))))))))))))))))))))) := ⟨@slIndexByte_v, @indexByte_v, @indexRune_v, @containsRune_v, @slHasPrefix_v, @hasPrefix_v, @classOf_v, @isWordByte_v, @letter_v, @digit_v, @wordAt_v, @rword_v, @skip_v, @rskip_v, @number_v, @rnumber_v, @literal_v, @rtext_v, @lexemeAt_v, @rlexeme_v, @isName_v, @risName_v, @resV_v, @soft_usd, @soft_ust, @cnvN_pu, @cnvN_up, @eqS_pp, @isNameV_v, @isLitV_v, @hasF_v, @lvV_v, @syV_v, @wordV_v, @nameV_v, @rreV_v, @rinV_v, @rprtV_v, @rDec1_v, @rDec0_v, @rlvV_v, @rmkV_v⟩
theorem fmtL_h (A : AH) (hT : TabA A) (us : List Ru) (p : Option Addr) (cap : Nat) (hlu : us.length ≤ 140737488355328) (hR : RuL A us p) (hz : ∀ u ∈ us, SzX u.w ∧ NbU u) (t : Xs) (r : Xr) (h : ExR A t r) (hzt : SzX t) (hnt : NbX t) : CallA Tryz.prog 5 #[.slice p us.length cap, .agg #[.int .i64 r.op, .string r.nm, .string r.tx, .int .i64 r.n, .slice r.p r.len r.cap]] A (fun u_ A_ => u_ = .bool true ∧ SubA A A_) := by
  refine callA_of_denA ⟨Tryz.prog, 5, Tryz.f5, 29, [0, 1, 3, 4], ⟨[], none⟩, [(3, .q false)], _⟩ rfl (args := [_, _]) Tryz.func5 rfl (by kernel_rfl) Tryz.ntmps5 (by simp) (by kernel_rfl) ?_
  intro ν fr; have nuE := fr.nu
  have f0 := fr.2 0
  have sA : ∀ o, SubA A ((ν 0, o) :: A) := fun o => SubA.fresh f0 (SubA.refl _)
  have av := fun o => awk25_w A hT _ (sA o)
  have fv := fun o => fewV_w A us p cap hlu hR _ (sA o)
  cases hf : fewU us with
  | false =>
    simp only [hf] at fv
    simp (maxDischargeDepth := 16) only [evN, ↓evP, simprocAttr, forall_const, nuE, fr.2, vbLfm, ↓sA_usd, ↓sA_ust, fv, av]
  | true =>
  simp only [hf] at fv
  have sv := fun o => rszX h 300 (by omega) (by omega) _ (sA o)
  simp only [xrV, xrC] at sv
  by_cases h3 : szX t 300 ≤ 300
  rotate_left
  · have lt : (300 < szX t 300) = True := eq_true (by omega)
    simp (maxDischargeDepth := 16) only [evN, ↓evP, simprocAttr, forall_const, nuE, fr.2, vbLfm, ↓sA_usd, ↓sA_ust, fv, sv, lt, av]
  have lt : (300 < szX t 300) = False := eq_false (by omega)
  obtain ⟨f1, f2⟩ := few_len hf fun u hu => (hz u hu).2
  have e1 := sz_len t hnt 300 (by omega) h3
  have hex : (exT t).length ≤ 1000000000 := by
    unfold exT
    split
    · omega
    · simp
  have v1 := fun o => fmP_w A hT us p cap hR (fun u hu => (hz u hu).1) (by omega) _ (sA o)
  have v2 := fun o => rfmV_w A us p cap hlu hR (fun u hu => (hz u hu).1) (by omega) _ (sA o)
  have v3 := fun o => exV_w A hT t r h hzt hex _ (sA o)
  have v4 := fun o => rexV_w A t r h hzt hex _ (sA o)
  simp (maxDischargeDepth := 16) only [evN, ↓evP, simprocAttr, forall_const, nuE, fr.2, vbLfm, ↓sA_usd, ↓sA_ust, fv, sv, lt, v1, v2, v3, v4, av]
theorem fmtL_v (A : AH) (hT : TabA A) (us : List Ru) (p : Option Addr) (cap : Nat) (hlu : us.length ≤ 140737488355328) (hR : RuL A us p) (hz : ∀ u ∈ us, SzX u.w ∧ NbU u) (t : Xs) (r : Xr) (h : ExR A t r) (hzt : SzX t) (hnt : NbX t) : valA Tryz.prog 5 #[.slice p us.length cap, .agg #[.int .i64 r.op, .string r.nm, .string r.tx, .int .i64 r.n, .slice r.p r.len r.cap]] A = some (.bool true) := valA_eq (pureA_at (by kernel_rfl) (fmtL_h A hT us p cap hlu hR hz t r h hzt hnt) (SubA.refl _))
theorem tripL_h (A : AH) (hT : TabA A) (us : List Ru) (p : Option Addr) (cap : Nat) (hlu : us.length ≤ 140737488355328) (hR : RuL A us p) (hz : ∀ u ∈ us, SzX u.w ∧ NbU u) : CallA Tryz.prog 6 #[.slice p us.length cap] A (fun u_ A_ => u_ = .bool true ∧ SubA A A_) := by
  refine callA_of_denA ⟨Tryz.prog, 6, Tryz.f6, 52, [0, 2, 3, 4, 5, 6], ⟨[9], none⟩, [], _⟩ rfl (args := [_]) Tryz.func6 rfl (by kernel_rfl) Tryz.ntmps6 (by simp) (by kernel_rfl) ?_
  intro ν fr; have nuE := fr.nu
  have av := awk25_w A hT A (SubA.refl _)
  have fv := fewV_w A us p cap hlu hR A (SubA.refl _)
  cases hf : fewU us with
  | false =>
    rw [hf] at fv
    simp (maxDischargeDepth := 16) only [evN, ↓evP, simprocAttr, forall_const, nuE, fr.2, vbLfm, ↓sA_usd, ↓sA_ust, fv, av]
  | true =>
  rw [hf] at fv
  obtain ⟨f1, f2⟩ := few_len hf fun u hu => (hz u hu).2
  have v1 := fmP_w A hT us p cap hR (fun u hu => (hz u hu).1) (by omega) A (SubA.refl _)
  have v2 := rwrR_w A us p cap hlu hR (fun u hu => (hz u hu).1) A (SubA.refl _)
  have kl : ((us.length : Int) = 0) = (us.length = 0) := propext (by omega)
  have b0 : ((us.length : Int) == 0) = decide (us.length = 0) := by rw [Bool.eq_iff_iff]; simp
  cases hw : wrU_ us with
  | false =>
    have he : fmT us = [] := by unfold fmT; rw [hw]; rfl
    rw [he] at v1
    rw [hw] at v2
    simp (maxDischargeDepth := 16) only [evN, ↓evP, simprocAttr, forall_const, nuE, fr.2, vbLfm, ↓sA_usd, ↓sA_ust, fv, v1, v2, b0, kl, em_nil, bs_list, av]
    split <;> trivial
  | true =>
    rw [fmT_ok hw] at v1
    rw [hw] at v2
    by_cases h0 : us.length = 0
    · have he : fmF us = [] := by rw [fmF_nil]; exact h0
      rw [he, h0] at v1
      rw [h0] at v2 fv
      simp (maxDischargeDepth := 16) only [evN, ↓evP, simprocAttr, forall_const, nuE, fr.2, vbLfm, ↓sA_usd, ↓sA_ust, fv, v1, v2, h0, em_nil, bs_list, av]
    have hne : (fmF us = []) = False := by rw [fmF_nil]; exact eq_false h0
    have hnb : (fmF us == []) = false := by rw [← Bool.not_eq_true, beq_iff_eq, hne]; simp
    have hsz := bs_size (fmF us)
    by_cases h4 : (fmF us).length ≤ 4000
    rotate_left
    · have lt4 : (4000 < ((fmF us).length : Int)) = True := eq_true (by omega)
      simp (maxDischargeDepth := 16) only [evN, ↓evP, simprocAttr, forall_const, nuE, fr.2, vbLfm, ↓sA_usd, ↓sA_ust, fv, v1, v2, b0, kl, h0, hne, hnb, em_nil, bs_list, bs_size, lt4, av]
    have lt4 : (4000 < ((fmF us).length : Int)) = False := eq_false (by omega)
    simp (maxDischargeDepth := 16) only [evN, ↓evP, simprocAttr, forall_const, nuE, fr.2, vbLfm, ↓sA_usd, ↓sA_ust, fv, v1, v2, b0, kl, h0, hne, hnb, em_nil, bs_list, bs_size, lt4]
    clear nuE fr
    have hz4 : (bs (fmF us)).size ≤ 100000 := by omega
    refine CallA.newX (parR_h A (bs (fmF us)) hz4) (SubA.refl _) ?_
    rintro v B2 ⟨e2, a2, us2, p2, k2, hP2, hl2, hc2, rfl, hR2⟩ d2
    obtain ⟨rfl, rfl, rfl⟩ := hP2.det (pao_fmt hw h4)
    refine ⟨B2 ++ A, SubA.refl _, ?_⟩
    have sB := d2.right
    have q1 := hR.mono sB
    have q2 := hR2.mono (SubA.left B2 A)
    have iv := smR_w _ us2 p2 p k2 cap (by omega) q2 q1 _ (SubA.refl _)
    have av2 := awk25_w A hT _ sB
    intro ν fr; have nuE := fr.nu
    simp (maxDischargeDepth := 16) only [evN, ↓evP, simprocAttr, forall_const, nuE, fr.2, vbLfm, ↓sA_usd, ↓sA_ust, iv, av2]
    exact sB
theorem tripL_v (A : AH) (hT : TabA A) (us : List Ru) (p : Option Addr) (cap : Nat) (hlu : us.length ≤ 140737488355328) (hR : RuL A us p) (hz : ∀ u ∈ us, SzX u.w ∧ NbU u) : valA Tryz.prog 6 #[.slice p us.length cap] A = some (.bool true) := valA_eq (pureA_at (by kernel_rfl) (tripL_h A hT us p cap hlu hR hz) (SubA.refl _))
theorem formats_walk (w : World) (ht : Lib.TabIs Tryz.prog w "internal/strconv.uint64pow10" .u64 Lib.pow10Tab) (a0 : Option Addr) (len0 cap0 : Nat) (w0 : RuA w.heap a0 len0 cap0) (a1 : Array Value) (w1 : ExA w.heap a1) :
    CallsH Tryz.prog 5 #[.slice a0 len0 cap0, .agg a1] w.heap fun e h' => e = .returned (.bool true) ∧ Grew w.heap h' := by
  obtain ⟨B, hB, hT⟩ := TabA.of ht
  obtain ⟨us, rfl, hl, hc, hR, hz⟩ := w0
  obtain ⟨t, r, rfl, h, hzt, hnt⟩ := w1
  exact callsH_of_pure (fmtL_v (allH w.heap) (hT.mono hB.sub_all) us a0 cap0 hl hR hz t r h hzt hnt) (by kernel_rfl) (sat_all _)
theorem trip_walk (w : World) (ht : Lib.TabIs Tryz.prog w "internal/strconv.uint64pow10" .u64 Lib.pow10Tab) (a0 : Option Addr) (len0 cap0 : Nat) (w0 : RuA w.heap a0 len0 cap0) :
    CallsH Tryz.prog 6 #[.slice a0 len0 cap0] w.heap fun e h' => e = .returned (.bool true) ∧ Grew w.heap h' := by
  obtain ⟨B, hB, hT⟩ := TabA.of ht
  obtain ⟨us, rfl, hl, hc, hR, hz⟩ := w0
  exact callsH_of_pure (tripL_v (allH w.heap) (hT.mono hB.sub_all) us a0 cap0 hl hR hz) (by kernel_rfl) (sat_all _)
end Go.Proofs.YtgglccpckhpocaaGreatDoor
