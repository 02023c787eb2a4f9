/-
The law of spaces.
Conditions: none.
-/
import Derived.Test.YtgglccpckhpocaaDoorQs
import Derived.Test.YtgglccpckhpocaaDoorAwx
import Derived.Test.YtgglccpckhpocaaDoorQa
set_option linter.unusedSimpArgs false
set_option linter.unusedVariables false
namespace Go.Proofs.YtgglccpckhpocaaDoor
open Go.Vm
set_option maxHeartbeats 4000000
set_option maxRecDepth 20000
theorem vbLsp : type_of% (An @slIndexByte_v (An @indexByte_v (An @indexRune_v (An @containsRune_v (An @slHasPrefix_v (An @hasPrefix_v (An @classOf_v (An @isWordByte_v (An @letter_v (An @digit_v (An @wordAt_v (An @rword_v (An @skip_v (An @number_v (An @literal_v (An @lexemeAt_v (An @isName_v (An @risName_v (An @resV_v (An @soft_usd (An @soft_ust (An @cnvN_pu (An @cnvN_up (An @eqS_pp (An @isNameV_v (An @isLitV_v (An @hasF_v (An @lvV_v (An @syV_v (An @wordV_v @nameV_v)))))))))))))))))))))))))))))) := ⟨@slIndexByte_v, @indexByte_v, @indexRune_v, @containsRune_v, @slHasPrefix_v, @hasPrefix_v, @classOf_v, @isWordByte_v, @letter_v, @digit_v, @wordAt_v, @rword_v, @skip_v, @number_v, @literal_v, @lexemeAt_v, @isName_v, @risName_v, @resV_v, @soft_usd, @soft_ust, @cnvN_pu, @cnvN_up, @eqS_pp, @isNameV_v, @isLitV_v, @hasF_v, @lvV_v, @syV_v, @wordV_v, @nameV_v⟩
theorem lexR_a (s : ByteArray) (i : Nat) : (lexR s i).a ≤ i := by
  unfold lexR
  split
  · simp [bad]
  unfold textR
  repeat' split
  all_goals simp [bad]
theorem scanG_at (s : ByteArray) : ∀ f i, (scanG s f i).2.1 ≤ s.size ∧ ∀ x ∈ (scanG s f i).2.2, x.a ≤ s.size
  | 0, i => by simp [scanG]
  | f + 1, i => by
    simp only [scanG]
    split
    · simp [endR]
    rename_i hi
    split
    · simp; omega
    obtain ⟨h1, h2⟩ := scanG_at s f ((lexR s i).nx + skN false (s.toList.drop (lexR s i).nx))
    refine ⟨h1, fun x hx => ?_⟩
    simp only at hx
    split at hx
    · rcases List.mem_cons.1 hx with e | e
      · subst e; have := lexR_a s i; omega
      · exact h2 x e
    · cases hx
theorem scanF_at (s : ByteArray) : (scanF s).2.1 ≤ s.size ∧ ∀ x ∈ (scanF s).2.2, x.a ≤ s.size := by
  unfold scanF
  split
  · simp
  · exact scanG_at s _ _
theorem pao_at {s : ByteArray} {e : Int} {a : Nat} {us : List Ru} (h : PaO s e a us) : a ≤ s.size := by
  obtain ⟨h1, h2⟩ := scanF_at s
  cases h with
  | scan => exact h1
  | er _ _ _ hx => exact h2 _ (List.mem_of_getElem? hx)
  | ok => omega
theorem spacesL_h (A : AH) (hT : TabA A) (s r : ByteArray) : CallA Tryd.prog 4 #[.string s, .string r] A (fun u_ A_ => u_ = .bool true ∧ SubA A A_) := by
  refine callA_of_denA ⟨Tryd.prog, 4, Tryd.f4, 95, [0, 1, 4, 5, 6, 7, 8, 9, 10, 11, 12, 13, 14], ⟨[10], none⟩, [], _⟩ rfl (args := [_, _]) Tryd.func4 rfl (by kernel_rfl) Tryd.ntmps4 (by simp) (by kernel_rfl) ?_
  intro ν fr; have nuE := fr.nu
  have av := awk25_w A hT A (SubA.refl _)
  by_cases hs : s.size ≤ 2000
  rotate_left
  · have lt : (2000 < (s.size : Int)) = True := eq_true (by omega)
    simp (maxDischargeDepth := 16) only [evN, ↓evP, simprocAttr, forall_const, nuE, fr.2, vbLsp, ↓sA_usd, ↓sA_ust, lt, av]
  have lt : (2000 < (s.size : Int)) = False := eq_false (by omega)
  by_cases hr : r.size ≤ 100
  rotate_left
  · have lt2 : (100 < (r.size : Int)) = True := eq_true (by omega)
    simp (maxDischargeDepth := 16) only [evN, ↓evP, simprocAttr, forall_const, nuE, fr.2, vbLsp, ↓sA_usd, ↓sA_ust, lt, lt2, av]
  have lt2 : (100 < (r.size : Int)) = False := eq_false (by omega)
  simp (maxDischargeDepth := 16) only [evN, ↓evP, simprocAttr, forall_const, nuE, fr.2, vbLsp, ↓sA_usd, ↓sA_ust, lt, lt2]
  obtain ⟨e, l, he, hd, hle, hseen⟩ : ∃ (e : Nat) (l : List UInt8), e = 0 ∧ r.toList.drop e = l ∧ e ≤ r.size ∧ ∀ c ∈ r.toList.take e, c.toNat ≠ 10 := ⟨0, _, rfl, rfl, by omega, by simp⟩
  rw [show (5, some (Value.int .i64 0)) = (5, some (Value.int .i64 (e : Int))) by rw [he]; rfl]
  clear he nuE fr
  induction l generalizing e with
  | nil =>
    have hn : e = r.size := by
      have := congrArg List.length hd
      rw [List.length_drop, size_list] at this
      simp at this
      omega
    have lt3 : ((e : Int) < (r.size : Int)) = False := eq_false (by omega)
    have hrem : ∀ c ∈ r.toList, c.toNat ≠ 10 := by rwa [List.take_of_length_le (by rw [size_list]; omega)] at hseen
    refine LoopA.intro (by kernel_rfl) ?_
    intro ν fr; have nuE := fr.nu
    simp (maxDischargeDepth := 16) only [evN, ↓evP, simprocAttr, forall_const, nuE, fr.2, vbLsp, ↓sA_usd, ↓sA_ust, lt3]
    clear nuE fr
    refine CallA.newX (parR_h A s (by omega)) (SubA.refl _) ?_
    rintro v B ⟨e1, a1, us, p1, k1, hP1, hl1, hc1, rfl, hR1⟩ d1
    refine ⟨B ++ A, SubA.refl _, ?_⟩
    intro ν fr; have nuE := fr.nu
    obtain ⟨F, hF⟩ : ∃ F : ByteArray, ByteArray.mk #[32, 9, 35, 32] ++ r ++ ByteArray.mk #[10] = F := ⟨_, rfl⟩
    have hFl : F.toList = [32, 9, 35, 32] ++ r.toList ++ [10] := by rw [← hF]; simp [ByteArray.toList_eq, ByteArray.data_append]
    have hFs : F.size = r.size + 5 := by rw [← size_list, hFl, List.length_append, List.length_append, size_list]; simp; omega
    have n1 : (ByteArray.mk #[32, 9, 35, 32]).size + r.size ≤ 9223372036854775807 := by show 4 + r.size ≤ _; omega
    have n2 : (ByteArray.mk #[32, 9, 35, 32] ++ r).size + (ByteArray.mk #[10]).size ≤ 9223372036854775807 := by rw [ByteArray.size_append]; show 4 + r.size + 1 ≤ _; omega
    have n3 : F.size + s.size ≤ 9223372036854775807 := by omega
    simp (maxDischargeDepth := 16) only [evN, ↓evP, simprocAttr, forall_const, nuE, fr.2, vbLsp, ↓sA_usd, ↓sA_ust, n1, n2, hF, n3]
    clear nuE fr
    have h1 : (F ++ s).toList = ([32, 9, 35, 32] ++ r.toList ++ [10]) ++ s.toList := by rw [← hFl]; simp [ByteArray.toList_eq, ByteArray.data_append]
    have z1 : (F ++ s).size = F.size + s.size := ByteArray.size_append
    have g1 := pao_pre h1 (front_sk hrem) (by omega) hP1
    refine CallA.newX (parR_h (B ++ A) (F ++ s) (by omega)) (SubA.refl _) ?_
    rintro v B2 ⟨e2, a2, us2, p2, k2, hP2, hl2, hc2, rfl, hR2⟩ d2
    obtain ⟨rfl, ha2, rfl⟩ := hP2.det g1
    refine ⟨B2 ++ (B ++ A), SubA.refl _, ?_⟩
    intro ν fr; have nuE := fr.nu
    have n4 : s.size + (ByteArray.mk #[10, 35]).size ≤ 9223372036854775807 := by show s.size + 2 ≤ _; omega
    have n5 : (s ++ ByteArray.mk #[10, 35]).size + r.size ≤ 9223372036854775807 := by rw [ByteArray.size_append]; show s.size + 2 + r.size ≤ _; omega
    simp (maxDischargeDepth := 16) only [evN, ↓evP, simprocAttr, forall_const, nuE, fr.2, vbLsp, ↓sA_usd, ↓sA_ust, n4, n5]
    clear nuE fr
    have h2 : (s ++ ByteArray.mk #[10, 35] ++ r).toList = s.toList ++ 10 :: 35 :: r.toList := by simp [ByteArray.toList_eq, ByteArray.data_append]
    have z2 : (s ++ ByteArray.mk #[10, 35] ++ r).size = s.size + 2 + r.size := by rw [ByteArray.size_append, ByteArray.size_append]; rfl
    obtain ⟨a3', g2⟩ := pao_suf h2 (skN_rm2 _ hrem) (by omega) hP1
    refine CallA.newX (parR_h (B2 ++ (B ++ A)) (s ++ ByteArray.mk #[10, 35] ++ r) (by omega)) (SubA.refl _) ?_
    rintro v B3 ⟨e3, a3, us3, p3, k3, hP3, hl3, hc3, rfl, hR3⟩ d3
    obtain ⟨rfl, ha3, rfl⟩ := hP3.det g2
    refine ⟨B3 ++ (B2 ++ (B ++ A)), SubA.refl _, ?_⟩
    intro ν fr; have nuE := fr.nu
    have q1 := ((hR1.mono (SubA.left B A)).mono d2.right).mono d3.right
    have q2 := (hR2.mono (SubA.left B2 (B ++ A))).mono d3.right
    have q3 := hR3.mono (SubA.left B3 (B2 ++ (B ++ A)))
    have sAll := SubA.trans (SubA.trans d1.right d2.right) d3.right
    have iv1 := smR_w _ us3 p1 p2 k1 k2 (by omega) q1 q2 _ (SubA.refl _)
    have iv2 := smR_w _ us3 p1 p3 k1 k3 (by omega) q1 q3 _ (SubA.refl _)
    have av2 := awk25_w A hT _ sAll
    have hat := pao_at hP1
    have w1 : IntKind.i64.wrap ((a1 : Int) + (F.size : Int)) = ((a1 + F.size : Nat) : Int) := by rw [w_i64 (by omega) (by omega)]; omega
    have fl : ([32, 9, 35, 32] ++ r.toList ++ [10] : List UInt8).length = F.size := by rw [← hFl, size_list]
    rw [fl] at ha2
    by_cases he : e3 = 0
    · subst he
      simp (maxDischargeDepth := 16) only [evN, ↓evP, simprocAttr, forall_const, nuE, fr.2, vbLsp, ↓sA_usd, ↓sA_ust, iv1, iv2, av2]
      exact sAll
    · rw [if_neg he] at ha2
      simp (maxDischargeDepth := 16) only [evN, ↓evP, simprocAttr, forall_const, nuE, fr.2, vbLsp, ↓sA_usd, ↓sA_ust, iv1, iv2, av2, eq_false he, w1, ha2]
      exact sAll
  | cons c l ih =>
    obtain ⟨hp, hc, hl', hsl, hb⟩ := byte_at hd
    have hcl := u8_lt c
    have lt3 : ((e : Int) < (r.size : Int)) = True := eq_true (by omega)
    have we : IntKind.i64.wrap ((e : Int) + 1) = ((e + 1 : Nat) : Int) := by rw [w_i64 (by omega) (by omega)]; omega
    refine LoopA.intro (by kernel_rfl) ?_
    intro ν fr; have nuE := fr.nu
    by_cases c3 : c.toNat = 10
    · have k3' : ((c.toNat : Int) = 10) = True := eq_true (by omega)
      simp (maxDischargeDepth := 16) only [evN, ↓evP, simprocAttr, forall_const, nuE, fr.2, vbLsp, ↓sA_usd, ↓sA_ust, lt3, hb, k3', av]
    · have k3' : ((c.toNat : Int) = 10) = False := eq_false (by omega)
      simp (maxDischargeDepth := 16) only [evN, ↓evP, simprocAttr, forall_const, nuE, fr.2, vbLsp, ↓sA_usd, ↓sA_ust, lt3, hb, k3', we]
      exact LoopA.weak (ih (e + 1) hl' (by omega) (by
        intro d hd'
        rw [List.take_add_one] at hd'
        rcases List.mem_append.1 hd' with h | h
        · exact hseen d h
        · have h2 : r.toList[e]? = some c := by rw [← Nat.add_zero e, ← List.getElem?_drop, hd]; rfl
          rw [h2] at h
          simp at h
          rw [h]; exact c3)) (by simp only [subE, get_cons, Nat.reduceEqDiff, ↓reduceIte, reduceCtorEq, Nat.reduceAdd, and_self, and_true]) (SubA.refl _)
theorem spacesL_v (A : AH) (hT : TabA A) (s r : ByteArray) : valA Tryd.prog 4 #[.string s, .string r] A = some (.bool true) := valA_eq (pureA_at (by kernel_rfl) (spacesL_h A hT s r) (SubA.refl _))
theorem spaces_walk (w : World) (ht : Lib.TabIs Tryd.prog w "internal/strconv.uint64pow10" .u64 Lib.pow10Tab) (s r : ByteArray) :
    CallsH Tryd.prog 4 #[.string s, .string r] w.heap fun e h' => e = .returned (.bool true) ∧ Grew w.heap h' := by
  obtain ⟨B, hB, hT⟩ := TabA.of ht
  exact callsH_of_pure (spacesL_v B hT s r) (by kernel_rfl) hB
end Go.Proofs.YtgglccpckhpocaaDoor
