/-
Builders; what is writable.
Conditions: none.
-/
import Derived.Test.YtgglccpckhpocaaDoorVmAB
import Derived.Test.YtgglccpckhpocaaDoorQa
import Derived.Test.YtgglccpckhpocaaDoorVmAV
import Derived.Test.YtgglccpckhpocaaDoorTy
import Derived.Test.YtgglccpckhpocaaDoorShelf
import Derived.Test.YtgglccpckhpocaaDoorQg
set_option linter.unusedSimpArgs false
set_option linter.unusedVariables false
namespace Go.Proofs.YtgglccpckhpocaaDoor
open Go.Vm
set_option maxHeartbeats 1000000
set_option maxRecDepth 20000
theorem vbQh : type_of% (An @slIndexByte_v (An @indexByte_v (An @indexRune_v (An @containsRune_v (An @slHasPrefix_v (An @hasPrefix_v (An @classOf_v (An @isWordByte_v (An @letter_v (An @digit_v (An @wordAt_v (An @rword_v (An @skip_v (An @number_v (An @literal_v (An @lexemeAt_v (An @isName_v (An @risName_v @resV_v)))))))))))))))))) := ⟨@slIndexByte_v, @indexByte_v, @indexRune_v, @containsRune_v, @slHasPrefix_v, @hasPrefix_v, @classOf_v, @isWordByte_v, @letter_v, @digit_v, @wordAt_v, @rword_v, @skip_v, @number_v, @literal_v, @lexemeAt_v, @isName_v, @risName_v, @resV_v⟩
def BldA (E : AH) (b : Nat) (l : List UInt8) : Prop := ∃ p v B, E = (b, .cells #[p, v] 46) :: B ∧ (p = .pointer none ∨ p = .pointer (some ⟨b, 0, none⟩)) ∧ (l = [] → v = .slice none 0 0) ∧ OwnA 5 1 v B l.length (bcL l) ∧ Vm.look B b = none
theorem BldA.new (b : Nat) : BldA [(b, .cells #[.pointer none, .slice none 0 0] 46)] b [] := ⟨_, _, [], rfl, .inl rfl, fun _ => rfl, OwnA.nil _ _, rfl⟩
theorem noEsc (A : AH) (x : Value) (K : Value → AH → Prop) (hK : K x A) : CallA Tryd.prog 69 #[x] A K := fun h hA => by
  unfold RunC
  rw [if_neg (by rw [show callable Tryd.prog 69 = false by kernel_rfl]; simp)]
  exact ext_of Tryd.func69 (by kernel_rfl) (by kernel_rfl) (by kernel_rfl) (e := Extern.AbiNoEscape.same) (by kernel_rfl) (fun w => rfl) ⟨x, A, rfl, hA, Keep.refl _ _, hK⟩
theorem bldCC_h (b : Nat) (p v : Value) (hp : p = .pointer none ∨ p = .pointer (some ⟨b, 0, none⟩)) : CallA Tryd.prog 53 #[.pointer (some ⟨b, 0, none⟩)] [(b, .cells #[p, v] 46)] (fun u_ A_ => u_ = .tuple #[] ∧ SubE [(b, .cells #[.pointer (some ⟨b, 0, none⟩), v] 46)] A_) := by
  refine callA_of_denA ⟨Tryd.prog, 53, Tryd.f53, 20, [0], ⟨[69], none⟩, [], _⟩ rfl (args := [_]) Tryd.func53 rfl (by kernel_rfl) Tryd.ntmps53 (by simp) (by kernel_rfl) ?_
  intro ν fr; have nuE := And.intro (fr.mem (b := b) (by simp)) (fr.nu)
  obtain ⟨j, hj, hjs⟩ := Option.map_eq_some_iff.1 (show (Tryd.prog.info? 46).map (·.size) = some 2 by kernel_rfl)
  have inf : (Tryd.prog.info? 46).isSome = true := by kernel_rfl
  rcases hp with rfl | rfl
  · simp (maxDischargeDepth := 16) only [evN, ↓evP, simprocAttr, forall_const, nuE, vbQh, ↓sA_usd, ↓sA_ust, soft_usd, soft_ust, cnvN_pu, cnvN_up, eqS_pp]
    refine rA_toU (e := 46) (cs := #[.pointer none, v]) (fr := (0, 0)) Tryd.underlying43 Tryd.underlying96 hj (by rw [hjs]; decide) (by simp (maxDischargeDepth := 16) only [evN, ↓evP, simprocAttr, forall_const, nuE, vbQh, ↓sA_usd, ↓sA_ust, soft_usd, soft_ust, cnvN_pu, cnvN_up, eqS_pp]) (by simp) ?_
    intro ν fr; have nuE := And.intro (fr.mem (b := b) (by simp)) (fr.nu)
    simp (maxDischargeDepth := 16) only [evN, ↓evP, simprocAttr, forall_const, nuE, vbQh, ↓sA_usd, ↓sA_ust, soft_usd, soft_ust, cnvN_pu, cnvN_up, eqS_pp]
    refine noEsc _ _ _ ?_
    intro ν fr; have nuE := And.intro (fr.mem (b := b) (by simp)) (fr.nu)
    simp (maxDischargeDepth := 16) only [evN, ↓evP, simprocAttr, forall_const, nuE, vbQh, ↓sA_usd, ↓sA_ust, soft_usd, soft_ust, cnvN_pu, cnvN_up, eqS_pp]
    refine rA_fromU (e := 46) (cs := #[.pointer none, v]) (fr := (0, 0)) Tryd.underlying96 Tryd.underlying43 hj (by simp (maxDischargeDepth := 16) only [evN, ↓evP, simprocAttr, forall_const, nuE, vbQh, ↓sA_usd, ↓sA_ust, soft_usd, soft_ust, cnvN_pu, cnvN_up, eqS_pp]) (by kernel_rfl) ?_
    intro ν fr; have nuE := And.intro (fr.mem (b := b) (by simp)) (fr.nu)
    simp (maxDischargeDepth := 16) only [evN, ↓evP, simprocAttr, forall_const, nuE, vbQh, ↓sA_usd, ↓sA_ust, soft_usd, soft_ust, cnvN_pu, cnvN_up, eqS_pp]
    rfl
  · simp (maxDischargeDepth := 16) only [evN, ↓evP, simprocAttr, forall_const, nuE, vbQh, ↓sA_usd, ↓sA_ust, soft_usd, soft_ust, cnvN_pu, cnvN_up, eqS_pp, inf]
    rfl
theorem strC_bs (l : List UInt8) : Lib.strCells (bs l) = bcL l := by simp [Lib.strCells, bcL, bs]
theorem bldWS_h (E : AH) (b : Nat) (l m : List UInt8) (hE : BldA E b l) (hm : m ≠ []) (hl : l.length + m.length ≤ 1000000000) : CallA Tryd.prog 29 #[.pointer (some ⟨b, 0, none⟩), .string (bs m)] E (fun u_ A_ => u_ = .tuple #[.int .i64 (m.length : Int), .nilIface] ∧ ∃ E', BldA E' b (l ++ m) ∧ SubA E' A_ ∧ ∀ x, Vm.look E x ≠ none → Vm.look A_ x ≠ none) := by
  refine callA_of_denA ⟨Tryd.prog, 29, Tryd.f29, 19, [0, 1, 4, 5], ⟨[53], none⟩, [], _⟩ rfl (args := [_, _]) Tryd.func29 rfl (by kernel_rfl) Tryd.ntmps29 (by simp) (by kernel_rfl) ?_
  intro ν fr; have nuE := fr.nu
  obtain ⟨p, v, B, rfl, hp, hn, ho, hb0⟩ := hE
  have hm0 : 0 < m.length := List.length_pos_iff.2 hm
  simp (maxDischargeDepth := 16) only [evN, ↓evP, simprocAttr, forall_const, nuE, fr.2, vbQh, ↓sA_usd, ↓sA_ust, soft_usd, soft_ust, cnvN_pu, cnvN_up, eqS_pp]
  refine CallA.use (bldCC_h b p v hp) (SubA.left [_] _) (fun v D h x hx => ?_) B (SubA.right (B := [_]) (Dis.one hb0)) (Dis.one hb0) ?_
  · simp only [Vm.look] at hx
    split at hx
    · rename_i e; subst e; rw [h.2.1]; simp
    · exact absurd rfl hx
  rintro u D ⟨rfl, h1, _⟩ dD
  refine ⟨[(b, .cells #[.pointer (some ⟨b, 0, none⟩), v] 46)], SubE.sub ⟨h1, trivial⟩, ?_⟩
  intro ν fr; have nuE := And.intro (fr.mem (b := b) (by simp)) (fr.nu)
  simp (maxDischargeDepth := 16) only [evN, ↓evP, simprocAttr, forall_const, nuE, fr.2, vbQh, ↓sA_usd, ↓sA_ust, soft_usd, soft_ust, cnvN_pu, cnvN_up, eqS_pp]
  refine RunA.use ?_
  refine append_ownS (s := bs m) slc44 Tryd.underlying9 zro5 (by rw [bs_size]; exact hm0) ho (SubA.right (B := [_]) (Dis.one hb0)) (by rw [bs_size]; simp only [maxLen]; omega) (by rw [bs_size]; omega) ?_
  intro v' B' ho' hB'
  rw [bs_size, strC_bs] at ho'
  have hb' : Vm.look B' b = none := by
    cases hx : Vm.look B' b with
    | none => rfl
    | some o =>
      rcases hB' b (by rw [hx]; simp) with h | h
      · exact absurd hb0 h
      · exact absurd h (by simp [Vm.look])
  obtain ⟨g', cap', hv'⟩ : ∃ g cap, v' = .slice (some ⟨g, 0, none⟩) (l.length + m.length) cap := by
    rcases ho' with ⟨_, ⟨_, _, h⟩ | ⟨g, cap, cur, h2, _⟩⟩
    · omega
    · exact ⟨g, cap, h2⟩
  subst hv'
  refine Exists.intro ((b, .cells #[.pointer (some ⟨b, 0, none⟩), v] 46) :: (B' ++ B)) (And.intro (SubA.cons (by rw [look_app hb']; simp [Vm.look]) (SubA.app (SubA.skip hb0 (SubA.refl _)))) ?_)
  intro ν fr; have nuE := And.intro (fr.mem (b := b) (by simp)) (fr.nu)
  simp (maxDischargeDepth := 16) only [evN, ↓evP, simprocAttr, forall_const, nuE, fr.2, vbQh, ↓sA_usd, ↓sA_ust, soft_usd, soft_ust, cnvN_pu, cnvN_up, eqS_pp, bs_size]
  refine ⟨(b, .cells #[.pointer (some ⟨b, 0, none⟩), .slice (some ⟨g', 0, none⟩) (l.length + m.length) cap'] 46) :: B', ⟨_, _, B', rfl, .inr rfl, fun h => ?_, ?_, hb'⟩, SubA.app (B := [_]) (SubA.left B' B), fun x hx => ?_⟩
  · exact absurd h (by simp [hm])
  · rw [bcL_app, List.length_append]; exact ho'
  · by_cases e : b = x
    · rw [if_pos e]; simp
    · rw [if_neg e] at hx ⊢
      rw [look_append]
      split
      · simp
      · exact hx
theorem BldA.use {E X A : AH} {P : Program} {g : FuncId} {args : Array Value} {K : Value → AH → Prop} {u0 : Value} {b : Nat} {l' : List UInt8}
    (hc : CallA P g args E fun u A' => u = u0 ∧ ∃ E', BldA E' b l' ∧ SubA E' A' ∧ ∀ b, Vm.look E b ≠ none → Vm.look A' b ≠ none) (hs : SubA E A) (hX : SubA X A) (hd : Dis E X)
    (hk : ∀ E', BldA E' b l' → Dis E' X → K u0 (E' ++ X)) : CallA P g args A K :=
  CallA.use hc hs (fun v D h b hb => h.2.choose_spec.2.2 b hb) X hX hd (by
    rintro v D ⟨rfl, E', h1, h2, h3⟩ dD
    exact ⟨E', h2, hk E' h1 (dD.subl h2)⟩)
theorem bldStr_h (E : AH) (b : Nat) (l : List UInt8) (hE : BldA E b l) (hl : l.length ≤ 1000000000) : CallA Tryd.prog 18 #[.pointer (some ⟨b, 0, none⟩)] E (fun u_ A_ => u_ = .string (bs l) ∧ ∀ x, Vm.look E x ≠ none → Vm.look A_ x ≠ none) := by
  refine callA_of_denA ⟨Tryd.prog, 18, Tryd.f18, 14, [0, 2], ⟨[], none⟩, [], _⟩ rfl (args := [_]) Tryd.func18 rfl (by kernel_rfl) Tryd.ntmps18 (by simp) (by kernel_rfl) ?_
  intro ν fr; have nuE := fr.nu
  obtain ⟨p, v, B, rfl, hp, hn, ho, hb0⟩ := hE
  by_cases h0 : l = []
  · have hv := hn h0
    subst hv
    subst h0
    simp (maxDischargeDepth := 16) only [evN, ↓evP, simprocAttr, forall_const, nuE, vbQh, ↓sA_usd, ↓sA_ust, soft_usd, soft_ust, cnvN_pu, cnvN_up, eqS_pp]
    refine MeantA.plan [(0, 0), (1, 0), (2, 0), (3, 0), (5, 0), (6, 0), (7, 0), (8, 0), (9, 0), (4, 0), (10, 1), (11, 0)] [(b, .cells #[p, .slice none 0 0] 46)] (SubA.left [_] _) (by kernel_rfl) (by kernel_rfl) (by kernel_rfl) (by kernel_rfl) (by kernel_rfl) (by kernel_rfl) ?_
    intro ν fr; have nuE := And.intro (fr.mem (b := b) (by simp)) (fr.nu)
    simp (maxDischargeDepth := 16) only [evN, ↓evP, simprocAttr, forall_const, nuE, vbQh, ↓sA_usd, ↓sA_ust, soft_usd, soft_ust, cnvN_pu, cnvN_up, eqS_pp, rd_sliceData0]
    refine rA_ustr0 ?_
    intro ν fr; have nuE := And.intro (fr.mem (b := b) (by simp)) (fr.nu)
    simp (maxDischargeDepth := 16) only [evN, ↓evP, simprocAttr, forall_const, nuE, vbQh, ↓sA_usd, ↓sA_ust, soft_usd, soft_ust, cnvN_pu, cnvN_up, eqS_pp]
    exact ⟨rfl, fun x hx => hx⟩
  · obtain ⟨g, cap, cur, rfl, rfl, h5, h6⟩ : ∃ g cap cur, v = .slice (some ⟨g, 0, none⟩) l.length cap ∧ B = [(g, .cells cur 5)] ∧ l.length ≤ cap ∧ cur.toList.take l.length = bcL l := by
      rcases ho with ⟨_, ⟨_, _, h⟩ | ⟨g, cap, cur, h2, h3, h4, _, _, h5⟩⟩
      · exact absurd (List.eq_nil_of_length_eq_zero h) h0
      · exact ⟨g, cap, cur, h2, h3, h4, by simpa using h5⟩
    have hl0 : l.length ≠ 0 := fun e => h0 (List.eq_nil_of_length_eq_zero e)
    simp (maxDischargeDepth := 16) only [evN, ↓evP, simprocAttr, forall_const, nuE, vbQh, ↓sA_usd, ↓sA_ust, soft_usd, soft_ust, cnvN_pu, cnvN_up, eqS_pp]
    refine MeantA.plan [(0, 0), (1, 0), (2, 0), (3, 0), (5, 0), (6, 0), (7, 0), (8, 0), (9, 0), (4, 0), (10, 1), (11, 0)] [(b, .cells #[p, .slice (some ⟨g, 0, none⟩) l.length cap] 46)] (SubA.left [_] _) (by kernel_rfl) (by kernel_rfl) (by kernel_rfl) (by kernel_rfl) (by kernel_rfl) (by kernel_rfl) ?_
    intro ν fr; have nuE := And.intro (fr.mem (b := b) (by simp)) (fr.nu)
    have hc : cap ≠ 0 := by omega
    have hgb : ((b = g) = False) ∧ ((g = b) = False) := by
      have : g ≠ b := by
        intro e
        simp [Vm.look, e] at hb0
      exact ⟨eq_false (fun e => this e.symm), eq_false this⟩
    simp (maxDischargeDepth := 16) only [evN, ↓evP, simprocAttr, forall_const, nuE, vbQh, ↓sA_usd, ↓sA_ust, soft_usd, soft_ust, cnvN_pu, cnvN_up, eqS_pp, rd_sliceData (P := Tryd.prog) hc]
    refine rA_ustr (e := 5) Tryd.underlying71 (by kernel_rfl) (cur := cur) (by simp (maxDischargeDepth := 16) only [evN, ↓evP, simprocAttr, forall_const, nuE, vbQh, ↓sA_usd, ↓sA_ust, soft_usd, soft_ust, cnvN_pu, cnvN_up, eqS_pp, hgb]) h0 h6 (by omega) ?_
    intro ν3 fr3
    have nuE := fr3.nu
    simp (maxDischargeDepth := 16) only [evN, ↓evP, simprocAttr, forall_const, nuE, vbQh, ↓sA_usd, ↓sA_ust, soft_usd, soft_ust, cnvN_pu, cnvN_up, eqS_pp, hgb]
    refine ⟨rfl, fun x hx => ?_⟩
    by_cases e : b = x
    · rw [if_pos e]; simp
    · rw [if_neg e] at hx ⊢
      by_cases e2 : g = x
      · rw [if_pos e2]; simp
      · rw [if_neg e2] at hx
        exact absurd rfl hx
theorem sc_byte (n : Int) : sliceCells Tryd.prog 44 1 [(0, .int .u8 n)] = some (5, #[.int .u8 n]) := by kernel_rfl
theorem bldWB_h (E : AH) (b : Nat) (l : List UInt8) (c : UInt8) (hE : BldA E b l) (hl : l.length ≤ 1000000000) : CallA Tryd.prog 34 #[.pointer (some ⟨b, 0, none⟩), .int .u8 (c.toNat : Int)] E (fun u_ A_ => u_ = .nilIface ∧ ∃ E', BldA E' b (l ++ [c]) ∧ SubA E' A_ ∧ ∀ x, Vm.look E x ≠ none → Vm.look A_ x ≠ none) := by
  refine callA_of_denA ⟨Tryd.prog, 34, Tryd.f34, 17, [0, 1, 4], ⟨[53], none⟩, [], _⟩ rfl (args := [_, _]) Tryd.func34 rfl (by kernel_rfl) Tryd.ntmps34 (by simp) (by kernel_rfl) ?_
  intro ν fr; have nuE := fr.nu
  obtain ⟨p, v, B, rfl, hp, hn, ho, hb0⟩ := hE
  simp (maxDischargeDepth := 16) only [evN, ↓evP, simprocAttr, forall_const, nuE, vbQh, ↓sA_usd, ↓sA_ust, soft_usd, soft_ust, cnvN_pu, cnvN_up, eqS_pp]
  refine CallA.use (bldCC_h b p v hp) (SubA.left [_] _) (fun v D h x hx => ?_) B (SubA.right (B := [_]) (Dis.one hb0)) (Dis.one hb0) ?_
  · simp only [Vm.look] at hx
    split at hx
    · rename_i e; subst e; rw [h.2.1]; simp
    · exact absurd rfl hx
  rintro u D ⟨rfl, h1, _⟩ dD
  refine ⟨[(b, .cells #[.pointer (some ⟨b, 0, none⟩), v] 46)], SubE.sub ⟨h1, trivial⟩, ?_⟩
  intro ν fr; have nuE := And.intro (fr.mem (b := b) (by simp)) (fr.nu)
  simp (maxDischargeDepth := 16) only [evN, ↓evP, simprocAttr, forall_const, nuE, vbQh, ↓sA_usd, ↓sA_ust, soft_usd, soft_ust, cnvN_pu, cnvN_up, eqS_pp, sc_byte]
  have hν0 : Vm.look B (ν 0) = none := (show SubA B ((b, Obj.cells #[.pointer (some ⟨b, 0, none⟩), v] 46) :: B) from SubA.right (B := [_]) (Dis.one hb0)).none (fr.2 0)
  refine RunA.use ?_
  refine append_own (m := 1) (g := ν 0) (off := 0) (news := bcL [c]) slc44 zro5 rfl (by decide) ho ?_ ?_ (by simp [bcL, Value.oneCell']) (by simp only [maxLen]; omega) (by omega) ?_
  · exact SubA.skip hν0 (SubA.skip hb0 (SubA.refl _))
  · simp (maxDischargeDepth := 16) only [evN, ↓evP, simprocAttr, forall_const, nuE, vbQh, ↓sA_usd, ↓sA_ust, soft_usd, soft_ust, cnvN_pu, cnvN_up, eqS_pp, bcL, List.map]
  intro v' B' ho' hB'
  have hb' : Vm.look B' b = none := by
    cases hx : Vm.look B' b with
    | none => rfl
    | some o =>
      rcases hB' b (by rw [hx]; simp) with h | h
      · exact absurd hb0 h
      · have : Vm.look ((ν 0, Obj.cells #[.int .u8 (c.toNat : Int)] 5) :: (b, Obj.cells #[.pointer (some ⟨b, 0, none⟩), v] 46) :: B) b ≠ none := by simp [Vm.look, nuE]
        exact absurd h this
  obtain ⟨g', cap', hv'⟩ : ∃ g cap, v' = .slice (some ⟨g, 0, none⟩) (l.length + 1) cap := by
    rcases ho' with ⟨_, ⟨_, _, h⟩ | ⟨g, cap, cur, h2, _⟩⟩
    · omega
    · exact ⟨g, cap, h2⟩
  subst hv'
  refine Exists.intro ((b, .cells #[.pointer (some ⟨b, 0, none⟩), v] 46) :: (B' ++ B)) (And.intro (SubA.cons (by rw [look_app hb']; simp [Vm.look, nuE]) (SubA.app (SubA.skip hν0 (SubA.skip hb0 (SubA.refl _))))) ?_)
  intro ν fr; have nuE := And.intro (fr.mem (b := b) (by simp)) (fr.nu)
  simp (maxDischargeDepth := 16) only [evN, ↓evP, simprocAttr, forall_const, nuE, vbQh, ↓sA_usd, ↓sA_ust, soft_usd, soft_ust, cnvN_pu, cnvN_up, eqS_pp]
  refine ⟨(b, .cells #[.pointer (some ⟨b, 0, none⟩), .slice (some ⟨g', 0, none⟩) (l.length + 1) cap'] 46) :: B', ⟨_, _, B', rfl, .inr rfl, by simp, ?_, hb'⟩, SubA.app (B := [_]) (SubA.left B' B), fun x hx => ?_⟩
  · rw [bcL_app, List.length_append]; exact ho'
  · by_cases e : b = x
    · rw [if_pos e]; simp
    · rw [if_neg e] at hx ⊢
      rw [look_append]
      split
      · simp
      · exact hx
def TabA (A : AH) : Prop := ∃ (g : Nat) (e : TypeId) (fr : Nat × Nat), Tryd.prog.globalNamed "internal/strconv.uint64pow10" = some g ∧ Vm.look A g = some (.cells (Lib.pow10Tab.map fun z => Value.int .u64 z).toArray e fr)
theorem TabA.mono {A B : AH} (h : TabA A) (hs : SubA A B) : TabA B := by
  obtain ⟨g, e, fr, h1, h2⟩ := h
  exact ⟨g, e, fr, h1, hs _ _ h2⟩
theorem TabA.of {w : World} (h : Lib.TabIs Tryd.prog w "internal/strconv.uint64pow10" .u64 Lib.pow10Tab) : ∃ A, Sat A w.heap ∧ TabA A := by
  unfold Lib.TabIs World.var? at h
  cases hg : Tryd.prog.globalNamed "internal/strconv.uint64pow10" with
  | none => rw [hg] at h; cases h
  | some g =>
    rw [hg] at h
    simp only [Option.bind_some] at h
    split at h
    · rename_i cs e fr hb
      cases h
      exact ⟨[(g, .cells _ e fr)], (fun b o hl => by
        simp only [Vm.look] at hl
        split at hl
        · rename_i e1; subst e1; cases hl; exact hb
        · cases hl), g, e, fr, hg, by simp [Vm.look]⟩
    · cases h
theorem itoa_w (A : AH) (hT : TabA A) (n : Int) (h0 : -9223372036854775808 ≤ n) (h1 : n ≤ 9223372036854775807) (B : AH) (hB : SubA A B) : valA Tryd.prog 30 #[.int .i64 n] B = some (.string (bs (Lib.itoa n))) :=
  valA_eq ⟨fun _ => by kernel_rfl, fun h hs => by
    unfold RunC
    rw [if_pos (by kernel_rfl)]
    intro w hw
    subst hw
    have ht : Lib.TabIs Tryd.prog w "internal/strconv.uint64pow10" .u64 Lib.pow10Tab := by
      obtain ⟨g, e, fr, hg, hl⟩ := hT
      have := hs _ _ (hB _ _ hl)
      unfold Lib.TabIs World.var?
      rw [hg]
      simp [this]
    refine (Tryd.strconv_Itoa n h0 h1 w ht).mono fun e w' ⟨he, k, os, hw'⟩ => ?_
    subst hw'
    exact ⟨⟨he, ⟨by simp [Go.Sort.grow, World.drewN], fun j hj => by simp only [Go.Sort.grow, World.drewN]; exact Array.getElem?_append_left hj⟩⟩, rfl, rfl, rfl⟩⟩
theorem fmt_w (A : AH) (hT : TabA A) (n : Int) (h0 : -9223372036854775808 ≤ n) (h1 : n ≤ 9223372036854775807) (B : AH) (hB : SubA A B) : valA Tryd.prog 56 #[.int .i64 n, .int .i64 10] B = some (.string (bs (Lib.itoa n))) :=
  valA_eq ⟨fun _ => by kernel_rfl, fun h hs => by
    unfold RunC
    rw [if_pos (by kernel_rfl)]
    intro w hw
    subst hw
    have ht : Lib.TabIs Tryd.prog w "internal/strconv.uint64pow10" .u64 Lib.pow10Tab := by
      obtain ⟨g, e, fr, hg, hl⟩ := hT
      have := hs _ _ (hB _ _ hl)
      unfold Lib.TabIs World.var?
      rw [hg]
      simp [this]
    refine (Tryd.strconv_FormatInt_10 n h0 h1 w ht).mono fun e w' ⟨he, k, os, hw'⟩ => ?_
    subst hw'
    exact ⟨⟨he, ⟨by simp [Go.Sort.grow, World.drewN], fun j hj => by simp only [Go.Sort.grow, World.drewN]; exact Array.getElem?_append_left hj⟩⟩, rfl, rfl, rfl⟩⟩
end Go.Proofs.YtgglccpckhpocaaDoor
namespace Go.Proofs.YtgglccpckhpocaaDoor
open Go.Vm
set_option maxHeartbeats 4000000
set_option maxRecDepth 20000
def naB (s : ByteArray) : Bool := nameF s && !(resB s)
theorem isNameV_h (s : ByteArray) : CallA Tryd.prog 27 #[.string s] [] (fun u_ _ => u_ = .bool (naB s)) := by
  refine callA_of_denA ⟨Tryd.prog, 27, Tryd.f27, 10, [0, 2], ⟨[], none⟩, [], _⟩ rfl (args := [_]) Tryd.func27 rfl (by kernel_rfl) Tryd.ntmps27 (by simp) (by kernel_rfl) ?_
  intro ν fr; have nuE := fr.nu
  unfold naB
  cases h1 : nameF s with
  | true => cases h2 : resB s <;> simp (maxDischargeDepth := 16) only [evN, ↓evP, simprocAttr, forall_const, nuE, fr.2, vbQh, ↓sA_usd, ↓sA_ust, soft_usd, soft_ust, cnvN_pu, cnvN_up, eqS_pp, h1, h2]
  | false => simp (maxDischargeDepth := 16) only [evN, ↓evP, simprocAttr, forall_const, nuE, fr.2, vbQh, ↓sA_usd, ↓sA_ust, soft_usd, soft_ust, cnvN_pu, cnvN_up, eqS_pp, h1]
theorem isNameV_v (s : ByteArray) (A_ : AH) : valA Tryd.prog 27 #[.string s] A_ = some (.bool (naB s)) := valA_eq (pureA_of (by kernel_rfl) (isNameV_h s))
def chB (c : UInt8) : Bool := decide (32 ≤ c.toNat) && decide (c.toNat ≤ 126) && decide (c.toNat ≠ 34)
def litB (s : ByteArray) : Bool := decide (s.size ≤ 100) && s.toList.all chB
theorem isLitV_h (s : ByteArray) (hs : s.size ≤ 9223372036854775807) : CallA Tryd.prog 55 #[.string s] [] (fun u_ _ => u_ = .bool (litB s)) := by
  refine callA_of_denA ⟨Tryd.prog, 55, Tryd.f55, 29, [0, 2, 3, 8, 9], ⟨[], none⟩, [], _⟩ rfl (args := [_]) Tryd.func55 rfl (by kernel_rfl) Tryd.ntmps55 (by simp) (by kernel_rfl) ?_
  intro ν fr; have nuE := fr.nu
  by_cases h1 : s.size ≤ 100
  rotate_left
  · have e1 : (100 < (s.size : Int)) := by omega
    simp (maxDischargeDepth := 16) only [evN, ↓evP, simprocAttr, forall_const, nuE, fr.2, vbQh, ↓sA_usd, ↓sA_ust, soft_usd, soft_ust, cnvN_pu, cnvN_up, eqS_pp, isNameV_v, e1]
    simp [litB, h1]
  have e1 : (100 < (s.size : Int)) = False := eq_false (by omega)
  simp (maxDischargeDepth := 16) only [evN, ↓evP, simprocAttr, forall_const, nuE, fr.2, vbQh, ↓sA_usd, ↓sA_ust, soft_usd, soft_ust, cnvN_pu, cnvN_up, eqS_pp, isNameV_v, e1]
  obtain ⟨e, l, he, hd, hle, hx⟩ : ∃ (e : Nat) (l : List UInt8), e = 0 ∧ s.toList.drop e = l ∧ e ≤ s.size ∧ litB s = l.all chB := ⟨0, _, rfl, rfl, by omega, by simp [litB, h1]⟩
  rw [show (9, some (Value.int .i64 0)) = (9, some (Value.int .i64 (e : Int))) by rw [he]; rfl]
  clear he nuE fr e1
  induction l generalizing e with
  | nil =>
    have hn : e = s.size := by
      have := congrArg List.length hd
      rw [List.length_drop, size_list] at this
      simp at this
      omega
    have lt : ((e : Int) < (s.size : Int)) = False := eq_false (by omega)
    refine LoopA.intro (by kernel_rfl) ?_
    intro ν fr; have nuE := fr.nu
    simp (maxDischargeDepth := 16) only [evN, ↓evP, simprocAttr, forall_const, nuE, fr.2, vbQh, ↓sA_usd, ↓sA_ust, soft_usd, soft_ust, cnvN_pu, cnvN_up, eqS_pp, isNameV_v, lt]
    rw [hx]; rfl
  | cons c l ih =>
    obtain ⟨hp, hc, hl', hsl, hb⟩ := byte_at hd
    have hcl := u8_lt c
    have lt : ((e : Int) < (s.size : Int)) = True := eq_true (by omega)
    have we : IntKind.i64.wrap ((e : Int) + 1) = ((e + 1 : Nat) : Int) := by rw [w_i64 (by omega) (by omega)]; omega
    refine LoopA.intro (by kernel_rfl) ?_
    intro ν fr; have nuE := fr.nu
    by_cases c1 : c.toNat < 32
    · have k1 : ((c.toNat : Int) < 32) := by omega
      have hcb : chB c = false := by simp [chB]; omega
      simp (maxDischargeDepth := 16) only [evN, ↓evP, simprocAttr, forall_const, nuE, fr.2, vbQh, ↓sA_usd, ↓sA_ust, soft_usd, soft_ust, cnvN_pu, cnvN_up, eqS_pp, isNameV_v, lt, hb, k1]
      rw [hx, List.all_cons, hcb]; rfl
    have k1 : ((c.toNat : Int) < 32) = False := eq_false (by omega)
    by_cases c2 : 126 < c.toNat
    · have k2 : (126 < (c.toNat : Int)) := by omega
      have hcb : chB c = false := by simp [chB]; omega
      simp (maxDischargeDepth := 16) only [evN, ↓evP, simprocAttr, forall_const, nuE, fr.2, vbQh, ↓sA_usd, ↓sA_ust, soft_usd, soft_ust, cnvN_pu, cnvN_up, eqS_pp, isNameV_v, lt, hb, k1, k2]
      rw [hx, List.all_cons, hcb]; rfl
    have k2 : (126 < (c.toNat : Int)) = False := eq_false (by omega)
    by_cases c3 : c.toNat = 34
    · have k3 : ((c.toNat : Int) == 34) = true := by simp; omega
      have k3' : ((c.toNat : Int) = 34) = True := eq_true (by omega)
      have hcb : chB c = false := by simp [chB]; omega
      simp (maxDischargeDepth := 16) only [evN, ↓evP, simprocAttr, forall_const, nuE, fr.2, vbQh, ↓sA_usd, ↓sA_ust, soft_usd, soft_ust, cnvN_pu, cnvN_up, eqS_pp, isNameV_v, lt, hb, k1, k2, k3, k3']
      rw [hx, List.all_cons, hcb]; rfl
    have k3 : ((c.toNat : Int) == 34) = false := by simp; omega
    have k3' : ((c.toNat : Int) = 34) = False := eq_false (by omega)
    have hcb : chB c = true := by simp [chB]; omega
    simp (maxDischargeDepth := 16) only [evN, ↓evP, simprocAttr, forall_const, nuE, fr.2, vbQh, ↓sA_usd, ↓sA_ust, soft_usd, soft_ust, cnvN_pu, cnvN_up, eqS_pp, isNameV_v, lt, hb, k1, k2, k3, k3', we]
    exact LoopA.weak (ih (e + 1) hl' (by omega) (by rw [hx, List.all_cons, hcb, Bool.true_and])) (by simp only [subE, get_cons, Nat.reduceEqDiff, ↓reduceIte, reduceCtorEq, Nat.reduceAdd, and_self, and_true]) (SubA.refl _)
theorem isLitV_v (s : ByteArray) (hs : s.size ≤ 9223372036854775807) (A_ : AH) : valA Tryd.prog 55 #[.string s] A_ = some (.bool (litB s)) := valA_eq (pureA_of (by kernel_rfl) (isLitV_h s hs))
end Go.Proofs.YtgglccpckhpocaaDoor
namespace Go.Proofs.YtgglccpckhpocaaDoor
open Go.Vm
set_option maxHeartbeats 4000000
set_option maxRecDepth 20000
def emB (s : ByteArray) : Bool := decide (s.toList = [])
theorem em_nil : ByteArray.toList ⟨#[]⟩ = [] := by rw [ByteArray.toList_eq]
def fldB (op : Int) (nm tx : ByteArray) (n : Int) (k : Nat) : Bool :=
  if op = 1 then decide (0 ≤ n) && decide (n ≤ 9007199254740992) && emB nm && emB tx && decide (k = 0)
  else if op = 2 then litB tx && emB nm && decide (n = 0) && decide (k = 0)
  else if op = 3 then naB nm && emB tx && decide (n = 0) && decide (k = 0)
  else if op = 16 ∨ op = 17 then naB nm && decide (0 ≤ n) && decide (n ≤ 9007199254740992) && emB tx && decide (k = 0)
  else emB nm && emB tx && decide (n = 0) && (if op = 4 ∨ op = 5 then decide (k = 1) else if 6 ≤ op ∧ op ≤ 14 then decide (k = 2) else decide (op = 15) && decide (2 ≤ k))
theorem hasF_h (r : Xr) (htx : r.tx.size ≤ 9223372036854775807) : CallA Tryd.prog 31 #[.agg #[.int .i64 r.op, .string r.nm, .string r.tx, .int .i64 r.n, .slice r.p r.len r.cap]] [] (fun u_ _ => u_ = .bool (fldB r.op r.nm r.tx r.n r.len)) := by
  refine callA_of_denA ⟨Tryd.prog, 31, Tryd.f31, 135, [0, 1, 2, 3, 8, 110], ⟨[], none⟩, [], _⟩ rfl (args := [_]) Tryd.func31 rfl (by kernel_rfl) Tryd.ntmps31 (by simp) (by kernel_rfl) ?_
  intro ν fr; have nuE := fr.nu
  have lv := isLitV_v r.tx htx
  have kz : ((r.len : Int) = 0) = (r.len = 0) := propext (by omega)
  have k1 : ((r.len : Int) = 1) = (r.len = 1) := propext (by omega)
  have k2 : ((r.len : Int) = 2) = (r.len = 2) := propext (by omega)
  have k3 : (2 ≤ (r.len : Int)) = (2 ≤ r.len) := propext (by omega)
  have b0 : ((r.len : Int) == 0) = decide (r.len = 0) := by rw [Bool.eq_iff_iff]; first | (simp; done) | (simp; omega)
  have b1 : ((r.len : Int) == 1) = decide (r.len = 1) := by rw [Bool.eq_iff_iff]; first | (simp; done) | (simp; omega)
  have b2 : ((r.len : Int) == 2) = decide (r.len = 2) := by rw [Bool.eq_iff_iff]; first | (simp; done) | (simp; omega)
  have bt : (r.tx.toList == []) = decide (r.tx.toList = []) := by cases r.tx.toList <;> rfl
  by_cases o1 : r.op = 1
  · simp (maxDischargeDepth := 16) only [evN, ↓evP, simprocAttr, forall_const, nuE, fr.2, vbQh, ↓sA_usd, ↓sA_ust, soft_usd, soft_ust, cnvN_pu, cnvN_up, eqS_pp, isNameV_v, isLitV_v, o1, b0, bt, em_nil]
    simp only [fldB, emB, if_true]
    by_cases n0 : 0 ≤ r.n <;> by_cases n1 : r.n ≤ 9007199254740992 <;> by_cases e1 : r.nm.toList = [] <;> simp [n0, n1, e1]
  by_cases o2 : r.op = 2
  · cases hl : litB r.tx <;> simp (maxDischargeDepth := 16) only [evN, ↓evP, simprocAttr, forall_const, nuE, fr.2, vbQh, ↓sA_usd, ↓sA_ust, soft_usd, soft_ust, cnvN_pu, cnvN_up, eqS_pp, isNameV_v, isLitV_v, o2, b0, bt, em_nil, lv, hl]
    all_goals simp only [fldB, emB, if_true, hl]
    all_goals by_cases e1 : r.nm.toList = [] <;> by_cases e3 : r.n = 0 <;> simp [e1, e3]
  by_cases o3 : r.op = 3
  · cases hl : naB r.nm <;> simp (maxDischargeDepth := 16) only [evN, ↓evP, simprocAttr, forall_const, nuE, fr.2, vbQh, ↓sA_usd, ↓sA_ust, soft_usd, soft_ust, cnvN_pu, cnvN_up, eqS_pp, isNameV_v, isLitV_v, o3, b0, bt, em_nil, hl]
    all_goals simp only [fldB, emB, if_true, hl]
    all_goals by_cases e1 : r.tx.toList = [] <;> by_cases e3 : r.n = 0 <;> simp [e1, e3]
  by_cases o16 : r.op = 16
  · cases hl : naB r.nm <;> simp (maxDischargeDepth := 16) only [evN, ↓evP, simprocAttr, forall_const, nuE, fr.2, vbQh, ↓sA_usd, ↓sA_ust, soft_usd, soft_ust, cnvN_pu, cnvN_up, eqS_pp, isNameV_v, isLitV_v, o16, b0, bt, em_nil, hl]
    all_goals simp only [fldB, emB, if_true, hl]
    all_goals by_cases n0 : 0 ≤ r.n <;> by_cases n1 : r.n ≤ 9007199254740992 <;> by_cases e1 : r.tx.toList = [] <;> simp [n0, n1, e1]
  by_cases o17 : r.op = 17
  · cases hl : naB r.nm <;> simp (maxDischargeDepth := 16) only [evN, ↓evP, simprocAttr, forall_const, nuE, fr.2, vbQh, ↓sA_usd, ↓sA_ust, soft_usd, soft_ust, cnvN_pu, cnvN_up, eqS_pp, isNameV_v, isLitV_v, o17, b0, bt, em_nil, hl]
    all_goals simp only [fldB, emB, if_true, hl]
    all_goals by_cases n0 : 0 ≤ r.n <;> by_cases n1 : r.n ≤ 9007199254740992 <;> by_cases e1 : r.tx.toList = [] <;> simp [n0, n1, e1]
  have hF : fldB r.op r.nm r.tx r.n r.len = (emB r.nm && emB r.tx && decide (r.n = 0) && (if r.op = 4 ∨ r.op = 5 then decide (r.len = 1) else if 6 ≤ r.op ∧ r.op ≤ 14 then decide (r.len = 2) else decide (r.op = 15) && decide (2 ≤ r.len))) := by
    unfold fldB
    rw [if_neg o1, if_neg o2, if_neg o3, if_neg (by omega)]
  rw [hF]
  clear hF
  by_cases e1 : r.nm.toList = []
  rotate_left
  · simp (maxDischargeDepth := 16) only [evN, ↓evP, simprocAttr, forall_const, nuE, fr.2, vbQh, ↓sA_usd, ↓sA_ust, soft_usd, soft_ust, cnvN_pu, cnvN_up, eqS_pp, isNameV_v, isLitV_v, eq_false o1, eq_false o2, eq_false o3, eq_false o16, eq_false o17, em_nil, eq_false e1]
    simp [emB, e1]
  by_cases e2 : r.tx.toList = []
  rotate_left
  · simp (maxDischargeDepth := 16) only [evN, ↓evP, simprocAttr, forall_const, nuE, fr.2, vbQh, ↓sA_usd, ↓sA_ust, soft_usd, soft_ust, cnvN_pu, cnvN_up, eqS_pp, isNameV_v, isLitV_v, eq_false o1, eq_false o2, eq_false o3, eq_false o16, eq_false o17, em_nil, e1, eq_false e2]
    simp [emB, e2]
  by_cases e3 : r.n = 0
  rotate_left
  · simp (maxDischargeDepth := 16) only [evN, ↓evP, simprocAttr, forall_const, nuE, fr.2, vbQh, ↓sA_usd, ↓sA_ust, soft_usd, soft_ust, cnvN_pu, cnvN_up, eqS_pp, isNameV_v, isLitV_v, eq_false o1, eq_false o2, eq_false o3, eq_false o16, eq_false o17, em_nil, e1, e2, eq_false e3]
    try simp [emB, e3]
  have hE : (emB r.nm && emB r.tx && decide (r.n = 0)) = true := by simp [emB, e1, e2, e3]
  rw [hE, Bool.true_and]
  clear hE
  by_cases o4 : r.op = 4
  · simp (maxDischargeDepth := 16) only [evN, ↓evP, simprocAttr, forall_const, nuE, fr.2, vbQh, ↓sA_usd, ↓sA_ust, soft_usd, soft_ust, cnvN_pu, cnvN_up, eqS_pp, isNameV_v, isLitV_v, o4, em_nil, e1, e2, e3, b1]
  by_cases o5 : r.op = 5
  · simp (maxDischargeDepth := 16) only [evN, ↓evP, simprocAttr, forall_const, nuE, fr.2, vbQh, ↓sA_usd, ↓sA_ust, soft_usd, soft_ust, cnvN_pu, cnvN_up, eqS_pp, isNameV_v, isLitV_v, o5, em_nil, e1, e2, e3, b1]
  rw [if_neg (by omega)]
  by_cases hm : 6 ≤ r.op ∧ r.op ≤ 14
  · rw [if_pos hm]
    obtain h | h | h | h | h | h | h | h | h : r.op = 6 ∨ r.op = 7 ∨ r.op = 8 ∨ r.op = 9 ∨ r.op = 10 ∨ r.op = 11 ∨ r.op = 12 ∨ r.op = 13 ∨ r.op = 14 := by omega
    all_goals simp (maxDischargeDepth := 16) only [evN, ↓evP, simprocAttr, forall_const, nuE, fr.2, vbQh, ↓sA_usd, ↓sA_ust, soft_usd, soft_ust, cnvN_pu, cnvN_up, eqS_pp, isNameV_v, isLitV_v, h, em_nil, e1, e2, e3, b2]
  rw [if_neg hm]
  have o6 : (r.op = 6) = False := eq_false (by omega)
  have o7 : (r.op = 7) = False := eq_false (by omega)
  have o8 : (r.op = 8) = False := eq_false (by omega)
  have o9 : (r.op = 9) = False := eq_false (by omega)
  have o10 : (r.op = 10) = False := eq_false (by omega)
  have o11 : (r.op = 11) = False := eq_false (by omega)
  have o12 : (r.op = 12) = False := eq_false (by omega)
  have o13 : (r.op = 13) = False := eq_false (by omega)
  have o14 : (r.op = 14) = False := eq_false (by omega)
  by_cases o15 : r.op = 15
  · simp (maxDischargeDepth := 16) only [evN, ↓evP, simprocAttr, forall_const, nuE, fr.2, vbQh, ↓sA_usd, ↓sA_ust, soft_usd, soft_ust, cnvN_pu, cnvN_up, eqS_pp, isNameV_v, isLitV_v, o15, em_nil, e1, e2, e3, k3]
  · simp (maxDischargeDepth := 16) only [evN, ↓evP, simprocAttr, forall_const, nuE, fr.2, vbQh, ↓sA_usd, ↓sA_ust, soft_usd, soft_ust, cnvN_pu, cnvN_up, eqS_pp, isNameV_v, isLitV_v, eq_false o1, eq_false o2, eq_false o3, eq_false o4, eq_false o5, eq_false o16, eq_false o17, o6, o7, o8, o9, o10, o11, o12, o13, o14, eq_false o15, em_nil, e1, e2, e3]
    simp [o15]
theorem hasF_v (r : Xr) (htx : r.tx.size ≤ 9223372036854775807) (A_ : AH) : valA Tryd.prog 31 #[.agg #[.int .i64 r.op, .string r.nm, .string r.tx, .int .i64 r.n, .slice r.p r.len r.cap]] A_ = some (.bool (fldB r.op r.nm r.tx r.n r.len)) := valA_eq (pureA_of (by kernel_rfl) (hasF_h r htx))
end Go.Proofs.YtgglccpckhpocaaDoor
namespace Go.Proofs.YtgglccpckhpocaaDoor
open Go.Vm
set_option maxHeartbeats 4000000
set_option maxRecDepth 20000
mutual
def wX : Xs → Bool
  | .mk op nm tx n args => fldB op nm tx n args.length && wL args
def wL : List Xs → Bool
  | [] => true
  | x :: l => wX x && wL l
end
theorem wL_all : ∀ l : List Xs, wL l = l.all wX
  | [] => by simp [wL]
  | x :: l => by simp [wL, wL_all l]
inductive SzX : Xs → Prop
  | mk {op n : Int} {nm tx : ByteArray} {args : List Xs} : nm.size ≤ 9223372036854775807 → tx.size ≤ 9223372036854775807 → (∀ x ∈ args, SzX x) → SzX (.mk op nm tx n args)
theorem isWs_h (A : AH) (op n : Int) (nm tx : ByteArray) (args : List Xs) (p : Option Addr) (cap : Nat) (rs : List Xr) (hl : args.length ≤ 140737488355328) (hrs : rs.length = args.length) (hS : StR xrC 5 A p rs) (htx : tx.size ≤ 9223372036854775807) (ih : ∀ (k : Nat) (x : Xs) (r : Xr), args[k]? = some x → rs[k]? = some r → ∀ B, SubA A B → valA Tryd.prog 16 #[xrV r] B = some (.bool (wX x))) : CallA Tryd.prog 16 #[.agg #[.int .i64 op, .string nm, .string tx, .int .i64 n, .slice p args.length cap]] A (fun u_ A_ => u_ = .bool (wX (.mk op nm tx n args)) ∧ SubA A A_) := by
  refine callA_of_denA ⟨Tryd.prog, 16, Tryd.f16, 19, [0, 1, 2, 4, 9, 10, 11], ⟨[], none⟩, [], _⟩ rfl (args := [_]) Tryd.func16 rfl (by kernel_rfl) Tryd.ntmps16 (by simp) (by kernel_rfl) ?_
  intro ν fr; have nuE := fr.nu
  have f0 := fr.2 0
  have hv := hasF_v ⟨op, nm, tx, n, p, args.length, cap⟩ htx
  simp only [] at hv
  have hw : wX (.mk op nm tx n args) = (fldB op nm tx n args.length && args.all wX) := by rw [wX, wL_all]
  rw [hw]
  cases hf : fldB op nm tx n args.length with
  | false =>
    rw [hf] at hv
    simp (maxDischargeDepth := 16) only [evN, ↓evP, simprocAttr, forall_const, nuE, fr.2, vbQh, ↓sA_usd, ↓sA_ust, soft_usd, soft_ust, cnvN_pu, cnvN_up, eqS_pp, isNameV_v, isLitV_v, hasF_v, hv]
  | true =>
    rw [hf] at hv
    simp (maxDischargeDepth := 16) only [evN, ↓evP, simprocAttr, forall_const, nuE, fr.2, vbQh, ↓sA_usd, ↓sA_ust, soft_usd, soft_ust, cnvN_pu, cnvN_up, eqS_pp, isNameV_v, isLitV_v, hasF_v, hv]
    have dst_ : True := (by simp [nuE]); generalize ν 0 = n1 at dst_  f0 ⊢
    clear nuE fr hv hf hw
    obtain ⟨e, l, he, hd, hle, hx⟩ : ∃ (e : Nat) (l : List Xs), e = 0 ∧ l = args.drop e ∧ e ≤ args.length ∧ (true && args.all wX) = l.all wX := ⟨0, _, rfl, rfl, by omega, rfl⟩
    rw [hx]
    rw [show (11, some (Value.int .i64 0)) = (11, some (Value.int .i64 (e : Int))) by rw [he]; rfl]
    clear he hx
    induction l generalizing e with
    | nil =>
      obtain ⟨hn1, hn2⟩ := drop_nil hd hle
      have lt : ((e : Int) < (args.length : Int)) = False := eq_false (by omega)
      refine LoopA.intro (by kernel_rfl) ?_
      intro ν fr; have nuE := And.intro (fr.mem (b := n1) (by simp)) (fr.nu)
      simp (maxDischargeDepth := 16) only [evN, ↓evP, simprocAttr, forall_const, nuE, fr.2, vbQh, ↓sA_usd, ↓sA_ust, soft_usd, soft_ust, cnvN_pu, cnvN_up, eqS_pp, isNameV_v, isLitV_v, hasF_v, lt]
      exact ⟨rfl, SubA.fresh f0 (SubA.refl _)⟩
    | cons x l ihl =>
      obtain ⟨ha, hlt, hd', htk⟩ := drop_some hd
      have lt : ((e : Int) < (args.length : Int)) = True := eq_true (by omega)
      have li : ((e : Int) < 0) = False := eq_false (by omega)
      have we : IntKind.i64.wrap ((e : Int) + 1) = ((e + 1 : Nat) : Int) := by rw [w_i64 (by omega) (by omega)]; omega
      obtain ⟨s, hs⟩ : ∃ s, rs[e]? = some s := ⟨_, List.getElem?_eq_getElem (by omega)⟩
      obtain ⟨bk, off, cs, ty, fr0, hp0, hbk, hcr, hcc⟩ := hS.at hs
      subst hp0
      simp only [xrC] at hcr
      obtain ⟨q1, q2⟩ := look_ne f0 hbk
      refine LoopA.intro (by kernel_rfl) ?_
      intro ν fr; have nuE := And.intro (fr.mem (b := n1) (by simp)) (fr.nu)
      have f1 := fr.2 0
      have iv := fun o => ih e x s ha hs ((ν 0, o) :: (n1, .cells #[.int .i64 op, .string nm, .string tx, .int .i64 n, .slice (some ⟨bk, off, none⟩) args.length cap] 24) :: A) (SubA.fresh f1 (SubA.fresh f0 (SubA.refl _)))
      simp only [xrV, xrC] at iv
      cases hw : wX x with
      | true =>
        rw [hw] at iv
        simp (maxDischargeDepth := 16) only [evN, ↓evP, simprocAttr, forall_const, nuE, fr.2, vbQh, ↓sA_usd, ↓sA_ust, soft_usd, soft_ust, cnvN_pu, cnvN_up, eqS_pp, isNameV_v, isLitV_v, hasF_v, lt, li, hbk, hcr, q1, q2, iv, we]
        have hc : (x :: l).all wX = l.all wX := by simp [hw]
        rw [hc]
        exact LoopA.weak (ihl (e + 1) hd' (by omega)) (by simp only [subE, get_cons, Nat.reduceEqDiff, ↓reduceIte, reduceCtorEq, Nat.reduceAdd, and_self, and_true]) (SubA.fresh f1 (SubA.refl _))
      | false =>
        rw [hw] at iv
        simp (maxDischargeDepth := 16) only [evN, ↓evP, simprocAttr, forall_const, nuE, fr.2, vbQh, ↓sA_usd, ↓sA_ust, soft_usd, soft_ust, cnvN_pu, cnvN_up, eqS_pp, isNameV_v, isLitV_v, hasF_v, lt, li, hbk, hcr, q1, q2, iv, we]
        exact ⟨by simp [hw], SubA.fresh f1 (SubA.fresh f0 (SubA.refl _))⟩
theorem isWs_w (A : AH) (op n : Int) (nm tx : ByteArray) (args : List Xs) (p : Option Addr) (cap : Nat) (rs : List Xr) (hl : args.length ≤ 140737488355328) (hrs : rs.length = args.length) (hS : StR xrC 5 A p rs) (htx : tx.size ≤ 9223372036854775807) (ih : ∀ (k : Nat) (x : Xs) (r : Xr), args[k]? = some x → rs[k]? = some r → ∀ B, SubA A B → valA Tryd.prog 16 #[xrV r] B = some (.bool (wX x))) (B_ : AH) (hB_ : SubA A B_) : valA Tryd.prog 16 #[.agg #[.int .i64 op, .string nm, .string tx, .int .i64 n, .slice p args.length cap]] B_ = some (.bool (wX (.mk op nm tx n args))) := valA_eq (pureA_at (by kernel_rfl) (isWs_h A op n nm tx args p cap rs hl hrs hS htx ih) hB_)
theorem isW {A : AH} {t : Xs} {r : Xr} (h : ExR A t r) : SzX t → ∀ B, SubA A B → valA Tryd.prog 16 #[xrV r] B = some (.bool (wX t)) := by
  induction h with
  | @mk op n nm tx args p cap rs h0 h0' h1 h2 h3 ih =>
    rintro (⟨z1, z2, z3⟩) B hB
    exact isWs_w A op n nm tx args p cap rs h0 h1 h2 z2 (fun k x r hx hr C hC => ih k x r hx hr (z3 x (List.mem_of_getElem? hx)) C hC) B hB
theorem fldB_sz {op n : Int} {nm tx : ByteArray} {k : Nat} (h : fldB op nm tx n k = true) : nm.size ≤ 16 ∧ tx.size ≤ 100 := by
  have e1 : ∀ {s : ByteArray}, emB s = true → s.size = 0 := fun h => by
    have : _ = _ := of_decide_eq_true h
    rw [← size_list, this]; rfl
  have e2 : ∀ {s : ByteArray}, litB s = true → s.size ≤ 100 := fun h => by
    unfold litB at h
    simp only [Bool.and_eq_true, decide_eq_true_eq] at h
    exact h.1
  have e3 : ∀ {s : ByteArray}, naB s = true → s.size ≤ 16 := fun h => by
    unfold naB nameF at h
    simp only [Bool.and_eq_true, decide_eq_true_eq] at h
    exact h.1.2.1
  unfold fldB at h
  split at h
  · simp only [Bool.and_eq_true] at h
    have := e1 h.1.1.2; have := e1 h.1.2; omega
  · split at h
    · simp only [Bool.and_eq_true] at h
      have := e2 h.1.1.1; have := e1 h.1.1.2; omega
    · split at h
      · simp only [Bool.and_eq_true] at h
        have := e3 h.1.1.1; have := e1 h.1.1.2; omega
      · split at h
        · simp only [Bool.and_eq_true] at h
          have := e3 h.1.1.1.1; have := e1 h.1.2; omega
        · simp only [Bool.and_eq_true] at h
          have := e1 h.1.1.1; have := e1 h.1.1.2; omega
end Go.Proofs.YtgglccpckhpocaaDoor
