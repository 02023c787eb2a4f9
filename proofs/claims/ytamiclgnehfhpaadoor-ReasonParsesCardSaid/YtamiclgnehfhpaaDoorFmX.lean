/-
Builders, numbers, texts joined; the walk of Format.
Conditions: none.
-/
import Derived.Test.YtamiclgnehfhpaaDoorVmAB
import Derived.Test.YtamiclgnehfhpaaDoorBs
import Derived.Test.YtamiclgnehfhpaaDoorVmAV
import Derived.Test.YtamiclgnehfhpaaDoorFra
import Derived.Lib.Join
import Derived.Test.YtamiclgnehfhpaaDoorTy
import Derived.Test.YtamiclgnehfhpaaDoorShelf
import Derived.Test.YtamiclgnehfhpaaDoorScX
namespace Go.Proofs.YtamiclgnehfhpaaDoor
open Go.Vm
set_option linter.unusedSimpArgs false
set_option linter.unusedVariables false
set_option maxHeartbeats 1000000
set_option maxRecDepth 20000
theorem vbFmX : type_of% (And.intro @slIndexByte_v (And.intro @indexByte_v (And.intro @indexRune_v (And.intro @containsRune_v (And.intro @slHasPrefix_v (And.intro @hasPrefix_v (And.intro @classOf_v (And.intro @isWordByte_v (And.intro @letter_v (And.intro @digit_v (And.intro @wordAt_v (And.intro @rword_v (And.intro @skip_v (And.intro @rskip_v (And.intro @number_v (And.intro @rnumber_v (And.intro @literal_v (And.intro @rtext_v (And.intro @lexemeAt_v (And.intro @rlexeme_v (And.intro @isName_v (And.intro @risName_v (And.intro @possible_v (And.intro @days_v (And.intro @due_v (And.intro @rkind_v (And.intro @rdays_v (And.intro @rdaysS_v (@rdue_v))))))))))))))))))))))))))))) := And.intro @slIndexByte_v (And.intro @indexByte_v (And.intro @indexRune_v (And.intro @containsRune_v (And.intro @slHasPrefix_v (And.intro @hasPrefix_v (And.intro @classOf_v (And.intro @isWordByte_v (And.intro @letter_v (And.intro @digit_v (And.intro @wordAt_v (And.intro @rword_v (And.intro @skip_v (And.intro @rskip_v (And.intro @number_v (And.intro @rnumber_v (And.intro @literal_v (And.intro @rtext_v (And.intro @lexemeAt_v (And.intro @rlexeme_v (And.intro @isName_v (And.intro @risName_v (And.intro @possible_v (And.intro @days_v (And.intro @due_v (And.intro @rkind_v (And.intro @rdays_v (And.intro @rdaysS_v (@rdue_v))))))))))))))))))))))))))))
/-- A builder that holds these bytes. -/
def BldA (E : AH) (b : Nat) (l : List UInt8) : Prop := ∃ p v B, E = (b, .cells #[p, v] 57) :: B ∧ (p = .pointer none ∨ p = .pointer (some ⟨b, 0, none⟩)) ∧ (l = [] → v = .slice none 0 0) ∧ OwnA 5 1 v B l.length (bcL l) ∧ Vm.look B b = none
theorem BldA.new (b : Nat) : BldA [(b, .cells #[.pointer none, .slice none 0 0] 57)] b [] := ⟨_, _, [], rfl, .inl rfl, fun _ => rfl, OwnA.nil _ _, rfl⟩
theorem noEsc (A : AH) (x : Value) (K : Value → AH → Prop) (hK : K x A) : CallA Tryd.prog 71 #[x] A K := fun h hA => by
  unfold RunC
  rw [if_neg (by rw [show callable Tryd.prog 71 = false by kernel_rfl]; simp)]
  exact ext_of Tryd.func71 (by kernel_rfl) (by kernel_rfl) (by kernel_rfl) (e := Extern.AbiNoEscape.same) (by kernel_rfl) (fun w => rfl) ⟨x, A, rfl, hA, Keep.refl _ _, hK⟩
theorem bldCC_h (b : Nat) (p v : Value) (hp : p = .pointer none ∨ p = .pointer (some ⟨b, 0, none⟩)) : CallA Tryd.prog 55 #[.pointer (some ⟨b, 0, none⟩)] [(b, .cells #[p, v] 57)] (fun u_ A_ => u_ = .tuple #[] ∧ SubE [(b, .cells #[.pointer (some ⟨b, 0, none⟩), v] 57)] A_) := by
  refine callA_of_denA ⟨Tryd.prog, 55, Tryd.f55, 20, [0], [71], [], _⟩ (args := [_]) Tryd.func55 rfl (by kernel_rfl) Tryd.ntmps55 (by simp) (by kernel_rfl) ?_
  intro ν fr; have nuE := And.intro (fr.mem (b := b) (by simp)) (fr.nu)
  obtain ⟨j, hj, hjs⟩ := Option.map_eq_some_iff.1 (show (Tryd.prog.info? 57).map (·.size) = some 2 by kernel_rfl)
  have inf : (Tryd.prog.info? 57).isSome = true := by kernel_rfl
  rcases hp with rfl | rfl
  · simp (maxDischargeDepth := 16) only [argE_nil, argE_cons, ↓vmD, vmV, vmStd, Nat.reduceMul, ↓reduceIte, Nat.reduceAdd, Nat.reduceSub, Nat.reduceEqDiff, Nat.reduceLT, Nat.reduceLeDiff, reduceCtorEq, Int.reduceToNat, Int.reduceLT, Int.reduceLE, Int.reduceEq, Int.reduceNeg, Int.reduceBEq, Int.reduceBNe, String.reduceEq, forall_const, ↓vmDA, vmVA, ↓vmQA, vmR, vmRA, ↓vmSA, vmSV, tyS, nuE, vbFmX, ↓sA_usd, ↓sA_ust, soft_usd, soft_ust, cnvN_pu, cnvN_up, eqS_pp]
    refine rA_toU (e := 57) (cs := #[.pointer none, v]) (fr := (0, 0)) Tryd.underlying54 Tryd.underlying99 hj (by rw [hjs]; decide) (by simp (maxDischargeDepth := 16) only [argE_nil, argE_cons, ↓vmD, vmV, vmStd, Nat.reduceMul, ↓reduceIte, Nat.reduceAdd, Nat.reduceSub, Nat.reduceEqDiff, Nat.reduceLT, Nat.reduceLeDiff, reduceCtorEq, Int.reduceToNat, Int.reduceLT, Int.reduceLE, Int.reduceEq, Int.reduceNeg, Int.reduceBEq, Int.reduceBNe, String.reduceEq, forall_const, ↓vmDA, vmVA, ↓vmQA, vmR, vmRA, ↓vmSA, vmSV, tyS, nuE, vbFmX, ↓sA_usd, ↓sA_ust, soft_usd, soft_ust, cnvN_pu, cnvN_up, eqS_pp]) (by simp) ?_
    intro ν fr; have nuE := And.intro (fr.mem (b := b) (by simp)) (fr.nu)
    simp (maxDischargeDepth := 16) only [argE_nil, argE_cons, ↓vmD, vmV, vmStd, Nat.reduceMul, ↓reduceIte, Nat.reduceAdd, Nat.reduceSub, Nat.reduceEqDiff, Nat.reduceLT, Nat.reduceLeDiff, reduceCtorEq, Int.reduceToNat, Int.reduceLT, Int.reduceLE, Int.reduceEq, Int.reduceNeg, Int.reduceBEq, Int.reduceBNe, String.reduceEq, forall_const, ↓vmDA, vmVA, ↓vmQA, vmR, vmRA, ↓vmSA, vmSV, tyS, nuE, vbFmX, ↓sA_usd, ↓sA_ust, soft_usd, soft_ust, cnvN_pu, cnvN_up, eqS_pp]
    refine noEsc _ _ _ ?_
    intro ν fr; have nuE := And.intro (fr.mem (b := b) (by simp)) (fr.nu)
    simp (maxDischargeDepth := 16) only [argE_nil, argE_cons, ↓vmD, vmV, vmStd, Nat.reduceMul, ↓reduceIte, Nat.reduceAdd, Nat.reduceSub, Nat.reduceEqDiff, Nat.reduceLT, Nat.reduceLeDiff, reduceCtorEq, Int.reduceToNat, Int.reduceLT, Int.reduceLE, Int.reduceEq, Int.reduceNeg, Int.reduceBEq, Int.reduceBNe, String.reduceEq, forall_const, ↓vmDA, vmVA, ↓vmQA, vmR, vmRA, ↓vmSA, vmSV, tyS, nuE, vbFmX, ↓sA_usd, ↓sA_ust, soft_usd, soft_ust, cnvN_pu, cnvN_up, eqS_pp]
    refine rA_fromU (e := 57) (cs := #[.pointer none, v]) (fr := (0, 0)) Tryd.underlying99 Tryd.underlying54 hj (by simp (maxDischargeDepth := 16) only [argE_nil, argE_cons, ↓vmD, vmV, vmStd, Nat.reduceMul, ↓reduceIte, Nat.reduceAdd, Nat.reduceSub, Nat.reduceEqDiff, Nat.reduceLT, Nat.reduceLeDiff, reduceCtorEq, Int.reduceToNat, Int.reduceLT, Int.reduceLE, Int.reduceEq, Int.reduceNeg, Int.reduceBEq, Int.reduceBNe, String.reduceEq, forall_const, ↓vmDA, vmVA, ↓vmQA, vmR, vmRA, ↓vmSA, vmSV, tyS, nuE, vbFmX, ↓sA_usd, ↓sA_ust, soft_usd, soft_ust, cnvN_pu, cnvN_up, eqS_pp]) (by kernel_rfl) ?_
    intro ν fr; have nuE := And.intro (fr.mem (b := b) (by simp)) (fr.nu)
    simp (maxDischargeDepth := 16) only [argE_nil, argE_cons, ↓vmD, vmV, vmStd, Nat.reduceMul, ↓reduceIte, Nat.reduceAdd, Nat.reduceSub, Nat.reduceEqDiff, Nat.reduceLT, Nat.reduceLeDiff, reduceCtorEq, Int.reduceToNat, Int.reduceLT, Int.reduceLE, Int.reduceEq, Int.reduceNeg, Int.reduceBEq, Int.reduceBNe, String.reduceEq, forall_const, ↓vmDA, vmVA, ↓vmQA, vmR, vmRA, ↓vmSA, vmSV, tyS, nuE, vbFmX, ↓sA_usd, ↓sA_ust, soft_usd, soft_ust, cnvN_pu, cnvN_up, eqS_pp]
    rfl
  · simp (maxDischargeDepth := 16) only [argE_nil, argE_cons, ↓vmD, vmV, vmStd, Nat.reduceMul, ↓reduceIte, Nat.reduceAdd, Nat.reduceSub, Nat.reduceEqDiff, Nat.reduceLT, Nat.reduceLeDiff, reduceCtorEq, Int.reduceToNat, Int.reduceLT, Int.reduceLE, Int.reduceEq, Int.reduceNeg, Int.reduceBEq, Int.reduceBNe, String.reduceEq, forall_const, ↓vmDA, vmVA, ↓vmQA, vmR, vmRA, ↓vmSA, vmSV, tyS, nuE, vbFmX, ↓sA_usd, ↓sA_ust, soft_usd, soft_ust, cnvN_pu, cnvN_up, eqS_pp, inf]
    rfl

theorem strC_bs (l : List UInt8) : Lib.strCells (bs l) = bcL l := by simp [Lib.strCells, bcL, bs]
theorem bldWS_h (E : AH) (b : Nat) (l m : List UInt8) (hE : BldA E b l) (hm : m ≠ []) (hl : l.length + m.length ≤ 1000000000) : CallA Tryd.prog 38 #[.pointer (some ⟨b, 0, none⟩), .string (bs m)] E (fun u_ A_ => u_ = .tuple #[.int .i64 (m.length : Int), .nilIface] ∧ ∃ E', BldA E' b (l ++ m) ∧ SubA E' A_ ∧ ∀ x, Vm.look E x ≠ none → Vm.look A_ x ≠ none) := by
  refine callA_of_denA ⟨Tryd.prog, 38, Tryd.f38, 19, [0, 1, 4, 5], [55], [], _⟩ (args := [_, _]) Tryd.func38 rfl (by kernel_rfl) Tryd.ntmps38 (by simp) (by kernel_rfl) ?_
  intro ν fr; have nuE := fr.nu
  obtain ⟨p, v, B, rfl, hp, hn, ho, hb0⟩ := hE
  have hm0 : 0 < m.length := List.length_pos_iff.2 hm
  simp (maxDischargeDepth := 16) only [argE_nil, argE_cons, ↓vmD, vmV, vmStd, Nat.reduceMul, ↓reduceIte, Nat.reduceAdd, Nat.reduceSub, Nat.reduceEqDiff, Nat.reduceLT, Nat.reduceLeDiff, reduceCtorEq, Int.reduceToNat, Int.reduceLT, Int.reduceLE, Int.reduceEq, Int.reduceNeg, Int.reduceBEq, Int.reduceBNe, String.reduceEq, forall_const, ↓vmDA, vmVA, ↓vmQA, vmR, vmRA, ↓vmSA, vmSV, tyS, nuE, SubA.skip, SubA.refl, fr.2, vbFmX, ↓sA_usd, ↓sA_ust, soft_usd, soft_ust, cnvN_pu, cnvN_up, eqS_pp]
  refine CallA.use (bldCC_h b p v hp) (SubA.left [_] _) (fun v D h x hx => ?_) B (SubA.right (B := [_]) (Dis.one hb0)) (Dis.one hb0) ?_
  · simp only [Vm.look] at hx
    split at hx
    · rename_i e; subst e; rw [h.2.1]; simp
    · exact absurd rfl hx
  rintro u D ⟨rfl, h1, _⟩ dD
  refine ⟨[(b, .cells #[.pointer (some ⟨b, 0, none⟩), v] 57)], SubE.sub ⟨h1, trivial⟩, ?_⟩
  intro ν fr; have nuE := And.intro (fr.mem (b := b) (by simp)) (fr.nu)
  simp (maxDischargeDepth := 16) only [argE_nil, argE_cons, ↓vmD, vmV, vmStd, Nat.reduceMul, ↓reduceIte, Nat.reduceAdd, Nat.reduceSub, Nat.reduceEqDiff, Nat.reduceLT, Nat.reduceLeDiff, reduceCtorEq, Int.reduceToNat, Int.reduceLT, Int.reduceLE, Int.reduceEq, Int.reduceNeg, Int.reduceBEq, Int.reduceBNe, String.reduceEq, forall_const, ↓vmDA, vmVA, ↓vmQA, vmR, vmRA, ↓vmSA, vmSV, tyS, nuE, SubA.skip, SubA.refl, fr.2, vbFmX, ↓sA_usd, ↓sA_ust, soft_usd, soft_ust, cnvN_pu, cnvN_up, eqS_pp]
  refine RunA.use ?_
  refine append_ownS (s := bs m) slc55 Tryd.underlying9 zro5 (by rw [bs_size]; exact hm0) ho (SubA.right (B := [_]) (Dis.one hb0)) (by rw [bs_size]; simp only [maxLen]; omega) (by rw [bs_size]; omega) ?_
  intro v' B' ho' hB'
  rw [bs_size, strC_bs] at ho'
  have hb' : Vm.look B' b = none := by
    cases hx : Vm.look B' b with
    | none => rfl
    | some o =>
      rcases hB' b (by rw [hx]; simp) with h | h
      · exact absurd hb0 h
      · exact absurd h (by simp [Vm.look])
  obtain ⟨g', cap', hv'⟩ : ∃ g cap, v' = .slice (some ⟨g, 0, none⟩) (l.length + m.length) cap := by
    rcases ho' with ⟨_, ⟨_, _, h⟩ | ⟨g, cap, cur, h2, _⟩⟩
    · omega
    · exact ⟨g, cap, h2⟩
  subst hv'
  refine Exists.intro ((b, .cells #[.pointer (some ⟨b, 0, none⟩), v] 57) :: (B' ++ B)) (And.intro (SubA.cons (by rw [look_app hb']; simp [Vm.look]) (SubA.app (SubA.skip hb0 (SubA.refl _)))) ?_)
  intro ν fr; have nuE := And.intro (fr.mem (b := b) (by simp)) (fr.nu)
  simp (maxDischargeDepth := 16) only [argE_nil, argE_cons, ↓vmD, vmV, vmStd, Nat.reduceMul, ↓reduceIte, Nat.reduceAdd, Nat.reduceSub, Nat.reduceEqDiff, Nat.reduceLT, Nat.reduceLeDiff, reduceCtorEq, Int.reduceToNat, Int.reduceLT, Int.reduceLE, Int.reduceEq, Int.reduceNeg, Int.reduceBEq, Int.reduceBNe, String.reduceEq, forall_const, ↓vmDA, vmVA, ↓vmQA, vmR, vmRA, ↓vmSA, vmSV, tyS, nuE, SubA.skip, SubA.refl, fr.2, vbFmX, ↓sA_usd, ↓sA_ust, soft_usd, soft_ust, cnvN_pu, cnvN_up, eqS_pp, bs_size]
  refine ⟨(b, .cells #[.pointer (some ⟨b, 0, none⟩), .slice (some ⟨g', 0, none⟩) (l.length + m.length) cap'] 57) :: B', ⟨_, _, B', rfl, .inr rfl, fun h => ?_, ?_, hb'⟩, SubA.app (B := [_]) (SubA.left B' B), fun x hx => ?_⟩
  · exact absurd h (by simp [hm])
  · rw [bcL_app, List.length_append]; exact ho'
  · by_cases e : b = x
    · rw [if_pos e]; simp
    · rw [if_neg e] at hx ⊢
      rw [look_append]
      split
      · simp
      · exact hx

theorem BldA.use {E X A : AH} {P : Program} {g : FuncId} {args : Array Value} {K : Value → AH → Prop} {u0 : Value} {b : Nat} {l' : List UInt8}
    (hc : CallA P g args E fun u A' => u = u0 ∧ ∃ E', BldA E' b l' ∧ SubA E' A' ∧ ∀ b, Vm.look E b ≠ none → Vm.look A' b ≠ none) (hs : SubA E A) (hX : SubA X A) (hd : Dis E X)
    (hk : ∀ E', BldA E' b l' → Dis E' X → K u0 (E' ++ X)) : CallA P g args A K :=
  CallA.use hc hs (fun v D h b hb => h.2.choose_spec.2.2 b hb) X hX hd (by
    rintro v D ⟨rfl, E', h1, h2, h3⟩ dD
    exact ⟨E', h2, hk E' h1 (dD.subl h2)⟩)
theorem bldStr_h (E : AH) (b : Nat) (l : List UInt8) (hE : BldA E b l) (hl : l.length ≤ 1000000000) : CallA Tryd.prog 40 #[.pointer (some ⟨b, 0, none⟩)] E (fun u_ A_ => u_ = .string (bs l) ∧ ∀ x, Vm.look E x ≠ none → Vm.look A_ x ≠ none) := by
  refine callA_of_denA ⟨Tryd.prog, 40, Tryd.f40, 14, [0, 2], [], [], _⟩ (args := [_]) Tryd.func40 rfl (by kernel_rfl) Tryd.ntmps40 (by simp) (by kernel_rfl) ?_
  intro ν fr; have nuE := fr.nu
  obtain ⟨p, v, B, rfl, hp, hn, ho, hb0⟩ := hE
  by_cases h0 : l = []
  · have hv := hn h0
    subst hv
    subst h0
    simp (maxDischargeDepth := 16) only [argE_nil, argE_cons, ↓vmD, vmV, vmStd, Nat.reduceMul, ↓reduceIte, Nat.reduceAdd, Nat.reduceSub, Nat.reduceEqDiff, Nat.reduceLT, Nat.reduceLeDiff, reduceCtorEq, Int.reduceToNat, Int.reduceLT, Int.reduceLE, Int.reduceEq, Int.reduceNeg, Int.reduceBEq, Int.reduceBNe, String.reduceEq, forall_const, ↓vmDA, vmVA, ↓vmQA, vmR, vmRA, ↓vmSA, vmSV, tyS, nuE, vbFmX, ↓sA_usd, ↓sA_ust, soft_usd, soft_ust, cnvN_pu, cnvN_up, eqS_pp]
    refine MeantA.plan [(0, 0), (1, 0), (2, 0), (3, 0), (5, 0), (6, 0), (7, 0), (8, 0), (9, 0), (4, 0), (10, 1), (11, 0)] [(b, .cells #[p, .slice none 0 0] 57)] (SubA.left [_] _) (by kernel_rfl) (by kernel_rfl) (by kernel_rfl) (by kernel_rfl) (by kernel_rfl) (by kernel_rfl) ?_
    intro ν fr; have nuE := And.intro (fr.mem (b := b) (by simp)) (fr.nu)
    simp (maxDischargeDepth := 16) only [argE_nil, argE_cons, ↓vmD, vmV, vmStd, Nat.reduceMul, ↓reduceIte, Nat.reduceAdd, Nat.reduceSub, Nat.reduceEqDiff, Nat.reduceLT, Nat.reduceLeDiff, reduceCtorEq, Int.reduceToNat, Int.reduceLT, Int.reduceLE, Int.reduceEq, Int.reduceNeg, Int.reduceBEq, Int.reduceBNe, String.reduceEq, forall_const, ↓vmDA, vmVA, ↓vmQA, vmR, vmRA, ↓vmSA, vmSV, tyS, nuE, vbFmX, ↓sA_usd, ↓sA_ust, soft_usd, soft_ust, cnvN_pu, cnvN_up, eqS_pp, rd_sliceData0]
    refine rA_ustr0 ?_
    intro ν fr; have nuE := And.intro (fr.mem (b := b) (by simp)) (fr.nu)
    simp (maxDischargeDepth := 16) only [argE_nil, argE_cons, ↓vmD, vmV, vmStd, Nat.reduceMul, ↓reduceIte, Nat.reduceAdd, Nat.reduceSub, Nat.reduceEqDiff, Nat.reduceLT, Nat.reduceLeDiff, reduceCtorEq, Int.reduceToNat, Int.reduceLT, Int.reduceLE, Int.reduceEq, Int.reduceNeg, Int.reduceBEq, Int.reduceBNe, String.reduceEq, forall_const, ↓vmDA, vmVA, ↓vmQA, vmR, vmRA, ↓vmSA, vmSV, tyS, nuE, vbFmX, ↓sA_usd, ↓sA_ust, soft_usd, soft_ust, cnvN_pu, cnvN_up, eqS_pp]
    exact ⟨rfl, fun x hx => hx⟩
  · obtain ⟨g, cap, cur, rfl, rfl, h5, h6⟩ : ∃ g cap cur, v = .slice (some ⟨g, 0, none⟩) l.length cap ∧ B = [(g, .cells cur 5)] ∧ l.length ≤ cap ∧ cur.toList.take l.length = bcL l := by
      rcases ho with ⟨_, ⟨_, _, h⟩ | ⟨g, cap, cur, h2, h3, h4, _, _, h5⟩⟩
      · exact absurd (List.eq_nil_of_length_eq_zero h) h0
      · exact ⟨g, cap, cur, h2, h3, h4, by simpa using h5⟩
    have hl0 : l.length ≠ 0 := fun e => h0 (List.eq_nil_of_length_eq_zero e)
    simp (maxDischargeDepth := 16) only [argE_nil, argE_cons, ↓vmD, vmV, vmStd, Nat.reduceMul, ↓reduceIte, Nat.reduceAdd, Nat.reduceSub, Nat.reduceEqDiff, Nat.reduceLT, Nat.reduceLeDiff, reduceCtorEq, Int.reduceToNat, Int.reduceLT, Int.reduceLE, Int.reduceEq, Int.reduceNeg, Int.reduceBEq, Int.reduceBNe, String.reduceEq, forall_const, ↓vmDA, vmVA, ↓vmQA, vmR, vmRA, ↓vmSA, vmSV, tyS, nuE, vbFmX, ↓sA_usd, ↓sA_ust, soft_usd, soft_ust, cnvN_pu, cnvN_up, eqS_pp]
    refine MeantA.plan [(0, 0), (1, 0), (2, 0), (3, 0), (5, 0), (6, 0), (7, 0), (8, 0), (9, 0), (4, 0), (10, 1), (11, 0)] [(b, .cells #[p, .slice (some ⟨g, 0, none⟩) l.length cap] 57)] (SubA.left [_] _) (by kernel_rfl) (by kernel_rfl) (by kernel_rfl) (by kernel_rfl) (by kernel_rfl) (by kernel_rfl) ?_
    intro ν fr; have nuE := And.intro (fr.mem (b := b) (by simp)) (fr.nu)
    have hc : cap ≠ 0 := by omega
    have hgb : ((b = g) = False) ∧ ((g = b) = False) := by
      have : g ≠ b := by
        intro e
        simp [Vm.look, e] at hb0
      exact ⟨eq_false (fun e => this e.symm), eq_false this⟩
    simp (maxDischargeDepth := 16) only [argE_nil, argE_cons, ↓vmD, vmV, vmStd, Nat.reduceMul, ↓reduceIte, Nat.reduceAdd, Nat.reduceSub, Nat.reduceEqDiff, Nat.reduceLT, Nat.reduceLeDiff, reduceCtorEq, Int.reduceToNat, Int.reduceLT, Int.reduceLE, Int.reduceEq, Int.reduceNeg, Int.reduceBEq, Int.reduceBNe, String.reduceEq, forall_const, ↓vmDA, vmVA, ↓vmQA, vmR, vmRA, ↓vmSA, vmSV, tyS, nuE, vbFmX, ↓sA_usd, ↓sA_ust, soft_usd, soft_ust, cnvN_pu, cnvN_up, eqS_pp, rd_sliceData (P := Tryd.prog) hc]
    refine rA_ustr (e := 5) Tryd.underlying86 (by kernel_rfl) (cur := cur) (by simp (maxDischargeDepth := 16) only [argE_nil, argE_cons, ↓vmD, vmV, vmStd, Nat.reduceMul, ↓reduceIte, Nat.reduceAdd, Nat.reduceSub, Nat.reduceEqDiff, Nat.reduceLT, Nat.reduceLeDiff, reduceCtorEq, Int.reduceToNat, Int.reduceLT, Int.reduceLE, Int.reduceEq, Int.reduceNeg, Int.reduceBEq, Int.reduceBNe, String.reduceEq, forall_const, ↓vmDA, vmVA, ↓vmQA, vmR, vmRA, ↓vmSA, vmSV, tyS, nuE, vbFmX, ↓sA_usd, ↓sA_ust, soft_usd, soft_ust, cnvN_pu, cnvN_up, eqS_pp, hgb]) h0 h6 (by omega) ?_
    intro ν3 fr3
    have nuE := fr3.nu
    simp (maxDischargeDepth := 16) only [argE_nil, argE_cons, ↓vmD, vmV, vmStd, Nat.reduceMul, ↓reduceIte, Nat.reduceAdd, Nat.reduceSub, Nat.reduceEqDiff, Nat.reduceLT, Nat.reduceLeDiff, reduceCtorEq, Int.reduceToNat, Int.reduceLT, Int.reduceLE, Int.reduceEq, Int.reduceNeg, Int.reduceBEq, Int.reduceBNe, String.reduceEq, forall_const, ↓vmDA, vmVA, ↓vmQA, vmR, vmRA, ↓vmSA, vmSV, tyS, nuE, vbFmX, ↓sA_usd, ↓sA_ust, soft_usd, soft_ust, cnvN_pu, cnvN_up, eqS_pp, hgb]
    refine ⟨rfl, fun x hx => ?_⟩
    by_cases e : b = x
    · rw [if_pos e]; simp
    · rw [if_neg e] at hx ⊢
      by_cases e2 : g = x
      · rw [if_pos e2]; simp
      · rw [if_neg e2] at hx
        exact absurd rfl hx

set_option linter.unusedSimpArgs false
set_option linter.unusedVariables false
set_option maxHeartbeats 1000000
set_option maxRecDepth 20000
/-- The library's table of powers lies where its variable lies. -/
def TabA (A : AH) : Prop := ∃ (g : Nat) (e : TypeId) (fr : Nat × Nat), Tryd.prog.globalNamed "internal/strconv.uint64pow10" = some g ∧ Vm.look A g = some (.cells (Lib.pow10Tab.map fun z => Value.int .u64 z).toArray e fr)
theorem TabA.mono {A B : AH} (h : TabA A) (hs : SubA A B) : TabA B := by
  obtain ⟨g, e, fr, h1, h2⟩ := h
  exact ⟨g, e, fr, h1, hs _ _ h2⟩
theorem TabA.of {w : World} (h : Lib.TabIs Tryd.prog w "internal/strconv.uint64pow10" .u64 Lib.pow10Tab) : ∃ A, Sat A w.heap ∧ TabA A := by
  unfold Lib.TabIs World.var? at h
  cases hg : Tryd.prog.globalNamed "internal/strconv.uint64pow10" with
  | none => rw [hg] at h; cases h
  | some g =>
    rw [hg] at h
    simp only [Option.bind_some] at h
    split at h
    · rename_i cs e fr hb
      cases h
      exact ⟨[(g, .cells _ e fr)], (fun b o hl => by
        simp only [Vm.look] at hl
        split at hl
        · rename_i e1; subst e1; cases hl; exact hb
        · cases hl), g, e, fr, hg, by simp [Vm.look]⟩
    · cases h
theorem itoa_w (A : AH) (hT : TabA A) (n : Int) (h0 : -9223372036854775808 ≤ n) (h1 : n ≤ 9223372036854775807) (B : AH) (hB : SubA A B) : valA Tryd.prog 37 #[.int .i64 n] B = some (.string (bs (Lib.itoa n))) :=
  valA_eq ⟨fun _ => by kernel_rfl, fun h hs => by
    unfold RunC
    rw [if_pos (by kernel_rfl)]
    intro w hw
    subst hw
    have ht : Lib.TabIs Tryd.prog w "internal/strconv.uint64pow10" .u64 Lib.pow10Tab := by
      obtain ⟨g, e, fr, hg, hl⟩ := hT
      have := hs _ _ (hB _ _ hl)
      unfold Lib.TabIs World.var?
      rw [hg]
      simp [this]
    refine (Tryd.strconv_Itoa n h0 h1 w ht).mono fun e w' ⟨he, k, os, hw'⟩ => ?_
    subst hw'
    exact ⟨⟨he, ⟨by simp [Go.Sort.grow, World.drewN], fun j hj => by simp only [Go.Sort.grow, World.drewN]; exact Array.getElem?_append_left hj⟩⟩, rfl, rfl, rfl⟩⟩
theorem calls_below {P : Program} {f : FuncId} {args : Array Value} {v : Value} (hc : ∀ w, Calls P f args w fun e w' => e = .returned v ∧ RowKit.Below w.heap.size w w') (h : Heap) : CallsH P f args h fun e h' => e = .returned v ∧ Grew h h' := fun w hw => by
  subst hw
  exact (hc w).mono fun e w' ⟨h1, h2⟩ => ⟨⟨h1, ⟨h2.size, h2.block⟩⟩, ⟨h2.os, h2.tape, h2.output⟩⟩
/-- strings.Join of a list of texts that lies in known blocks. -/
theorem join_w (A : AH) (T : List Txt) (p : Option Addr) (cap : Nat) (sep : Txt) (hT : StR strC 1 A p T) (hcap : T.length ≤ cap) (hN : T.length ≤ 140737488355328) (hlen : (Lib.join T sep).length ≤ 140737488355328) (B : AH) (hB : SubA A B) :
    valA Tryd.prog 39 #[.slice p T.length cap, .string (bs sep)] B = some (.string (bs (Lib.join T sep))) :=
  valA_eq ⟨fun _ => by kernel_rfl, fun h hs => by
    unfold RunC
    rw [if_pos (by kernel_rfl)]
    intro w hw
    subst hw
    rcases hT with h0 | ⟨b, off, cs, e, fr, rfl, h2, h3⟩
    · subst h0
      refine (Tryd.strings_Join_none p cap (bs sep) w).mono fun e w' ⟨he, hw'⟩ => ?_
      subst hw'
      exact ⟨⟨he, Grew.refl _⟩, rfl, rfl, rfl⟩
    · have hb := hs _ _ (hB _ _ h2)
      have e1 : T.length = (T.map bs).length := by simp
      have e2 : (T.map bs).map (·.data.toList) = T := by rw [List.map_map]; exact List.map_id' T
      have hc : ∀ (j : Nat) x, (T.map bs)[j]? = some x → w.cell? ⟨b, off + j, none⟩ = some (.string x) := by
        intro j x hj
        rw [List.getElem?_map, Option.map_eq_some_iff] at hj
        obtain ⟨t, ht, rfl⟩ := hj
        have := (rdCS_cell (h3 j t ht)).2 0 _ rfl
        simp only [World.cell?, hb]
        simpa using this
      have := Tryd.strings_Join b off cap (T.map bs) (bs sep) w hc (by
        rcases Nat.lt_or_ge b w.heap.size with h | h
        · exact h
        · rw [Array.getElem?_eq_none h] at hb; cases hb) (by rw [← e1]; exact hN) (by rw [← e1]; exact hcap) (by rw [e2]; exact hlen)
      rw [← e1, e2] at this
      exact this.mono fun e w' ⟨h1, h2⟩ => ⟨⟨h1, ⟨h2.size, h2.block⟩⟩, ⟨h2.os, h2.tape, h2.output⟩⟩⟩
set_option linter.unusedSimpArgs false
set_option linter.unusedVariables false
set_option maxHeartbeats 4000000
set_option maxRecDepth 20000
def fmtW (r : Rn) : List Txt := [reasonT, r.code, Lib.itoa r.d1, Lib.itoa r.d2, Lib.itoa r.d3, Lib.itoa r.d4] ++ [claimT] ++ r.cl ++ [defenceT] ++ r.df
def fmtL (r : Rn) : List UInt8 := Lib.join (fmtW r) [32] ++ [59, 10]
def fmtF (F : List Rn) : List UInt8 := F.flatMap fmtL
def fmtE (F : List Rn) : List UInt8 := if chkE F = 0 then fmtF F else []
theorem chk_out : ∀ (l dn : List Rn), chkG dn l = 0 → ∀ r ∈ l, nameF (bs r.code) = true ∧ okDs r = true ∧ kindsE r.cl = 0 ∧ kindsE r.df = 0
  | [], _, _, _, h => by cases h
  | x :: l, dn, h, r, hr => by
    simp only [chkG] at h
    split at h
    · cases h
    rename_i q0
    split at h
    · cases h
    split at h
    · cases h
    rename_i qd
    split at h
    · rename_i q; exact absurd h q
    split at h
    · rename_i q; exact absurd h q
    rename_i q1 q2
    rcases List.mem_cons.1 hr with e | e
    · rw [e]; exact ⟨by simpa using q0, by simpa using qd, by simpa using q1, by simpa using q2⟩
    · exact chk_out l _ h r e
theorem chkE_out {F : List Rn} (h : chkE F = 0) : F.length ≤ 32 ∧ ∀ r ∈ F, nameF (bs r.code) = true ∧ okDs r = true ∧ kindsE r.cl = 0 ∧ kindsE r.df = 0 := by
  unfold chkE at h
  split at h
  · cases h
  · rename_i h32
    exact ⟨by omega, chk_out F [] h⟩
theorem name_len {t : Txt} (h : nameF (bs t) = true) : 1 ≤ t.length ∧ t.length ≤ 16 := by
  unfold nameF at h
  simp only [Bool.and_eq_true, decide_eq_true_eq, bs_size] at h
  omega
theorem kinds_out : ∀ (l dn : List Txt), kindsG dn l = 0 → ∀ t ∈ l, kindF t = true
  | [], _, _, _, h => by cases h
  | x :: l, dn, h, t, ht => by
    simp only [kindsG] at h
    split at h
    · cases h
    rename_i q0
    split at h
    · cases h
    rcases List.mem_cons.1 ht with e | e
    · rw [e]; simpa using q0
    · exact kinds_out l _ h t e
theorem kindsE_out {l : List Txt} (h : kindsE l = 0) : l.length ≤ 8 ∧ ∀ t ∈ l, kindF t = true ∧ t.length ≤ 16 := by
  refine ⟨kindsE_len h, fun t ht => ?_⟩
  unfold kindsE at h
  split at h
  · cases h
  have := kinds_out _ _ h t ht
  refine ⟨this, ?_⟩
  simp only [kindF, Bool.and_eq_true] at this
  exact (name_len this.1).2
theorem itoa_len {n : Int} (h : okD n = true) : (Lib.itoa n).length ≤ 4 := by
  simp only [okD, Bool.and_eq_true, decide_eq_true_eq] at h
  obtain ⟨m, rfl⟩ : ∃ m : Nat, n = (m : Int) := ⟨n.toNat, by omega⟩
  have : Lib.itoa (m : Int) = Lib.decDigits m := by simp [Lib.itoa]
  rw [this]
  exact dec_len 4 m (by omega) (by omega)
theorem join_len2 : ∀ (T : List Txt) (k : Nat), (∀ t ∈ T, t.length ≤ k) → (Lib.join T [32]).length ≤ T.length * (k + 1)
  | [], k, _ => by simp [Lib.join, List.intercalate]
  | [a], k, h => by have := h a (by simp); simp [Lib.join, List.intercalate]; omega
  | a :: b :: T, k, h => by
    have h1 := h a (by simp)
    have h2 := join_len2 (b :: T) k fun t ht => h t (by simp only [List.mem_cons] at ht ⊢; exact .inr ht)
    rw [join_cons]
    simp only [List.length_append, List.length_cons] at h2 ⊢
    rw [Nat.succ_mul]
    omega
theorem fmtW_len {r : Rn} (h : nameF (bs r.code) = true ∧ okDs r = true ∧ kindsE r.cl = 0 ∧ kindsE r.df = 0) : (fmtW r).length ≤ 24 ∧ ∀ t ∈ fmtW r, t.length ≤ 16 := by
  obtain ⟨h1, h2, h3, h4⟩ := h
  obtain ⟨l1, k1⟩ := kindsE_out h3
  obtain ⟨l2, k2⟩ := kindsE_out h4
  have n := name_len h1
  simp only [okDs, Bool.and_eq_true] at h2
  refine ⟨by simp [fmtW]; omega, fun t ht => ?_⟩
  simp only [fmtW, List.mem_append, List.mem_cons, List.not_mem_nil, or_false] at ht
  rcases ht with (((ht | ht) | ht) | ht) | ht
  · rcases ht with ht | ht | ht | ht | ht | ht <;> rw [ht]
    · decide
    · omega
    · have := itoa_len h2.1; omega
    · have := itoa_len h2.2.1; omega
    · have := itoa_len h2.2.2.1; omega
    · have := itoa_len h2.2.2.2; omega
  · rw [ht]; decide
  · exact (k1 t ht).2
  · rw [ht]; decide
  · exact (k2 t ht).2
theorem fmtL_len {r : Rn} (h : nameF (bs r.code) = true ∧ okDs r = true ∧ kindsE r.cl = 0 ∧ kindsE r.df = 0) : (Lib.join (fmtW r) [32]).length ≤ 408 ∧ (fmtL r).length ≤ 410 := by
  obtain ⟨l, k⟩ := fmtW_len h
  have := join_len2 (fmtW r) 16 k
  have h1 : (fmtW r).length * (16 + 1) ≤ 24 * 17 := Nat.mul_le_mul_right _ l
  simp only [fmtL, List.length_append, List.length_cons, List.length_nil]
  omega
theorem fmtF_len : ∀ (F : List Rn), (∀ r ∈ F, nameF (bs r.code) = true ∧ okDs r = true ∧ kindsE r.cl = 0 ∧ kindsE r.df = 0) → (fmtF F).length ≤ F.length * 410
  | [], _ => by simp [fmtF]
  | r :: F, h => by
    have h1 := (fmtL_len (h r (by simp))).2
    have h2 := fmtF_len F fun x hx => h x (by simp [hx])
    simp only [fmtF, List.flatMap_cons, List.length_append, List.length_cons] at h2 ⊢
    rw [Nat.succ_mul]
    omega
theorem own_app {v' : Value} {B' : AH} {T U : List Txt} (ho' : OwnZ 9 1 v' B' (T.length + U.length) (T.flatMap strC ++ U.flatMap strC)) : OwnL strC 1 9 v' B' (T ++ U) := by
  unfold OwnL
  rw [List.length_append, List.flatMap_append]
  exact ho'
def ibB (r : Rn) : Obj := .cells #[.int .i64 r.d1, .int .i64 r.d2, .int .i64 r.d3, .int .i64 r.d4] 3
theorem fmtP_h (A : AH) (hT : TabA A) (L : List Rs) (p : Option Addr) (cap : Nat) (hL : RsR A p L) (hl : L.length ≤ cap ∧ cap ≤ 9223372036854775807) : CallA Tryd.prog 16 #[.slice p L.length cap] A (fun u_ A_ => u_ = .string (bs (fmtE (L.map Rs.d))) ∧ SubA A A_) := by
  refine callA_of_denA ⟨Tryd.prog, 16, Tryd.f16, 61, [0, 2, 3, 5, 6, 8, 12, 13, 14, 29, 30, 31], [38, 40], [], _⟩ (args := [_]) Tryd.func16 rfl (by kernel_rfl) Tryd.ntmps16 (by simp) (by kernel_rfl) ?_
  intro ν fr; have nuE := fr.nu
  have cv := chkR_w A L p cap hL hl A (SubA.refl _)
  by_cases h0 : chkE (L.map Rs.d) = 0
  rotate_left
  · have hf : fmtE (L.map Rs.d) = [] := if_neg h0
    rw [hf]
    simp (maxDischargeDepth := 16) only [argE_nil, argE_cons, ↓vmD, vmV, vmStd, Nat.reduceMul, ↓reduceIte, Nat.reduceAdd, Nat.reduceSub, Nat.reduceEqDiff, Nat.reduceLT, Nat.reduceLeDiff, reduceCtorEq, Int.reduceToNat, Int.reduceLT, Int.reduceLE, Int.reduceEq, Int.reduceNeg, Int.reduceBEq, Int.reduceBNe, String.reduceEq, forall_const, ↓vmDA, vmVA, ↓vmQA, vmR, vmRA, ↓vmSA, vmSV, tyS, nuE, SubA.skip, SubA.refl, fr.2, vbFmX, ↓sA_usd, ↓sA_ust, soft_usd, soft_ust, cnvN_pu, cnvN_up, eqS_pp, cv, eq_false h0]
    rfl
  have hf : fmtE (L.map Rs.d) = fmtF (L.map Rs.d) := if_pos h0
  rw [hf]
  obtain ⟨h32, hok⟩ := chkE_out h0
  rw [List.length_map] at h32
  simp (maxDischargeDepth := 16) only [argE_nil, argE_cons, ↓vmD, vmV, vmStd, Nat.reduceMul, ↓reduceIte, Nat.reduceAdd, Nat.reduceSub, Nat.reduceEqDiff, Nat.reduceLT, Nat.reduceLeDiff, reduceCtorEq, Int.reduceToNat, Int.reduceLT, Int.reduceLE, Int.reduceEq, Int.reduceNeg, Int.reduceBEq, Int.reduceBNe, String.reduceEq, forall_const, ↓vmDA, vmVA, ↓vmQA, vmR, vmRA, ↓vmSA, vmSV, tyS, nuE, SubA.skip, SubA.refl, fr.2, vbFmX, ↓sA_usd, ↓sA_ust, soft_usd, soft_ust, cnvN_pu, cnvN_up, eqS_pp, cv, h0]
  have f0 := fr.2 0
  have dst_ : True := (by simp [nuE]); generalize ν 0 = b at dst_  f0 ⊢
  clear nuE fr cv hf
  obtain ⟨e, l, E, acc, he, hac, hd, hle, hE, dE, hsub⟩ : ∃ (e : Nat) (l : List Rs) (E : AH) (acc : Txt), e = 0 ∧ acc = fmtF ((L.take e).map Rs.d) ∧ l = L.drop e ∧ e ≤ L.length ∧ BldA E b acc ∧ Dis E A ∧ E = [(b, .cells #[.pointer none, .slice none 0 0] 57)] := ⟨0, L, _, [], rfl, rfl, rfl, by omega, BldA.new b, Dis.one f0, rfl⟩
  rw [show (14, some (Value.int .i64 0)) = (14, some (Value.int .i64 (e : Int))) by rw [he]; rfl]
  refine LoopA.at (A := E ++ A) (by rw [hsub]; exact SubA.refl _) ?_
  clear he hsub f0
  induction l generalizing e E acc with
  | nil =>
    obtain ⟨hn1, hn2⟩ := drop_nil hd hle
    have lt : ((e : Int) < (L.length : Int)) = False := eq_false (by omega)
    rw [hn2] at hac
    have hlen := fmtF_len _ hok
    rw [List.length_map, ← hac] at hlen
    refine LoopA.intro (by kernel_rfl) ?_
    intro ν fr; have nuE := fr.nu
    simp (maxDischargeDepth := 16) only [argE_nil, argE_cons, ↓vmD, vmV, vmStd, Nat.reduceMul, ↓reduceIte, Nat.reduceAdd, Nat.reduceSub, Nat.reduceEqDiff, Nat.reduceLT, Nat.reduceLeDiff, reduceCtorEq, Int.reduceToNat, Int.reduceLT, Int.reduceLE, Int.reduceEq, Int.reduceNeg, Int.reduceBEq, Int.reduceBNe, String.reduceEq, forall_const, ↓vmDA, vmVA, ↓vmQA, vmR, vmRA, ↓vmSA, vmSV, tyS, nuE, SubA.skip, SubA.refl, fr.2, vbFmX, ↓sA_usd, ↓sA_ust, soft_usd, soft_ust, cnvN_pu, cnvN_up, eqS_pp, lt]
    refine CallA.useX (bldStr_h E b acc hE (by omega)) (SubA.left E A) A dE.right dE ?_
    rintro v D ⟨rfl, hdom⟩ dD
    refine ⟨[], SubA.nil _, ?_⟩
    rw [List.nil_append]
    clear nuE fr
    intro ν fr; have nuE := fr.nu
    simp (maxDischargeDepth := 16) only [argE_nil, argE_cons, ↓vmD, vmV, vmStd, Nat.reduceMul, ↓reduceIte, Nat.reduceAdd, Nat.reduceSub, Nat.reduceEqDiff, Nat.reduceLT, Nat.reduceLeDiff, reduceCtorEq, Int.reduceToNat, Int.reduceLT, Int.reduceLE, Int.reduceEq, Int.reduceNeg, Int.reduceBEq, Int.reduceBNe, String.reduceEq, forall_const, ↓vmDA, vmVA, ↓vmQA, vmR, vmRA, ↓vmSA, vmSV, tyS, nuE, SubA.skip, SubA.refl, fr.2, vbFmX, ↓sA_usd, ↓sA_ust, soft_usd, soft_ust, cnvN_pu, cnvN_up, eqS_pp]
    rw [← hac]
  | cons x l ih =>
    obtain ⟨ha, hlt, hd', htk⟩ := drop_some hd
    have lt : ((e : Int) < (L.length : Int)) = True := eq_true (by omega)
    have we : IntKind.i64.wrap ((e : Int) + 1) = ((e + 1 : Nat) : Int) := by rw [w_i64 (by omega) (by omega)]; omega
    obtain ⟨bk, off, cs, ty, fr0, hp0, hbk, hcr, hcc⟩ := hL.1.at ha
    have hxm := List.mem_of_getElem? ha
    have hxr := hL.2 x hxm
    have hxk := hok x.d (List.mem_map_of_mem hxm)
    have hac2 : fmtF ((L.take (e + 1)).map Rs.d) = acc ++ fmtL x.d := by rw [htk, List.map_append, hac]; simp [fmtF]
    have hlen : acc.length ≤ 32 * 410 := by
      have := fmtF_len ((L.take e).map Rs.d) fun r hr => hok r (by obtain ⟨y, hy, rfl⟩ := List.mem_map.1 hr; exact List.mem_map_of_mem (List.mem_of_mem_take hy))
      rw [← hac, List.length_map, List.length_take] at this
      have : min e L.length * 410 ≤ 32 * 410 := Nat.mul_le_mul_right _ (by omega)
      omega
    obtain ⟨fl1, fl2⟩ := fmtL_len hxk
    obtain ⟨fw1, fw2⟩ := fmtW_len hxk
    have hbk2 := dE.right _ _ hbk
    simp only [rsC] at hcr
    subst hp0
    refine LoopA.intro (by kernel_rfl) ?_
    intro ν fr; have nuE := fr.nu
    have w0 : Vm.look (cat [E, A]) (ν 0) = none := fr.2 0
    have w1 : Vm.look (cat [[(ν 0, rC x)], E, A]) (ν 1) = none := by
      have := fr.2 1
      simp only [cat, List.cons_append, List.nil_append, Vm.look, nuE, if_false] at this ⊢
      exact this
    have w2 : Vm.look (cat [[(ν 1, .cells ([reasonT, x.d.code].flatMap strC).toArray 9)], [(ν 0, rC x)], E, A]) (ν 2) = none := by
      have := fr.2 2
      simp only [cat, List.cons_append, List.nil_append, Vm.look, nuE, if_false] at this ⊢
      exact this
    simp (maxDischargeDepth := 16) only [argE_nil, argE_cons, ↓vmD, vmV, vmStd, Nat.reduceMul, ↓reduceIte, Nat.reduceAdd, Nat.reduceSub, Nat.reduceEqDiff, Nat.reduceLT, Nat.reduceLeDiff, reduceCtorEq, Int.reduceToNat, Int.reduceLT, Int.reduceLE, Int.reduceEq, Int.reduceNeg, Int.reduceBEq, Int.reduceBNe, String.reduceEq, forall_const, ↓vmDA, vmVA, ↓vmQA, vmR, vmRA, ↓vmSA, vmSV, tyS, nuE, SubA.skip, SubA.refl, fr.2, vbFmX, ↓sA_usd, ↓sA_ust, soft_usd, soft_ust, cnvN_pu, cnvN_up, eqS_pp, lt, hbk2, hcr, sc_s2, sc_i4]
    have dst_ : ((ν 0 = ν 1) = False) ∧ ((ν 0 = ν 2) = False) ∧ ((ν 1 = ν 0) = False) ∧ ((ν 1 = ν 2) = False) ∧ ((ν 2 = ν 0) = False) ∧ ((ν 2 = ν 1) = False) := (by simp [nuE]); generalize ν 0 = rb at dst_  w0 w1 w2 ⊢; generalize ν 1 = wb at dst_  w0 w1 w2 ⊢; generalize ν 2 = ib at dst_  w0 w1 w2 ⊢
    clear nuE fr
    have sp0 : Sep [[(ib, ibB x.d)], [(wb, .cells ([reasonT, x.d.code].flatMap strC).toArray 9)], [(rb, rC x)], E, A] := Sep.fresh w2 _ (Sep.fresh w1 _ (Sep.fresh w0 _ (Sep.cons dE (Sep.one A))))
    have ho0 : OwnL strC 1 9 (.slice (some ⟨wb, 0, none⟩) 2 2) [(wb, .cells ([reasonT, x.d.code].flatMap strC).toArray 9)] [reasonT, x.d.code] := .inl (OwnA.at (n := 2) (by simp [strC]) (by simp [maxLen]))
    have sp : Sep [[(ib, ibB x.d)], [(rb, rC x)], [(wb, .cells ([reasonT, x.d.code].flatMap strC).toArray 9)], E, A] := Sep.pick sp0 [0, 2, 1, 3, 4] rfl rfl
    refine LoopA.at (A := cat [[(ib, ibB x.d)], [(rb, rC x)], [(wb, .cells ([reasonT, x.d.code].flatMap strC).toArray 9)], E, A]) (Sep.subs sp0 [0, 2, 1, 3, 4] rfl) ?_
    have hdst : ((ib = rb) = False) ∧ ((rb = ib) = False) := by
      have := sp.1.1 rb (by simp [Vm.look])
      refine ⟨eq_false fun q => ?_, eq_false fun q => ?_⟩
      · simp [Vm.look, q] at this
      · simp [Vm.look, q] at this
    generalize hv0 : Value.slice (some ⟨wb, 0, none⟩) 2 2 = v0 at ho0 ⊢
    generalize hW0 : [(wb, Obj.cells ([reasonT, x.d.code].flatMap strC).toArray 9)] = W0 at ho0 sp ⊢
    clear hv0 hW0 sp0 w0 w1 w2 dst_
    refine LoopA.intro (by kernel_rfl) ?_
    try simp only [cat, List.cons_append, List.nil_append, ibB, rC, rsC]
    intro ν fr
    have nuE := And.intro hdst.1 (And.intro hdst.2 (And.intro (fr.mem (b := ib) (by simp)) (And.intro (fr.mem (b := rb) (by simp)) fr.nu)))
    have okd0 : okD x.d.d1 = true := by have := hxk.2.1; simp only [okDs, Bool.and_eq_true] at this; exact this.1
    have iv0 := itoa_w A hT x.d.d1 (by simp only [okD, Bool.and_eq_true, decide_eq_true_eq] at okd0; omega) (by simp only [okD, Bool.and_eq_true, decide_eq_true_eq] at okd0; omega) (cat [[(ib, ibB x.d)], [(rb, rC x)], W0, E, A]) (Sep.subs sp [4] rfl)
    simp only [cat, List.cons_append, List.nil_append, ibB, rC, rsC] at iv0
    simp (maxDischargeDepth := 16) only [argE_nil, argE_cons, ↓vmD, vmV, vmStd, Nat.reduceMul, ↓reduceIte, Nat.reduceAdd, Nat.reduceSub, Nat.reduceEqDiff, Nat.reduceLT, Nat.reduceLeDiff, reduceCtorEq, Int.reduceToNat, Int.reduceLT, Int.reduceLE, Int.reduceEq, Int.reduceNeg, Int.reduceBEq, Int.reduceBNe, String.reduceEq, forall_const, ↓vmDA, vmVA, ↓vmQA, vmR, vmRA, ↓vmSA, vmSV, tyS, nuE, SubA.skip, SubA.refl, fr.2, vbFmX, ↓sA_usd, ↓sA_ust, soft_usd, soft_ust, cnvN_pu, cnvN_up, eqS_pp, iv0, sc_s1]
    clear iv0
    have sF0 : ∀ X o, SubA X (cat [[(ib, ibB x.d)], [(rb, rC x)], W0, E, A]) → SubA X ((ν 0, o) :: cat [[(ib, ibB x.d)], [(rb, rC x)], W0, E, A]) := fun X o h => SubA.trans h (SubA.fresh (show Vm.look (cat [[(ib, ibB x.d)], [(rb, rC x)], W0, E, A]) (ν 0) = none from fr.2 0) (SubA.refl _))
    refine RunA.use ?_
    refine append_src (m := 1) (news := [Lib.itoa x.d.d1].flatMap strC) (B := W0) slc25 zro9 rfl (by decide) ho0 (sF0 _ _ (Sep.subs sp [2] rfl)) (.inr ⟨ν 0, 0, rfl, by simp (maxDischargeDepth := 16) only [argE_nil, argE_cons, ↓vmD, vmV, vmStd, Nat.reduceMul, ↓reduceIte, Nat.reduceAdd, Nat.reduceSub, Nat.reduceEqDiff, Nat.reduceLT, Nat.reduceLeDiff, reduceCtorEq, Int.reduceToNat, Int.reduceLT, Int.reduceLE, Int.reduceEq, Int.reduceNeg, Int.reduceBEq, Int.reduceBNe, String.reduceEq, forall_const, ↓vmDA, vmVA, ↓vmQA, vmR, vmRA, ↓vmSA, vmSV, tyS, nuE, SubA.skip, SubA.refl, fr.2, vbFmX, ↓sA_usd, ↓sA_ust, soft_usd, soft_ust, cnvN_pu, cnvN_up, eqS_pp, strC, List.flatMap_cons, List.flatMap_nil, claimT, defenceT, bs]⟩) (flat_one str_one _) (by first | (simp [maxLen]; done) | (simp [maxLen]; omega)) (by first | (simp; done) | (simp; omega)) ?_
    intro v1 W1 ho' hb'
    have ho1 := own_app (U := [Lib.itoa x.d.d1]) ho'
    have dO : Dis W1 (cat [[(ib, ibB x.d)], [(rb, rC x)], E, A]) := ap_dis hb' (Sep.dis (Sep.pick sp [2, 0, 1, 3, 4] rfl rfl)) (sF0 _ _ (Sep.subs sp [0, 1, 3, 4] rfl))
    have sq : Sep [W1, [(ib, ibB x.d)], [(rb, rC x)], E, A] := Sep.cons dO (Sep.pick sp [0, 1, 3, 4] rfl rfl)
    refine ⟨cat [[(ib, ibB x.d)], [(rb, rC x)], W1, E, A], SubA.trans (Sep.subs sq [1, 2, 0, 3, 4] rfl) (SubA.app (sF0 _ _ (Sep.subs sp [0, 1, 3, 4] rfl))), ?_⟩
    replace sp : Sep [[(ib, ibB x.d)], [(rb, rC x)], W1, E, A] := Sep.pick sq [1, 2, 0, 3, 4] rfl rfl
    clear nuE fr sF0 sq dO ho' hb' ho0
    simp only [cat, List.cons_append, List.nil_append, ibB, rC, rsC]
    intro ν fr
    have nuE := And.intro hdst.1 (And.intro hdst.2 (And.intro (fr.mem (b := ib) (by simp)) (And.intro (fr.mem (b := rb) (by simp)) fr.nu)))
    have wi0 : IntKind.i64.wrap (0 + 1) = 1 := by decide
    simp (maxDischargeDepth := 16) only [argE_nil, argE_cons, ↓vmD, vmV, vmStd, Nat.reduceMul, ↓reduceIte, Nat.reduceAdd, Nat.reduceSub, Nat.reduceEqDiff, Nat.reduceLT, Nat.reduceLeDiff, reduceCtorEq, Int.reduceToNat, Int.reduceLT, Int.reduceLE, Int.reduceEq, Int.reduceNeg, Int.reduceBEq, Int.reduceBNe, String.reduceEq, forall_const, ↓vmDA, vmVA, ↓vmQA, vmR, vmRA, ↓vmSA, vmSV, tyS, nuE, SubA.skip, SubA.refl, fr.2, vbFmX, ↓sA_usd, ↓sA_ust, soft_usd, soft_ust, cnvN_pu, cnvN_up, eqS_pp, wi0]
    clear nuE fr
    refine LoopA.intro (by kernel_rfl) ?_
    try simp only [cat, List.cons_append, List.nil_append, ibB, rC, rsC]
    intro ν fr
    have nuE := And.intro hdst.1 (And.intro hdst.2 (And.intro (fr.mem (b := ib) (by simp)) (And.intro (fr.mem (b := rb) (by simp)) fr.nu)))
    have okd1 : okD x.d.d2 = true := by have := hxk.2.1; simp only [okDs, Bool.and_eq_true] at this; exact this.2.1
    have iv1 := itoa_w A hT x.d.d2 (by simp only [okD, Bool.and_eq_true, decide_eq_true_eq] at okd1; omega) (by simp only [okD, Bool.and_eq_true, decide_eq_true_eq] at okd1; omega) (cat [[(ib, ibB x.d)], [(rb, rC x)], W1, E, A]) (Sep.subs sp [4] rfl)
    simp only [cat, List.cons_append, List.nil_append, ibB, rC, rsC] at iv1
    simp (maxDischargeDepth := 16) only [argE_nil, argE_cons, ↓vmD, vmV, vmStd, Nat.reduceMul, ↓reduceIte, Nat.reduceAdd, Nat.reduceSub, Nat.reduceEqDiff, Nat.reduceLT, Nat.reduceLeDiff, reduceCtorEq, Int.reduceToNat, Int.reduceLT, Int.reduceLE, Int.reduceEq, Int.reduceNeg, Int.reduceBEq, Int.reduceBNe, String.reduceEq, forall_const, ↓vmDA, vmVA, ↓vmQA, vmR, vmRA, ↓vmSA, vmSV, tyS, nuE, SubA.skip, SubA.refl, fr.2, vbFmX, ↓sA_usd, ↓sA_ust, soft_usd, soft_ust, cnvN_pu, cnvN_up, eqS_pp, iv1, sc_s1]
    clear iv1
    have sF1 : ∀ X o, SubA X (cat [[(ib, ibB x.d)], [(rb, rC x)], W1, E, A]) → SubA X ((ν 0, o) :: cat [[(ib, ibB x.d)], [(rb, rC x)], W1, E, A]) := fun X o h => SubA.trans h (SubA.fresh (show Vm.look (cat [[(ib, ibB x.d)], [(rb, rC x)], W1, E, A]) (ν 0) = none from fr.2 0) (SubA.refl _))
    refine RunA.use ?_
    refine append_src (m := 1) (news := [Lib.itoa x.d.d2].flatMap strC) (B := W1) slc25 zro9 rfl (by decide) ho1 (sF1 _ _ (Sep.subs sp [2] rfl)) (.inr ⟨ν 0, 0, rfl, by simp (maxDischargeDepth := 16) only [argE_nil, argE_cons, ↓vmD, vmV, vmStd, Nat.reduceMul, ↓reduceIte, Nat.reduceAdd, Nat.reduceSub, Nat.reduceEqDiff, Nat.reduceLT, Nat.reduceLeDiff, reduceCtorEq, Int.reduceToNat, Int.reduceLT, Int.reduceLE, Int.reduceEq, Int.reduceNeg, Int.reduceBEq, Int.reduceBNe, String.reduceEq, forall_const, ↓vmDA, vmVA, ↓vmQA, vmR, vmRA, ↓vmSA, vmSV, tyS, nuE, SubA.skip, SubA.refl, fr.2, vbFmX, ↓sA_usd, ↓sA_ust, soft_usd, soft_ust, cnvN_pu, cnvN_up, eqS_pp, strC, List.flatMap_cons, List.flatMap_nil, claimT, defenceT, bs]⟩) (flat_one str_one _) (by first | (simp [maxLen]; done) | (simp [maxLen]; omega)) (by first | (simp; done) | (simp; omega)) ?_
    intro v2 W2 ho' hb'
    have ho2 := own_app (U := [Lib.itoa x.d.d2]) ho'
    have dO : Dis W2 (cat [[(ib, ibB x.d)], [(rb, rC x)], E, A]) := ap_dis hb' (Sep.dis (Sep.pick sp [2, 0, 1, 3, 4] rfl rfl)) (sF1 _ _ (Sep.subs sp [0, 1, 3, 4] rfl))
    have sq : Sep [W2, [(ib, ibB x.d)], [(rb, rC x)], E, A] := Sep.cons dO (Sep.pick sp [0, 1, 3, 4] rfl rfl)
    refine ⟨cat [[(ib, ibB x.d)], [(rb, rC x)], W2, E, A], SubA.trans (Sep.subs sq [1, 2, 0, 3, 4] rfl) (SubA.app (sF1 _ _ (Sep.subs sp [0, 1, 3, 4] rfl))), ?_⟩
    replace sp : Sep [[(ib, ibB x.d)], [(rb, rC x)], W2, E, A] := Sep.pick sq [1, 2, 0, 3, 4] rfl rfl
    clear nuE fr sF1 sq dO ho' hb' ho1
    simp only [cat, List.cons_append, List.nil_append, ibB, rC, rsC]
    intro ν fr
    have nuE := And.intro hdst.1 (And.intro hdst.2 (And.intro (fr.mem (b := ib) (by simp)) (And.intro (fr.mem (b := rb) (by simp)) fr.nu)))
    have wi1 : IntKind.i64.wrap (1 + 1) = 2 := by decide
    simp (maxDischargeDepth := 16) only [argE_nil, argE_cons, ↓vmD, vmV, vmStd, Nat.reduceMul, ↓reduceIte, Nat.reduceAdd, Nat.reduceSub, Nat.reduceEqDiff, Nat.reduceLT, Nat.reduceLeDiff, reduceCtorEq, Int.reduceToNat, Int.reduceLT, Int.reduceLE, Int.reduceEq, Int.reduceNeg, Int.reduceBEq, Int.reduceBNe, String.reduceEq, forall_const, ↓vmDA, vmVA, ↓vmQA, vmR, vmRA, ↓vmSA, vmSV, tyS, nuE, SubA.skip, SubA.refl, fr.2, vbFmX, ↓sA_usd, ↓sA_ust, soft_usd, soft_ust, cnvN_pu, cnvN_up, eqS_pp, wi1]
    clear nuE fr
    refine LoopA.intro (by kernel_rfl) ?_
    try simp only [cat, List.cons_append, List.nil_append, ibB, rC, rsC]
    intro ν fr
    have nuE := And.intro hdst.1 (And.intro hdst.2 (And.intro (fr.mem (b := ib) (by simp)) (And.intro (fr.mem (b := rb) (by simp)) fr.nu)))
    have okd2 : okD x.d.d3 = true := by have := hxk.2.1; simp only [okDs, Bool.and_eq_true] at this; exact this.2.2.1
    have iv2 := itoa_w A hT x.d.d3 (by simp only [okD, Bool.and_eq_true, decide_eq_true_eq] at okd2; omega) (by simp only [okD, Bool.and_eq_true, decide_eq_true_eq] at okd2; omega) (cat [[(ib, ibB x.d)], [(rb, rC x)], W2, E, A]) (Sep.subs sp [4] rfl)
    simp only [cat, List.cons_append, List.nil_append, ibB, rC, rsC] at iv2
    simp (maxDischargeDepth := 16) only [argE_nil, argE_cons, ↓vmD, vmV, vmStd, Nat.reduceMul, ↓reduceIte, Nat.reduceAdd, Nat.reduceSub, Nat.reduceEqDiff, Nat.reduceLT, Nat.reduceLeDiff, reduceCtorEq, Int.reduceToNat, Int.reduceLT, Int.reduceLE, Int.reduceEq, Int.reduceNeg, Int.reduceBEq, Int.reduceBNe, String.reduceEq, forall_const, ↓vmDA, vmVA, ↓vmQA, vmR, vmRA, ↓vmSA, vmSV, tyS, nuE, SubA.skip, SubA.refl, fr.2, vbFmX, ↓sA_usd, ↓sA_ust, soft_usd, soft_ust, cnvN_pu, cnvN_up, eqS_pp, iv2, sc_s1]
    clear iv2
    have sF2 : ∀ X o, SubA X (cat [[(ib, ibB x.d)], [(rb, rC x)], W2, E, A]) → SubA X ((ν 0, o) :: cat [[(ib, ibB x.d)], [(rb, rC x)], W2, E, A]) := fun X o h => SubA.trans h (SubA.fresh (show Vm.look (cat [[(ib, ibB x.d)], [(rb, rC x)], W2, E, A]) (ν 0) = none from fr.2 0) (SubA.refl _))
    refine RunA.use ?_
    refine append_src (m := 1) (news := [Lib.itoa x.d.d3].flatMap strC) (B := W2) slc25 zro9 rfl (by decide) ho2 (sF2 _ _ (Sep.subs sp [2] rfl)) (.inr ⟨ν 0, 0, rfl, by simp (maxDischargeDepth := 16) only [argE_nil, argE_cons, ↓vmD, vmV, vmStd, Nat.reduceMul, ↓reduceIte, Nat.reduceAdd, Nat.reduceSub, Nat.reduceEqDiff, Nat.reduceLT, Nat.reduceLeDiff, reduceCtorEq, Int.reduceToNat, Int.reduceLT, Int.reduceLE, Int.reduceEq, Int.reduceNeg, Int.reduceBEq, Int.reduceBNe, String.reduceEq, forall_const, ↓vmDA, vmVA, ↓vmQA, vmR, vmRA, ↓vmSA, vmSV, tyS, nuE, SubA.skip, SubA.refl, fr.2, vbFmX, ↓sA_usd, ↓sA_ust, soft_usd, soft_ust, cnvN_pu, cnvN_up, eqS_pp, strC, List.flatMap_cons, List.flatMap_nil, claimT, defenceT, bs]⟩) (flat_one str_one _) (by first | (simp [maxLen]; done) | (simp [maxLen]; omega)) (by first | (simp; done) | (simp; omega)) ?_
    intro v3 W3 ho' hb'
    have ho3 := own_app (U := [Lib.itoa x.d.d3]) ho'
    have dO : Dis W3 (cat [[(ib, ibB x.d)], [(rb, rC x)], E, A]) := ap_dis hb' (Sep.dis (Sep.pick sp [2, 0, 1, 3, 4] rfl rfl)) (sF2 _ _ (Sep.subs sp [0, 1, 3, 4] rfl))
    have sq : Sep [W3, [(ib, ibB x.d)], [(rb, rC x)], E, A] := Sep.cons dO (Sep.pick sp [0, 1, 3, 4] rfl rfl)
    refine ⟨cat [[(ib, ibB x.d)], [(rb, rC x)], W3, E, A], SubA.trans (Sep.subs sq [1, 2, 0, 3, 4] rfl) (SubA.app (sF2 _ _ (Sep.subs sp [0, 1, 3, 4] rfl))), ?_⟩
    replace sp : Sep [[(ib, ibB x.d)], [(rb, rC x)], W3, E, A] := Sep.pick sq [1, 2, 0, 3, 4] rfl rfl
    clear nuE fr sF2 sq dO ho' hb' ho2
    simp only [cat, List.cons_append, List.nil_append, ibB, rC, rsC]
    intro ν fr
    have nuE := And.intro hdst.1 (And.intro hdst.2 (And.intro (fr.mem (b := ib) (by simp)) (And.intro (fr.mem (b := rb) (by simp)) fr.nu)))
    have wi2 : IntKind.i64.wrap (2 + 1) = 3 := by decide
    simp (maxDischargeDepth := 16) only [argE_nil, argE_cons, ↓vmD, vmV, vmStd, Nat.reduceMul, ↓reduceIte, Nat.reduceAdd, Nat.reduceSub, Nat.reduceEqDiff, Nat.reduceLT, Nat.reduceLeDiff, reduceCtorEq, Int.reduceToNat, Int.reduceLT, Int.reduceLE, Int.reduceEq, Int.reduceNeg, Int.reduceBEq, Int.reduceBNe, String.reduceEq, forall_const, ↓vmDA, vmVA, ↓vmQA, vmR, vmRA, ↓vmSA, vmSV, tyS, nuE, SubA.skip, SubA.refl, fr.2, vbFmX, ↓sA_usd, ↓sA_ust, soft_usd, soft_ust, cnvN_pu, cnvN_up, eqS_pp, wi2]
    clear nuE fr
    refine LoopA.intro (by kernel_rfl) ?_
    try simp only [cat, List.cons_append, List.nil_append, ibB, rC, rsC]
    intro ν fr
    have nuE := And.intro hdst.1 (And.intro hdst.2 (And.intro (fr.mem (b := ib) (by simp)) (And.intro (fr.mem (b := rb) (by simp)) fr.nu)))
    have okd3 : okD x.d.d4 = true := by have := hxk.2.1; simp only [okDs, Bool.and_eq_true] at this; exact this.2.2.2
    have iv3 := itoa_w A hT x.d.d4 (by simp only [okD, Bool.and_eq_true, decide_eq_true_eq] at okd3; omega) (by simp only [okD, Bool.and_eq_true, decide_eq_true_eq] at okd3; omega) (cat [[(ib, ibB x.d)], [(rb, rC x)], W3, E, A]) (Sep.subs sp [4] rfl)
    simp only [cat, List.cons_append, List.nil_append, ibB, rC, rsC] at iv3
    simp (maxDischargeDepth := 16) only [argE_nil, argE_cons, ↓vmD, vmV, vmStd, Nat.reduceMul, ↓reduceIte, Nat.reduceAdd, Nat.reduceSub, Nat.reduceEqDiff, Nat.reduceLT, Nat.reduceLeDiff, reduceCtorEq, Int.reduceToNat, Int.reduceLT, Int.reduceLE, Int.reduceEq, Int.reduceNeg, Int.reduceBEq, Int.reduceBNe, String.reduceEq, forall_const, ↓vmDA, vmVA, ↓vmQA, vmR, vmRA, ↓vmSA, vmSV, tyS, nuE, SubA.skip, SubA.refl, fr.2, vbFmX, ↓sA_usd, ↓sA_ust, soft_usd, soft_ust, cnvN_pu, cnvN_up, eqS_pp, iv3, sc_s1]
    clear iv3
    have sF3 : ∀ X o, SubA X (cat [[(ib, ibB x.d)], [(rb, rC x)], W3, E, A]) → SubA X ((ν 0, o) :: cat [[(ib, ibB x.d)], [(rb, rC x)], W3, E, A]) := fun X o h => SubA.trans h (SubA.fresh (show Vm.look (cat [[(ib, ibB x.d)], [(rb, rC x)], W3, E, A]) (ν 0) = none from fr.2 0) (SubA.refl _))
    refine RunA.use ?_
    refine append_src (m := 1) (news := [Lib.itoa x.d.d4].flatMap strC) (B := W3) slc25 zro9 rfl (by decide) ho3 (sF3 _ _ (Sep.subs sp [2] rfl)) (.inr ⟨ν 0, 0, rfl, by simp (maxDischargeDepth := 16) only [argE_nil, argE_cons, ↓vmD, vmV, vmStd, Nat.reduceMul, ↓reduceIte, Nat.reduceAdd, Nat.reduceSub, Nat.reduceEqDiff, Nat.reduceLT, Nat.reduceLeDiff, reduceCtorEq, Int.reduceToNat, Int.reduceLT, Int.reduceLE, Int.reduceEq, Int.reduceNeg, Int.reduceBEq, Int.reduceBNe, String.reduceEq, forall_const, ↓vmDA, vmVA, ↓vmQA, vmR, vmRA, ↓vmSA, vmSV, tyS, nuE, SubA.skip, SubA.refl, fr.2, vbFmX, ↓sA_usd, ↓sA_ust, soft_usd, soft_ust, cnvN_pu, cnvN_up, eqS_pp, strC, List.flatMap_cons, List.flatMap_nil, claimT, defenceT, bs]⟩) (flat_one str_one _) (by first | (simp [maxLen]; done) | (simp [maxLen]; omega)) (by first | (simp; done) | (simp; omega)) ?_
    intro v4 W4 ho' hb'
    have ho4 := own_app (U := [Lib.itoa x.d.d4]) ho'
    have dO : Dis W4 (cat [[(ib, ibB x.d)], [(rb, rC x)], E, A]) := ap_dis hb' (Sep.dis (Sep.pick sp [2, 0, 1, 3, 4] rfl rfl)) (sF3 _ _ (Sep.subs sp [0, 1, 3, 4] rfl))
    have sq : Sep [W4, [(ib, ibB x.d)], [(rb, rC x)], E, A] := Sep.cons dO (Sep.pick sp [0, 1, 3, 4] rfl rfl)
    refine ⟨cat [[(ib, ibB x.d)], [(rb, rC x)], W4, E, A], SubA.trans (Sep.subs sq [1, 2, 0, 3, 4] rfl) (SubA.app (sF3 _ _ (Sep.subs sp [0, 1, 3, 4] rfl))), ?_⟩
    replace sp : Sep [[(ib, ibB x.d)], [(rb, rC x)], W4, E, A] := Sep.pick sq [1, 2, 0, 3, 4] rfl rfl
    clear nuE fr sF3 sq dO ho' hb' ho3
    simp only [cat, List.cons_append, List.nil_append, ibB, rC, rsC]
    intro ν fr
    have nuE := And.intro hdst.1 (And.intro hdst.2 (And.intro (fr.mem (b := ib) (by simp)) (And.intro (fr.mem (b := rb) (by simp)) fr.nu)))
    have wi3 : IntKind.i64.wrap (3 + 1) = 4 := by decide
    simp (maxDischargeDepth := 16) only [argE_nil, argE_cons, ↓vmD, vmV, vmStd, Nat.reduceMul, ↓reduceIte, Nat.reduceAdd, Nat.reduceSub, Nat.reduceEqDiff, Nat.reduceLT, Nat.reduceLeDiff, reduceCtorEq, Int.reduceToNat, Int.reduceLT, Int.reduceLE, Int.reduceEq, Int.reduceNeg, Int.reduceBEq, Int.reduceBNe, String.reduceEq, forall_const, ↓vmDA, vmVA, ↓vmQA, vmR, vmRA, ↓vmSA, vmSV, tyS, nuE, SubA.skip, SubA.refl, fr.2, vbFmX, ↓sA_usd, ↓sA_ust, soft_usd, soft_ust, cnvN_pu, cnvN_up, eqS_pp, wi3]
    clear nuE fr
    refine LoopA.intro (by kernel_rfl) ?_
    intro ν fr
    have nuE := And.intro hdst.1 (And.intro hdst.2 (And.intro (fr.mem (b := ib) (by simp)) (And.intro (fr.mem (b := rb) (by simp)) fr.nu)))
    simp (maxDischargeDepth := 16) only [argE_nil, argE_cons, ↓vmD, vmV, vmStd, Nat.reduceMul, ↓reduceIte, Nat.reduceAdd, Nat.reduceSub, Nat.reduceEqDiff, Nat.reduceLT, Nat.reduceLeDiff, reduceCtorEq, Int.reduceToNat, Int.reduceLT, Int.reduceLE, Int.reduceEq, Int.reduceNeg, Int.reduceBEq, Int.reduceBNe, String.reduceEq, forall_const, ↓vmDA, vmVA, ↓vmQA, vmR, vmRA, ↓vmSA, vmSV, tyS, nuE, SubA.skip, SubA.refl, fr.2, vbFmX, ↓sA_usd, ↓sA_ust, soft_usd, soft_ust, cnvN_pu, cnvN_up, eqS_pp, sc_s1]
    have kc := (kindsE_out hxk.2.2.1).1
    have kd := (kindsE_out hxk.2.2.2).1
    have sF4 : ∀ X o, SubA X (cat [[(ib, ibB x.d)], [(rb, rC x)], W4, E, A]) → SubA X ((ν 0, o) :: cat [[(ib, ibB x.d)], [(rb, rC x)], W4, E, A]) := fun X o h => SubA.trans h (SubA.fresh (show Vm.look (cat [[(ib, ibB x.d)], [(rb, rC x)], W4, E, A]) (ν 0) = none from fr.2 0) (SubA.refl _))
    refine RunA.use ?_
    refine append_src (m := 1) (news := [claimT].flatMap strC) (B := W4) slc25 zro9 rfl (by decide) ho4 (sF4 _ _ (Sep.subs sp [2] rfl)) (.inr ⟨ν 0, 0, rfl, by simp (maxDischargeDepth := 16) only [argE_nil, argE_cons, ↓vmD, vmV, vmStd, Nat.reduceMul, ↓reduceIte, Nat.reduceAdd, Nat.reduceSub, Nat.reduceEqDiff, Nat.reduceLT, Nat.reduceLeDiff, reduceCtorEq, Int.reduceToNat, Int.reduceLT, Int.reduceLE, Int.reduceEq, Int.reduceNeg, Int.reduceBEq, Int.reduceBNe, String.reduceEq, forall_const, ↓vmDA, vmVA, ↓vmQA, vmR, vmRA, ↓vmSA, vmSV, tyS, nuE, SubA.skip, SubA.refl, fr.2, vbFmX, ↓sA_usd, ↓sA_ust, soft_usd, soft_ust, cnvN_pu, cnvN_up, eqS_pp, strC, List.flatMap_cons, List.flatMap_nil, claimT, defenceT, bs]⟩) (flat_one str_one _) (by first | (simp [maxLen]; done) | (simp [maxLen]; omega)) (by first | (simp; done) | (simp; omega)) ?_
    intro v5 W5 ho' hb'
    have ho5 := own_app (U := [claimT]) ho'
    have dO : Dis W5 (cat [[(ib, ibB x.d)], [(rb, rC x)], E, A]) := ap_dis hb' (Sep.dis (Sep.pick sp [2, 0, 1, 3, 4] rfl rfl)) (sF4 _ _ (Sep.subs sp [0, 1, 3, 4] rfl))
    have sq : Sep [W5, [(ib, ibB x.d)], [(rb, rC x)], E, A] := Sep.cons dO (Sep.pick sp [0, 1, 3, 4] rfl rfl)
    refine ⟨cat [[(ib, ibB x.d)], [(rb, rC x)], W5, E, A], SubA.trans (Sep.subs sq [1, 2, 0, 3, 4] rfl) (SubA.app (sF4 _ _ (Sep.subs sp [0, 1, 3, 4] rfl))), ?_⟩
    replace sp : Sep [[(ib, ibB x.d)], [(rb, rC x)], W5, E, A] := Sep.pick sq [1, 2, 0, 3, 4] rfl rfl
    clear nuE fr sF4 sq dO ho' hb' ho4
    simp only [cat, List.cons_append, List.nil_append, ibB, rC, rsC]
    intro ν fr
    have nuE := And.intro hdst.1 (And.intro hdst.2 (And.intro (fr.mem (b := ib) (by simp)) (And.intro (fr.mem (b := rb) (by simp)) fr.nu)))
    simp (maxDischargeDepth := 16) only [argE_nil, argE_cons, ↓vmD, vmV, vmStd, Nat.reduceMul, ↓reduceIte, Nat.reduceAdd, Nat.reduceSub, Nat.reduceEqDiff, Nat.reduceLT, Nat.reduceLeDiff, reduceCtorEq, Int.reduceToNat, Int.reduceLT, Int.reduceLE, Int.reduceEq, Int.reduceNeg, Int.reduceBEq, Int.reduceBNe, String.reduceEq, forall_const, ↓vmDA, vmVA, ↓vmQA, vmR, vmRA, ↓vmSA, vmSV, tyS, nuE, SubA.skip, SubA.refl, fr.2, vbFmX, ↓sA_usd, ↓sA_ust, soft_usd, soft_ust, cnvN_pu, cnvN_up, eqS_pp]
    refine RunA.use ?_
    refine append_src (m := x.d.cl.length) (news := x.d.cl.flatMap strC) (B := W5) slc25 zro9 rfl (by decide) ho5 (Sep.subs sp [2] rfl) ?_ (flat_one str_one _) (by simp [maxLen]; omega) (by simp; omega) ?_
    · rcases hxr.1.1.src with h | ⟨g, off', h1, h2⟩
      · exact .inl h
      · refine .inr ⟨g, off', h1, ?_⟩
        obtain ⟨cc, ce, cfr, hlook⟩ := rdCS_some h2
        have hlk : Vm.look (cat [[(ib, ibB x.d)], [(rb, rC x)], W5, E, A]) g = _ := (Sep.subs sp [4] rfl) _ _ hlook
        rw [hlook] at h2
        exact (congrArg (fun z => rdCS z off' (x.d.cl.length * 1)) hlk).trans h2
    intro v6 W6 ho' hb'
    have ho6 := own_app (U := x.d.cl) ho'
    have dO : Dis W6 (cat [[(ib, ibB x.d)], [(rb, rC x)], E, A]) := ap_dis hb' (Sep.dis (Sep.pick sp [2, 0, 1, 3, 4] rfl rfl)) (Sep.subs sp [0, 1, 3, 4] rfl)
    have sq : Sep [W6, [(ib, ibB x.d)], [(rb, rC x)], E, A] := Sep.cons dO (Sep.pick sp [0, 1, 3, 4] rfl rfl)
    refine ⟨cat [[(ib, ibB x.d)], [(rb, rC x)], W6, E, A], SubA.trans (Sep.subs sq [1, 2, 0, 3, 4] rfl) (SubA.app (Sep.subs sp [0, 1, 3, 4] rfl)), ?_⟩
    replace sp : Sep [[(ib, ibB x.d)], [(rb, rC x)], W6, E, A] := Sep.pick sq [1, 2, 0, 3, 4] rfl rfl
    clear nuE fr sq dO ho' hb' ho5
    simp only [cat, List.cons_append, List.nil_append, ibB, rC, rsC]
    intro ν fr
    have nuE := And.intro hdst.1 (And.intro hdst.2 (And.intro (fr.mem (b := ib) (by simp)) (And.intro (fr.mem (b := rb) (by simp)) fr.nu)))
    simp (maxDischargeDepth := 16) only [argE_nil, argE_cons, ↓vmD, vmV, vmStd, Nat.reduceMul, ↓reduceIte, Nat.reduceAdd, Nat.reduceSub, Nat.reduceEqDiff, Nat.reduceLT, Nat.reduceLeDiff, reduceCtorEq, Int.reduceToNat, Int.reduceLT, Int.reduceLE, Int.reduceEq, Int.reduceNeg, Int.reduceBEq, Int.reduceBNe, String.reduceEq, forall_const, ↓vmDA, vmVA, ↓vmQA, vmR, vmRA, ↓vmSA, vmSV, tyS, nuE, SubA.skip, SubA.refl, fr.2, vbFmX, ↓sA_usd, ↓sA_ust, soft_usd, soft_ust, cnvN_pu, cnvN_up, eqS_pp, sc_s1]
    have sF6 : ∀ X o, SubA X (cat [[(ib, ibB x.d)], [(rb, rC x)], W6, E, A]) → SubA X ((ν 0, o) :: cat [[(ib, ibB x.d)], [(rb, rC x)], W6, E, A]) := fun X o h => SubA.trans h (SubA.fresh (show Vm.look (cat [[(ib, ibB x.d)], [(rb, rC x)], W6, E, A]) (ν 0) = none from fr.2 0) (SubA.refl _))
    refine RunA.use ?_
    refine append_src (m := 1) (news := [defenceT].flatMap strC) (B := W6) slc25 zro9 rfl (by decide) ho6 (sF6 _ _ (Sep.subs sp [2] rfl)) (.inr ⟨ν 0, 0, rfl, by simp (maxDischargeDepth := 16) only [argE_nil, argE_cons, ↓vmD, vmV, vmStd, Nat.reduceMul, ↓reduceIte, Nat.reduceAdd, Nat.reduceSub, Nat.reduceEqDiff, Nat.reduceLT, Nat.reduceLeDiff, reduceCtorEq, Int.reduceToNat, Int.reduceLT, Int.reduceLE, Int.reduceEq, Int.reduceNeg, Int.reduceBEq, Int.reduceBNe, String.reduceEq, forall_const, ↓vmDA, vmVA, ↓vmQA, vmR, vmRA, ↓vmSA, vmSV, tyS, nuE, SubA.skip, SubA.refl, fr.2, vbFmX, ↓sA_usd, ↓sA_ust, soft_usd, soft_ust, cnvN_pu, cnvN_up, eqS_pp, strC, List.flatMap_cons, List.flatMap_nil, claimT, defenceT, bs]⟩) (flat_one str_one _) (by first | (simp [maxLen]; done) | (simp [maxLen]; omega)) (by first | (simp; done) | (simp; omega)) ?_
    intro v7 W7 ho' hb'
    have ho7 := own_app (U := [defenceT]) ho'
    have dO : Dis W7 (cat [[(ib, ibB x.d)], [(rb, rC x)], E, A]) := ap_dis hb' (Sep.dis (Sep.pick sp [2, 0, 1, 3, 4] rfl rfl)) (sF6 _ _ (Sep.subs sp [0, 1, 3, 4] rfl))
    have sq : Sep [W7, [(ib, ibB x.d)], [(rb, rC x)], E, A] := Sep.cons dO (Sep.pick sp [0, 1, 3, 4] rfl rfl)
    refine ⟨cat [[(ib, ibB x.d)], [(rb, rC x)], W7, E, A], SubA.trans (Sep.subs sq [1, 2, 0, 3, 4] rfl) (SubA.app (sF6 _ _ (Sep.subs sp [0, 1, 3, 4] rfl))), ?_⟩
    replace sp : Sep [[(ib, ibB x.d)], [(rb, rC x)], W7, E, A] := Sep.pick sq [1, 2, 0, 3, 4] rfl rfl
    clear nuE fr sF6 sq dO ho' hb' ho6
    simp only [cat, List.cons_append, List.nil_append, ibB, rC, rsC]
    intro ν fr
    have nuE := And.intro hdst.1 (And.intro hdst.2 (And.intro (fr.mem (b := ib) (by simp)) (And.intro (fr.mem (b := rb) (by simp)) fr.nu)))
    simp (maxDischargeDepth := 16) only [argE_nil, argE_cons, ↓vmD, vmV, vmStd, Nat.reduceMul, ↓reduceIte, Nat.reduceAdd, Nat.reduceSub, Nat.reduceEqDiff, Nat.reduceLT, Nat.reduceLeDiff, reduceCtorEq, Int.reduceToNat, Int.reduceLT, Int.reduceLE, Int.reduceEq, Int.reduceNeg, Int.reduceBEq, Int.reduceBNe, String.reduceEq, forall_const, ↓vmDA, vmVA, ↓vmQA, vmR, vmRA, ↓vmSA, vmSV, tyS, nuE, SubA.skip, SubA.refl, fr.2, vbFmX, ↓sA_usd, ↓sA_ust, soft_usd, soft_ust, cnvN_pu, cnvN_up, eqS_pp]
    refine RunA.use ?_
    refine append_src (m := x.d.df.length) (news := x.d.df.flatMap strC) (B := W7) slc25 zro9 rfl (by decide) ho7 (Sep.subs sp [2] rfl) ?_ (flat_one str_one _) (by simp [maxLen]; omega) (by simp; omega) ?_
    · rcases hxr.2.1.src with h | ⟨g, off', h1, h2⟩
      · exact .inl h
      · refine .inr ⟨g, off', h1, ?_⟩
        obtain ⟨cc, ce, cfr, hlook⟩ := rdCS_some h2
        have hlk : Vm.look (cat [[(ib, ibB x.d)], [(rb, rC x)], W7, E, A]) g = _ := (Sep.subs sp [4] rfl) _ _ hlook
        rw [hlook] at h2
        exact (congrArg (fun z => rdCS z off' (x.d.df.length * 1)) hlk).trans h2
    intro v8 W8 ho' hb'
    have ho8 := own_app (U := x.d.df) ho'
    have dO : Dis W8 (cat [[(ib, ibB x.d)], [(rb, rC x)], E, A]) := ap_dis hb' (Sep.dis (Sep.pick sp [2, 0, 1, 3, 4] rfl rfl)) (Sep.subs sp [0, 1, 3, 4] rfl)
    have sq : Sep [W8, [(ib, ibB x.d)], [(rb, rC x)], E, A] := Sep.cons dO (Sep.pick sp [0, 1, 3, 4] rfl rfl)
    refine ⟨cat [[(ib, ibB x.d)], [(rb, rC x)], W8, E, A], SubA.trans (Sep.subs sq [1, 2, 0, 3, 4] rfl) (SubA.app (Sep.subs sp [0, 1, 3, 4] rfl)), ?_⟩
    replace sp : Sep [[(ib, ibB x.d)], [(rb, rC x)], W8, E, A] := Sep.pick sq [1, 2, 0, 3, 4] rfl rfl
    clear nuE fr sq dO ho' hb' ho7
    simp only [cat, List.cons_append, List.nil_append, ibB, rC, rsC]
    rw [show ([reasonT, x.d.code] ++ [Lib.itoa x.d.d1] ++ [Lib.itoa x.d.d2] ++ [Lib.itoa x.d.d3] ++ [Lib.itoa x.d.d4] ++ [claimT] ++ x.d.cl ++ [defenceT] ++ x.d.df : List Txt) = fmtW x.d from by simp [fmtW]] at ho8
    obtain ⟨q, qc, rfl, hqc, hqs⟩ := ho8.read strC_len
    have jv := join_w (cat [[(ib, ibB x.d)], [(rb, rC x)], W8, E, A]) (fmtW x.d) q qc [32] (hqs.mono (Sep.subs sp [2] rfl)) hqc (by omega) (by omega) _ (SubA.refl _)
    simp only [cat, List.cons_append, List.nil_append, ibB, rC, rsC] at jv
    have jv' : valA Tryd.prog 39 #[.slice q (fmtW x.d).length qc, .string ⟨#[32]⟩] _ = _ := jv
    have hb : bs (Lib.join (fmtW x.d) [32]) ++ ⟨#[59, 10]⟩ = bs (fmtL x.d) := by rw [show (ByteArray.mk #[59, 10]) = bs [59, 10] from rfl, bs_app]; rfl
    intro ν fr
    have nuE := And.intro hdst.1 (And.intro hdst.2 (And.intro (fr.mem (b := ib) (by simp)) (And.intro (fr.mem (b := rb) (by simp)) fr.nu)))
    have hsz : ((bs (Lib.join (fmtW x.d) [32])).size + (ByteArray.mk #[59, 10]).size ≤ 9223372036854775807) = True := eq_true (by rw [bs_size]; show _ + 2 ≤ _; omega)
    simp (maxDischargeDepth := 16) only [argE_nil, argE_cons, ↓vmD, vmV, vmStd, Nat.reduceMul, ↓reduceIte, Nat.reduceAdd, Nat.reduceSub, Nat.reduceEqDiff, Nat.reduceLT, Nat.reduceLeDiff, reduceCtorEq, Int.reduceToNat, Int.reduceLT, Int.reduceLE, Int.reduceEq, Int.reduceNeg, Int.reduceBEq, Int.reduceBNe, String.reduceEq, forall_const, ↓vmDA, vmVA, ↓vmQA, vmR, vmRA, ↓vmSA, vmSV, tyS, nuE, SubA.skip, SubA.refl, fr.2, vbFmX, ↓sA_usd, ↓sA_ust, soft_usd, soft_ust, cnvN_pu, cnvN_up, eqS_pp, jv', hb, hsz]
    refine BldA.use (bldWS_h E b acc (fmtL x.d) hE (by simp [fmtL]) (by omega)) (Sep.subs sp [3] rfl) (Sep.subs sp [4] rfl) dE ?_
    intro E' hE' dE'
    clear nuE fr
    intro ν fr; have nuE := fr.nu
    simp (maxDischargeDepth := 16) only [argE_nil, argE_cons, ↓vmD, vmV, vmStd, Nat.reduceMul, ↓reduceIte, Nat.reduceAdd, Nat.reduceSub, Nat.reduceEqDiff, Nat.reduceLT, Nat.reduceLeDiff, reduceCtorEq, Int.reduceToNat, Int.reduceLT, Int.reduceLE, Int.reduceEq, Int.reduceNeg, Int.reduceBEq, Int.reduceBNe, String.reduceEq, forall_const, ↓vmDA, vmVA, ↓vmQA, vmR, vmRA, ↓vmSA, vmSV, tyS, nuE, SubA.skip, SubA.refl, fr.2, vbFmX, ↓sA_usd, ↓sA_ust, soft_usd, soft_ust, cnvN_pu, cnvN_up, eqS_pp, we]
    exact LoopA.weak (ih (e + 1) E' (acc ++ fmtL x.d) hac2.symm hd' (by omega) hE' dE') (by simp only [subE, get_cons, Nat.reduceEqDiff, ↓reduceIte, reduceCtorEq, Nat.reduceAdd, and_self, and_true]) (SubA.refl _)
theorem fmtP_w (A : AH) (hT : TabA A) (L : List Rs) (p : Option Addr) (cap : Nat) (hL : RsR A p L) (hl : L.length ≤ cap ∧ cap ≤ 9223372036854775807) (B_ : AH) (hB_ : SubA A B_) : valA Tryd.prog 16 #[.slice p L.length cap] B_ = some (.string (bs (fmtE (L.map Rs.d)))) := valA_eq (pureA_at (by kernel_rfl) (fmtP_h A hT L p cap hL hl) hB_)
theorem fmtP_v (A : AH) (hT : TabA A) (L : List Rs) (p : Option Addr) (cap : Nat) (hL : RsR A p L) (hl : L.length ≤ cap ∧ cap ≤ 9223372036854775807) : valA Tryd.prog 16 #[.slice p L.length cap] A = some (.string (bs (fmtE (L.map Rs.d)))) := valA_eq (pureA_at (by kernel_rfl) (fmtP_h A hT L p cap hL hl) (SubA.refl _))
end Go.Proofs.YtamiclgnehfhpaaDoor
