/-
Builders of texts: copyCheck, WriteByte and String over known blocks.
Conditions: none.
-/
import Derived.Test.YtnpjgimkllebhaaDoorVmAB
import Derived.Test.YtnpjgimkllebhaaDoorBs
namespace Go.Proofs.YtnpjgimkllebhaaDoor
open Go.Vm
set_option linter.unusedSimpArgs false
set_option linter.unusedVariables false
set_option maxHeartbeats 1000000
set_option maxRecDepth 20000
/-- A builder that holds these bytes. -/
def BldA (E : AH) (b : Nat) (l : List UInt8) : Prop := ∃ p v B, E = (b, .cells #[p, v] 43) :: B ∧ (p = .pointer none ∨ p = .pointer (some ⟨b, 0, none⟩)) ∧ (l = [] → v = .slice none 0 0) ∧ OwnA 5 1 v B l.length (bcL l) ∧ Vm.look B b = none
theorem BldA.new (b : Nat) : BldA [(b, .cells #[.pointer none, .slice none 0 0] 43)] b [] := ⟨_, _, [], rfl, .inl rfl, fun _ => rfl, OwnA.nil _ _, rfl⟩
theorem noEsc (A : AH) (x : Value) (K : Value → AH → Prop) (hK : K x A) : CallA Tryd.prog 51 #[x] A K := fun h hA => by
  unfold RunC
  rw [if_neg (by rw [show callable Tryd.prog 51 = false by kernel_rfl]; simp)]
  exact ext_of Tryd.func51 (by kernel_rfl) (by kernel_rfl) (by kernel_rfl) (e := Extern.AbiNoEscape.same) (by kernel_rfl) (fun w => rfl) ⟨x, A, rfl, hA, Keep.refl _ _, hK⟩
theorem bldCC_h (b : Nat) (p v : Value) (hp : p = .pointer none ∨ p = .pointer (some ⟨b, 0, none⟩)) : CallA Tryd.prog 45 #[.pointer (some ⟨b, 0, none⟩)] [(b, .cells #[p, v] 43)] (fun u_ A_ => u_ = .tuple #[] ∧ SubE [(b, .cells #[.pointer (some ⟨b, 0, none⟩), v] 43)] A_) := by
  refine callA_of_denA ⟨Tryd.prog, 45, Tryd.f45, 20, [0], [51], [], _⟩ (args := [_]) Tryd.func45 rfl (by kernel_rfl) Tryd.ntmps45 (by simp) (by kernel_rfl) ?_
  intro ν fr; have nuE := And.intro (fr.mem (b := b) (by simp)) (fr.nu)
  obtain ⟨j, hj, hjs⟩ := Option.map_eq_some_iff.1 (show (Tryd.prog.info? 43).map (·.size) = some 2 by kernel_rfl)
  have inf : (Tryd.prog.info? 43).isSome = true := by kernel_rfl
  rcases hp with rfl | rfl
  · simp (maxDischargeDepth := 16) only [argE_nil, argE_cons, ↓vmD, vmV, vmStd, Nat.reduceMul, ↓reduceIte, Nat.reduceAdd, Nat.reduceSub, Nat.reduceEqDiff, Nat.reduceLT, Nat.reduceLeDiff, reduceCtorEq, Int.reduceToNat, Int.reduceLT, Int.reduceLE, Int.reduceEq, Int.reduceNeg, Int.reduceBEq, Int.reduceBNe, String.reduceEq, forall_const, ↓vmDA, vmVA, ↓vmQA, vmR, vmRA, ↓vmSA, vmSV, tyS, nuE, ↓sA_usd, ↓sA_ust, soft_usd, soft_ust, cnvN_pu, cnvN_up, eqS_pp]
    refine rA_toU (e := 43) (cs := #[.pointer none, v]) (fr := (0, 0)) Tryd.underlying41 Tryd.underlying65 hj (by rw [hjs]; decide) (by simp (maxDischargeDepth := 16) only [argE_nil, argE_cons, ↓vmD, vmV, vmStd, Nat.reduceMul, ↓reduceIte, Nat.reduceAdd, Nat.reduceSub, Nat.reduceEqDiff, Nat.reduceLT, Nat.reduceLeDiff, reduceCtorEq, Int.reduceToNat, Int.reduceLT, Int.reduceLE, Int.reduceEq, Int.reduceNeg, Int.reduceBEq, Int.reduceBNe, String.reduceEq, forall_const, ↓vmDA, vmVA, ↓vmQA, vmR, vmRA, ↓vmSA, vmSV, tyS, nuE, ↓sA_usd, ↓sA_ust, soft_usd, soft_ust, cnvN_pu, cnvN_up, eqS_pp]) (by simp) ?_
    intro ν fr; have nuE := And.intro (fr.mem (b := b) (by simp)) (fr.nu)
    simp (maxDischargeDepth := 16) only [argE_nil, argE_cons, ↓vmD, vmV, vmStd, Nat.reduceMul, ↓reduceIte, Nat.reduceAdd, Nat.reduceSub, Nat.reduceEqDiff, Nat.reduceLT, Nat.reduceLeDiff, reduceCtorEq, Int.reduceToNat, Int.reduceLT, Int.reduceLE, Int.reduceEq, Int.reduceNeg, Int.reduceBEq, Int.reduceBNe, String.reduceEq, forall_const, ↓vmDA, vmVA, ↓vmQA, vmR, vmRA, ↓vmSA, vmSV, tyS, nuE, ↓sA_usd, ↓sA_ust, soft_usd, soft_ust, cnvN_pu, cnvN_up, eqS_pp]
    refine noEsc _ _ _ ?_
    intro ν fr; have nuE := And.intro (fr.mem (b := b) (by simp)) (fr.nu)
    simp (maxDischargeDepth := 16) only [argE_nil, argE_cons, ↓vmD, vmV, vmStd, Nat.reduceMul, ↓reduceIte, Nat.reduceAdd, Nat.reduceSub, Nat.reduceEqDiff, Nat.reduceLT, Nat.reduceLeDiff, reduceCtorEq, Int.reduceToNat, Int.reduceLT, Int.reduceLE, Int.reduceEq, Int.reduceNeg, Int.reduceBEq, Int.reduceBNe, String.reduceEq, forall_const, ↓vmDA, vmVA, ↓vmQA, vmR, vmRA, ↓vmSA, vmSV, tyS, nuE, ↓sA_usd, ↓sA_ust, soft_usd, soft_ust, cnvN_pu, cnvN_up, eqS_pp]
    refine rA_fromU (e := 43) (cs := #[.pointer none, v]) (fr := (0, 0)) Tryd.underlying65 Tryd.underlying41 hj (by simp (maxDischargeDepth := 16) only [argE_nil, argE_cons, ↓vmD, vmV, vmStd, Nat.reduceMul, ↓reduceIte, Nat.reduceAdd, Nat.reduceSub, Nat.reduceEqDiff, Nat.reduceLT, Nat.reduceLeDiff, reduceCtorEq, Int.reduceToNat, Int.reduceLT, Int.reduceLE, Int.reduceEq, Int.reduceNeg, Int.reduceBEq, Int.reduceBNe, String.reduceEq, forall_const, ↓vmDA, vmVA, ↓vmQA, vmR, vmRA, ↓vmSA, vmSV, tyS, nuE, ↓sA_usd, ↓sA_ust, soft_usd, soft_ust, cnvN_pu, cnvN_up, eqS_pp]) (by kernel_rfl) ?_
    intro ν fr; have nuE := And.intro (fr.mem (b := b) (by simp)) (fr.nu)
    simp (maxDischargeDepth := 16) only [argE_nil, argE_cons, ↓vmD, vmV, vmStd, Nat.reduceMul, ↓reduceIte, Nat.reduceAdd, Nat.reduceSub, Nat.reduceEqDiff, Nat.reduceLT, Nat.reduceLeDiff, reduceCtorEq, Int.reduceToNat, Int.reduceLT, Int.reduceLE, Int.reduceEq, Int.reduceNeg, Int.reduceBEq, Int.reduceBNe, String.reduceEq, forall_const, ↓vmDA, vmVA, ↓vmQA, vmR, vmRA, ↓vmSA, vmSV, tyS, nuE, ↓sA_usd, ↓sA_ust, soft_usd, soft_ust, cnvN_pu, cnvN_up, eqS_pp]
    rfl
  · simp (maxDischargeDepth := 16) only [argE_nil, argE_cons, ↓vmD, vmV, vmStd, Nat.reduceMul, ↓reduceIte, Nat.reduceAdd, Nat.reduceSub, Nat.reduceEqDiff, Nat.reduceLT, Nat.reduceLeDiff, reduceCtorEq, Int.reduceToNat, Int.reduceLT, Int.reduceLE, Int.reduceEq, Int.reduceNeg, Int.reduceBEq, Int.reduceBNe, String.reduceEq, forall_const, ↓vmDA, vmVA, ↓vmQA, vmR, vmRA, ↓vmSA, vmSV, tyS, nuE, ↓sA_usd, ↓sA_ust, soft_usd, soft_ust, cnvN_pu, cnvN_up, eqS_pp, inf]
    rfl

theorem sc_byte (n : Int) : sliceCells Tryd.prog 36 1 [(0, .int .u8 n)] = some (5, #[.int .u8 n]) := by kernel_rfl
theorem bldWB_h (E : AH) (b : Nat) (l : List UInt8) (c : UInt8) (hE : BldA E b l) (hl : l.length ≤ 1000000000) : CallA Tryd.prog 34 #[.pointer (some ⟨b, 0, none⟩), .int .u8 (c.toNat : Int)] E (fun u_ A_ => u_ = .nilIface ∧ ∃ E', BldA E' b (l ++ [c]) ∧ SubA E' A_ ∧ ∀ x, Vm.look E x ≠ none → Vm.look A_ x ≠ none) := by
  refine callA_of_denA ⟨Tryd.prog, 34, Tryd.f34, 17, [0, 1, 4], [45], [], _⟩ (args := [_, _]) Tryd.func34 rfl (by kernel_rfl) Tryd.ntmps34 (by simp) (by kernel_rfl) ?_
  intro ν fr; have nuE := fr.nu
  obtain ⟨p, v, B, rfl, hp, hn, ho, hb0⟩ := hE
  simp (maxDischargeDepth := 16) only [argE_nil, argE_cons, ↓vmD, vmV, vmStd, Nat.reduceMul, ↓reduceIte, Nat.reduceAdd, Nat.reduceSub, Nat.reduceEqDiff, Nat.reduceLT, Nat.reduceLeDiff, reduceCtorEq, Int.reduceToNat, Int.reduceLT, Int.reduceLE, Int.reduceEq, Int.reduceNeg, Int.reduceBEq, Int.reduceBNe, String.reduceEq, forall_const, ↓vmDA, vmVA, ↓vmQA, vmR, vmRA, ↓vmSA, vmSV, tyS, nuE, ↓sA_usd, ↓sA_ust, soft_usd, soft_ust, cnvN_pu, cnvN_up, eqS_pp]
  refine CallA.use (bldCC_h b p v hp) (SubA.left [_] _) (fun v D h x hx => ?_) B (SubA.right (B := [_]) (Dis.one hb0)) (Dis.one hb0) ?_
  · simp only [Vm.look] at hx
    split at hx
    · rename_i e; subst e; rw [h.2.1]; simp
    · exact absurd rfl hx
  rintro u D ⟨rfl, h1, _⟩ dD
  refine ⟨[(b, .cells #[.pointer (some ⟨b, 0, none⟩), v] 43)], SubE.sub ⟨h1, trivial⟩, ?_⟩
  intro ν fr; have nuE := And.intro (fr.mem (b := b) (by simp)) (fr.nu)
  simp (maxDischargeDepth := 16) only [argE_nil, argE_cons, ↓vmD, vmV, vmStd, Nat.reduceMul, ↓reduceIte, Nat.reduceAdd, Nat.reduceSub, Nat.reduceEqDiff, Nat.reduceLT, Nat.reduceLeDiff, reduceCtorEq, Int.reduceToNat, Int.reduceLT, Int.reduceLE, Int.reduceEq, Int.reduceNeg, Int.reduceBEq, Int.reduceBNe, String.reduceEq, forall_const, ↓vmDA, vmVA, ↓vmQA, vmR, vmRA, ↓vmSA, vmSV, tyS, nuE, ↓sA_usd, ↓sA_ust, soft_usd, soft_ust, cnvN_pu, cnvN_up, eqS_pp, sc_byte]
  have hν0 : Vm.look B (ν 0) = none := (show SubA B ((b, Obj.cells #[.pointer (some ⟨b, 0, none⟩), v] 43) :: B) from SubA.right (B := [_]) (Dis.one hb0)).none (fr.2 0)
  refine RunA.use ?_
  refine append_own (m := 1) (g := ν 0) (off := 0) (news := bcL [c]) slc36 zro5 rfl (by decide) ho ?_ ?_ (by simp [bcL, Value.oneCell']) (by simp only [maxLen]; omega) (by omega) ?_
  · exact SubA.skip hν0 (SubA.skip hb0 (SubA.refl _))
  · simp (maxDischargeDepth := 16) only [argE_nil, argE_cons, ↓vmD, vmV, vmStd, Nat.reduceMul, ↓reduceIte, Nat.reduceAdd, Nat.reduceSub, Nat.reduceEqDiff, Nat.reduceLT, Nat.reduceLeDiff, reduceCtorEq, Int.reduceToNat, Int.reduceLT, Int.reduceLE, Int.reduceEq, Int.reduceNeg, Int.reduceBEq, Int.reduceBNe, String.reduceEq, forall_const, ↓vmDA, vmVA, ↓vmQA, vmR, vmRA, ↓vmSA, vmSV, tyS, nuE, ↓sA_usd, ↓sA_ust, soft_usd, soft_ust, cnvN_pu, cnvN_up, eqS_pp, bcL, List.map]
  intro v' B' ho' hB'
  have hb' : Vm.look B' b = none := by
    cases hx : Vm.look B' b with
    | none => rfl
    | some o =>
      rcases hB' b (by rw [hx]; simp) with h | h
      · exact absurd hb0 h
      · have : Vm.look ((ν 0, Obj.cells #[.int .u8 (c.toNat : Int)] 5) :: (b, Obj.cells #[.pointer (some ⟨b, 0, none⟩), v] 43) :: B) b ≠ none := by simp [Vm.look, nuE]
        exact absurd h this
  obtain ⟨g', cap', hv'⟩ : ∃ g cap, v' = .slice (some ⟨g, 0, none⟩) (l.length + 1) cap := by
    rcases ho' with ⟨_, ⟨_, _, h⟩ | ⟨g, cap, cur, h2, _⟩⟩
    · omega
    · exact ⟨g, cap, h2⟩
  subst hv'
  refine Exists.intro ((b, .cells #[.pointer (some ⟨b, 0, none⟩), v] 43) :: (B' ++ B)) (And.intro (SubA.cons (by rw [look_app hb']; simp [Vm.look, nuE]) (SubA.app (SubA.skip hν0 (SubA.skip hb0 (SubA.refl _))))) ?_)
  intro ν fr; have nuE := And.intro (fr.mem (b := b) (by simp)) (fr.nu)
  simp (maxDischargeDepth := 16) only [argE_nil, argE_cons, ↓vmD, vmV, vmStd, Nat.reduceMul, ↓reduceIte, Nat.reduceAdd, Nat.reduceSub, Nat.reduceEqDiff, Nat.reduceLT, Nat.reduceLeDiff, reduceCtorEq, Int.reduceToNat, Int.reduceLT, Int.reduceLE, Int.reduceEq, Int.reduceNeg, Int.reduceBEq, Int.reduceBNe, String.reduceEq, forall_const, ↓vmDA, vmVA, ↓vmQA, vmR, vmRA, ↓vmSA, vmSV, tyS, nuE, ↓sA_usd, ↓sA_ust, soft_usd, soft_ust, cnvN_pu, cnvN_up, eqS_pp]
  refine ⟨(b, .cells #[.pointer (some ⟨b, 0, none⟩), .slice (some ⟨g', 0, none⟩) (l.length + 1) cap'] 43) :: B', ⟨_, _, B', rfl, .inr rfl, by simp, ?_, hb'⟩, SubA.app (B := [_]) (SubA.left B' B), fun x hx => ?_⟩
  · rw [bcL_app, List.length_append]; exact ho'
  · by_cases e : b = x
    · rw [if_pos e]; simp
    · rw [if_neg e] at hx ⊢
      rw [look_append]
      split
      · simp
      · exact hx

theorem BldA.use {E X A : AH} {P : Program} {g : FuncId} {args : Array Value} {K : Value → AH → Prop} {u0 : Value} {b : Nat} {l' : List UInt8}
    (hc : CallA P g args E fun u A' => u = u0 ∧ ∃ E', BldA E' b l' ∧ SubA E' A' ∧ ∀ b, Vm.look E b ≠ none → Vm.look A' b ≠ none) (hs : SubA E A) (hX : SubA X A) (hd : Dis E X)
    (hk : ∀ E', BldA E' b l' → Dis E' X → K u0 (E' ++ X)) : CallA P g args A K :=
  CallA.use hc hs (fun v D h b hb => h.2.choose_spec.2.2 b hb) X hX hd (by
    rintro v D ⟨rfl, E', h1, h2, h3⟩ dD
    exact ⟨E', h2, hk E' h1 (dD.subl h2)⟩)
theorem bldStr_h (E : AH) (b : Nat) (l : List UInt8) (hE : BldA E b l) (hl : l.length ≤ 1000000000) : CallA Tryd.prog 35 #[.pointer (some ⟨b, 0, none⟩)] E (fun u_ A_ => u_ = .string (bs l) ∧ ∀ x, Vm.look E x ≠ none → Vm.look A_ x ≠ none) := by
  refine callA_of_denA ⟨Tryd.prog, 35, Tryd.f35, 14, [0, 2], [], [], _⟩ (args := [_]) Tryd.func35 rfl (by kernel_rfl) Tryd.ntmps35 (by simp) (by kernel_rfl) ?_
  intro ν fr; have nuE := fr.nu
  obtain ⟨p, v, B, rfl, hp, hn, ho, hb0⟩ := hE
  by_cases h0 : l = []
  · have hv := hn h0
    subst hv
    subst h0
    simp (maxDischargeDepth := 16) only [argE_nil, argE_cons, ↓vmD, vmV, vmStd, Nat.reduceMul, ↓reduceIte, Nat.reduceAdd, Nat.reduceSub, Nat.reduceEqDiff, Nat.reduceLT, Nat.reduceLeDiff, reduceCtorEq, Int.reduceToNat, Int.reduceLT, Int.reduceLE, Int.reduceEq, Int.reduceNeg, Int.reduceBEq, Int.reduceBNe, String.reduceEq, forall_const, ↓vmDA, vmVA, ↓vmQA, vmR, vmRA, ↓vmSA, vmSV, tyS, nuE, ↓sA_usd, ↓sA_ust, soft_usd, soft_ust, cnvN_pu, cnvN_up, eqS_pp]
    refine MeantA.plan [(0, 0), (1, 0), (2, 0), (3, 0), (5, 0), (6, 0), (7, 0), (8, 0), (9, 0), (4, 0), (10, 1), (11, 0)] [(b, .cells #[p, .slice none 0 0] 43)] (SubA.left [_] _) (by kernel_rfl) (by kernel_rfl) (by kernel_rfl) (by kernel_rfl) (by kernel_rfl) (by kernel_rfl) ?_
    intro ν fr; have nuE := And.intro (fr.mem (b := b) (by simp)) (fr.nu)
    simp (maxDischargeDepth := 16) only [argE_nil, argE_cons, ↓vmD, vmV, vmStd, Nat.reduceMul, ↓reduceIte, Nat.reduceAdd, Nat.reduceSub, Nat.reduceEqDiff, Nat.reduceLT, Nat.reduceLeDiff, reduceCtorEq, Int.reduceToNat, Int.reduceLT, Int.reduceLE, Int.reduceEq, Int.reduceNeg, Int.reduceBEq, Int.reduceBNe, String.reduceEq, forall_const, ↓vmDA, vmVA, ↓vmQA, vmR, vmRA, ↓vmSA, vmSV, tyS, nuE, ↓sA_usd, ↓sA_ust, soft_usd, soft_ust, cnvN_pu, cnvN_up, eqS_pp, rd_sliceData0]
    refine rA_ustr0 ?_
    intro ν fr; have nuE := And.intro (fr.mem (b := b) (by simp)) (fr.nu)
    simp (maxDischargeDepth := 16) only [argE_nil, argE_cons, ↓vmD, vmV, vmStd, Nat.reduceMul, ↓reduceIte, Nat.reduceAdd, Nat.reduceSub, Nat.reduceEqDiff, Nat.reduceLT, Nat.reduceLeDiff, reduceCtorEq, Int.reduceToNat, Int.reduceLT, Int.reduceLE, Int.reduceEq, Int.reduceNeg, Int.reduceBEq, Int.reduceBNe, String.reduceEq, forall_const, ↓vmDA, vmVA, ↓vmQA, vmR, vmRA, ↓vmSA, vmSV, tyS, nuE, ↓sA_usd, ↓sA_ust, soft_usd, soft_ust, cnvN_pu, cnvN_up, eqS_pp]
    exact ⟨rfl, fun x hx => hx⟩
  · obtain ⟨g, cap, cur, rfl, rfl, h5, h6⟩ : ∃ g cap cur, v = .slice (some ⟨g, 0, none⟩) l.length cap ∧ B = [(g, .cells cur 5)] ∧ l.length ≤ cap ∧ cur.toList.take l.length = bcL l := by
      rcases ho with ⟨_, ⟨_, _, h⟩ | ⟨g, cap, cur, h2, h3, h4, _, _, h5⟩⟩
      · exact absurd (List.eq_nil_of_length_eq_zero h) h0
      · exact ⟨g, cap, cur, h2, h3, h4, by simpa using h5⟩
    have hl0 : l.length ≠ 0 := fun e => h0 (List.eq_nil_of_length_eq_zero e)
    simp (maxDischargeDepth := 16) only [argE_nil, argE_cons, ↓vmD, vmV, vmStd, Nat.reduceMul, ↓reduceIte, Nat.reduceAdd, Nat.reduceSub, Nat.reduceEqDiff, Nat.reduceLT, Nat.reduceLeDiff, reduceCtorEq, Int.reduceToNat, Int.reduceLT, Int.reduceLE, Int.reduceEq, Int.reduceNeg, Int.reduceBEq, Int.reduceBNe, String.reduceEq, forall_const, ↓vmDA, vmVA, ↓vmQA, vmR, vmRA, ↓vmSA, vmSV, tyS, nuE, ↓sA_usd, ↓sA_ust, soft_usd, soft_ust, cnvN_pu, cnvN_up, eqS_pp]
    refine MeantA.plan [(0, 0), (1, 0), (2, 0), (3, 0), (5, 0), (6, 0), (7, 0), (8, 0), (9, 0), (4, 0), (10, 1), (11, 0)] [(b, .cells #[p, .slice (some ⟨g, 0, none⟩) l.length cap] 43)] (SubA.left [_] _) (by kernel_rfl) (by kernel_rfl) (by kernel_rfl) (by kernel_rfl) (by kernel_rfl) (by kernel_rfl) ?_
    intro ν fr; have nuE := And.intro (fr.mem (b := b) (by simp)) (fr.nu)
    have hc : cap ≠ 0 := by omega
    have hgb : ((b = g) = False) ∧ ((g = b) = False) := by
      have : g ≠ b := by
        intro e
        simp [Vm.look, e] at hb0
      exact ⟨eq_false (fun e => this e.symm), eq_false this⟩
    simp (maxDischargeDepth := 16) only [argE_nil, argE_cons, ↓vmD, vmV, vmStd, Nat.reduceMul, ↓reduceIte, Nat.reduceAdd, Nat.reduceSub, Nat.reduceEqDiff, Nat.reduceLT, Nat.reduceLeDiff, reduceCtorEq, Int.reduceToNat, Int.reduceLT, Int.reduceLE, Int.reduceEq, Int.reduceNeg, Int.reduceBEq, Int.reduceBNe, String.reduceEq, forall_const, ↓vmDA, vmVA, ↓vmQA, vmR, vmRA, ↓vmSA, vmSV, tyS, nuE, ↓sA_usd, ↓sA_ust, soft_usd, soft_ust, cnvN_pu, cnvN_up, eqS_pp, rd_sliceData (P := Tryd.prog) hc]
    refine rA_ustr (e := 5) Tryd.underlying58 (by kernel_rfl) (cur := cur) (by simp (maxDischargeDepth := 16) only [argE_nil, argE_cons, ↓vmD, vmV, vmStd, Nat.reduceMul, ↓reduceIte, Nat.reduceAdd, Nat.reduceSub, Nat.reduceEqDiff, Nat.reduceLT, Nat.reduceLeDiff, reduceCtorEq, Int.reduceToNat, Int.reduceLT, Int.reduceLE, Int.reduceEq, Int.reduceNeg, Int.reduceBEq, Int.reduceBNe, String.reduceEq, forall_const, ↓vmDA, vmVA, ↓vmQA, vmR, vmRA, ↓vmSA, vmSV, tyS, nuE, ↓sA_usd, ↓sA_ust, soft_usd, soft_ust, cnvN_pu, cnvN_up, eqS_pp, hgb]) h0 h6 (by omega) ?_
    intro ν3 fr3
    have nuE := fr3.nu
    simp (maxDischargeDepth := 16) only [argE_nil, argE_cons, ↓vmD, vmV, vmStd, Nat.reduceMul, ↓reduceIte, Nat.reduceAdd, Nat.reduceSub, Nat.reduceEqDiff, Nat.reduceLT, Nat.reduceLeDiff, reduceCtorEq, Int.reduceToNat, Int.reduceLT, Int.reduceLE, Int.reduceEq, Int.reduceNeg, Int.reduceBEq, Int.reduceBNe, String.reduceEq, forall_const, ↓vmDA, vmVA, ↓vmQA, vmR, vmRA, ↓vmSA, vmSV, tyS, nuE, ↓sA_usd, ↓sA_ust, soft_usd, soft_ust, cnvN_pu, cnvN_up, eqS_pp, hgb]
    refine ⟨rfl, fun x hx => ?_⟩
    by_cases e : b = x
    · rw [if_pos e]; simp
    · rw [if_neg e] at hx ⊢
      by_cases e2 : g = x
      · rw [if_pos e2]; simp
      · rw [if_neg e2] at hx
        exact absurd rfl hx

end Go.Proofs.YtnpjgimkllebhaaDoor
