/-
Calls beside what they do not touch.
Conditions: none.
-/
import Derived.Test.YtiholbpchhifiaaGreatDoorLst
namespace Go.Vm
set_option linter.unusedSimpArgs false
set_option linter.unusedVariables false
/-- Behind a call choose anew what is known: of what it leaves, and of what it did not know. -/
theorem CallA.useX {P : Program} {g : FuncId} {args : Array Value} {A A0 : AH} {K0 K : Value → AH → Prop} (hc : CallA P g args A0 K0) (hs : SubA A0 A) (X : AH) (hX : SubA X A) (hd : Dis A0 X)
    (hk : ∀ v D, K0 v D → Dis D X → ∃ A'', SubA A'' D ∧ K v (A'' ++ X)) : CallA P g args A K := by
  intro h hA
  have h1 := hc h (hA.sub hs)
  have key : ∀ e h', ResA A0 h K0 e h' → ResA A h K e h' := by
    rintro e h' ⟨v, D, he, hD, kp, hK⟩
    have hdx : ∀ x, look X x ≠ none → look D x = none := fun x hx => by
      cases hl : look X x with
      | none => exact absurd hl hx
      | some o =>
        have hlt := hA.lt (hX _ _ hl)
        exact (kp.2 x hlt (hd x hx)).2
    obtain ⟨A'', h2, h3⟩ := hk v D hK hdx
    refine ⟨v, A'' ++ X, he, ?_, ?_, h3⟩
    · refine Sat.both (hD.sub h2) fun b o hl => ?_
      have hb := hA _ _ (hX _ _ hl)
      have hlt := hA.lt (hX _ _ hl)
      rw [(kp.2 b hlt (hd b (by rw [hl]; simp))).1]
      exact hb
    · refine ⟨kp.1, fun b hb hl => ?_⟩
      obtain ⟨q1, q2⟩ := kp.2 b hb (hs.none hl)
      exact ⟨q1, look_app_none (h2.none q2) (hX.none hl)⟩
  unfold RunC at h1 ⊢
  split
  · rename_i hcl
    rw [if_pos hcl] at h1
    exact h1.mono0 key
  · rename_i hcl
    rw [if_neg hcl] at h1
    intro w hw
    obtain ⟨v, w', r1, r2, r3⟩ := h1 w hw
    exact ⟨v, w', r1, r2, key _ _ r3⟩
theorem CallA.sub {P : Program} {g : FuncId} {args : Array Value} {A A0 : AH} {K : Value → AH → Prop} (hc : CallA P g args A0 K) (hs : SubA A0 A) : CallA P g args A K :=
  CallA.useX hc hs [] (SubA.nil _) (fun x hx => absurd rfl hx) fun v D h _ => ⟨D, SubA.refl _, by rw [List.append_nil]; exact h⟩
theorem MeantA.at {c : CxA} {k : List It} {ρ : Env} {A A' : AH} (ha : SubA A A') (hl : @MeantA c k ρ A ()) : @MeantA c k ρ A' () := fun A0 h0 h hA kp => hl A0 h0 h (hA.sub ha) (kp.sub ha)
/-- A call that leads from one state to another, beside what is not touched. -/
theorem CallA.stX {P : Program} {g : FuncId} {args : Array Value} {A E X : AH} {S : Value → AH → Prop} {K : Value → AH → Prop} (hc : CallA P g args E fun v D => ∃ E', S v E' ∧ SubA E' D) (hs : SubA E A) (hX : SubA X A) (hd : Dis E X)
    (hk : ∀ v E', S v E' → Dis E' X → K v (E' ++ X)) : CallA P g args A K :=
  CallA.useX hc hs X hX hd (fun v D ⟨E', h1, h2⟩ dD => ⟨E', h2, hk v E' h1 fun x hx => h2.none (dD x hx)⟩)
end Go.Vm
