/-
Disputes: what the calls do to the data: bounds, amounts, courses.
Conditions: none.
-/
import Derived.Test.YtkkpmcomloekoaaGreatDsl
namespace Go.Proofs.YtkkpmcomloekoaaGreat
open Go.Vm
set_option linter.unusedSimpArgs false
set_option linter.unusedVariables false
set_option maxHeartbeats 1000000
set_option maxRecDepth 20000
theorem next_up {s e : Int} (h : (nextF s e).2 = 0) : s + 1 ≤ (nextF s e).1 ∧ (nextF s e).1 ≤ 6 ∧ 1 ≤ s ∧ s ≤ 4 := by
  revert h
  unfold nextF
  grind (splits := 40)
theorem nodup_set {F : List Fd} {i : Nat} {f g : Fd} (hn : (F.map fun f => f.c.id).Nodup) (hf : F[i]? = some f) (h : g.c.id = f.c.id) : ((F.set i g).map fun f => f.c.id).Nodup := by
  rw [map_set_same (fun f => f.c.id) hf h]; exact hn
theorem FdsOk.set {F : List Fd} {i : Nat} {f : Fd} (hF : FdsOk F) (hf : F[i]? = some f) (R : List Rn) {ev date : Int} (h : (nextF f.c.st ev).2 = 0) : FdsOk (F.set i (enterX R f (nextF f.c.st ev).1 date)) := by
  obtain ⟨h1, h2, h3⟩ := hF
  have hm := List.mem_of_getElem? hf
  obtain ⟨a1, a2, a3, a4, a5⟩ := h1 f hm
  obtain ⟨b1, b2, b3, b4⟩ := next_up h
  refine ⟨fun g hg => ?_, by rw [List.length_set]; exact h2, nodup_set h3 hf rfl⟩
  rcases List.mem_or_eq_of_mem_set hg with e | e
  · exact h1 g e
  · subst e
    refine ⟨?_, ?_, ?_, a4, a5⟩
    · simp only [enterX, List.length_append, List.length_singleton]; omega
    · simp only [enterX]; omega
    · simp only [enterX]; omega
theorem openE_out {R : List Rn} {F : List Fd} {id : Txt} {r : Rd} {code : Txt} {amount date : Int} {items : List Itm} (h : openE R F id r code amount date items = 0) :
    posF id F = none ∧ F.length < 64 ∧ 1 ≤ amount ∧ amount ≤ r.am ∧ r.am ≤ 999999999999 ∧ amount + dspF r.id F ≤ r.am ∧ 0 ≤ date ∧ date ≤ 99999 := by
  unfold openE at h
  split at h
  · cases h
  split at h
  · cases h
  rename_i h1
  split at h
  · cases h
  rename_i h2
  unfold checkX at h
  split at h
  · rename_i q; exact absurd h q
  rename_i h3
  split at h
  · cases h
  split at h
  · cases h
  split at h
  · cases h
  rename_i h4
  split at h
  · cases h
  rename_i h5
  split at h
  · cases h
  rename_i h6
  have := recE_out (by simpa using h3)
  refine ⟨by cases hp : posF id F with | none => rfl | some i => rw [hp] at h1; simp at h1, by omega, by omega, by omega, by omega, by omega, by omega, by omega⟩
theorem open_ok {R : List Rn} {F : List Fd} (hF : FdsOk F) (id : Txt) (r : Rd) (code : Txt) (amount date : Int) (items : List Itm) : FdsOk (openX R F id r code amount date items).2 := by
  unfold openX
  split
  · exact hF
  · rename_i h
    obtain ⟨h1, h2, h3⟩ := hF
    obtain ⟨o1, o2, o3, o4, o5, o6, o7, o8⟩ := openE_out (by simpa using h)
    refine ⟨fun g hg => ?_, by simp; omega, ?_⟩
    · rcases List.mem_append.1 hg with e | e
      · exact h1 g e
      · simp at e; subst e
        simp only [FdOk, openF, enterX, List.nil_append, List.length_singleton]; omega
    · rw [List.map_append, List.nodup_append]
      refine ⟨h3, by simp, fun a ha b hb => ?_⟩
      obtain ⟨f, hf, rfl⟩ := List.mem_map.1 ha
      simp at hb
      subst hb
      exact posF_none o1 f hf
theorem step_ok {R : List Rn} {F : List Fd} (hF : FdsOk F) (id : Txt) (event date : Int) (items : List Itm) : FdsOk (stepX R F id event date items).2 := by
  unfold stepX
  split
  · exact hF
  · split
    · exact hF
    · rename_i i _ f hf
      split
      · exact hF
      · rename_i h
        have : (nextF f.c.st event).2 = 0 := by
          simp only [ne_eq, Decidable.not_not] at h
          unfold stepE at h
          split at h
          · cases h
          split at h
          · cases h
          rename_i q; simpa using q
        exact hF.set hf R this
theorem exp_one {R : List Rn} {date : Int} {f : Fd} (h : FdOk f) : FdOk (expF R date f) := by
  unfold expF
  split
  · rename_i hd
    simp only [dueB, Bool.and_eq_true, decide_eq_true_eq] at hd
    obtain ⟨a1, a2, a3, a4, a5⟩ := h
    obtain ⟨b1, b2, b3, b4⟩ := next_up hd.1
    refine ⟨?_, ?_, ?_, a4, a5⟩
    · simp only [enterX, List.length_append, List.length_singleton]; omega
    · simp only [enterX]; omega
    · simp only [enterX]; omega
  · exact h
theorem expF_id (R : List Rn) (date : Int) (f : Fd) : (expF R date f).c.id = f.c.id ∧ (expF R date f).c.rcd = f.c.rcd ∧ (expF R date f).c.amt = f.c.amt := by
  unfold expF; split <;> simp [enterX]
theorem exp_ok {R : List Rn} {F : List Fd} (hF : FdsOk F) (date : Int) : FdsOk (expX R F date).2 := by
  unfold expX
  split
  · exact hF
  · obtain ⟨h1, h2, h3⟩ := hF
    refine ⟨fun g hg => ?_, by simpa using h2, ?_⟩
    · obtain ⟨f, hf, rfl⟩ := List.mem_map.1 hg
      exact exp_one (h1 f hf)
    · rw [List.map_map]
      have : ((fun f : Fd => f.c.id) ∘ expF R date) = fun f => f.c.id := by funext f; exact (expF_id R date f).1
      rw [this]; exact h3
/-! ### Amounts -/
theorem dsp_set {rcd : Txt} : ∀ {F : List Fd} {i : Nat} {f g : Fd}, F[i]? = some f → g.c.rcd = f.c.rcd → g.c.amt = f.c.amt → 0 ≤ f.c.amt → f.c.st ≠ 6 → dspF rcd (F.set i g) ≤ dspF rcd F
  | [], _, _, _, h, _, _, _, _ => by simp at h
  | x :: F, 0, f, g, h, h1, h2, h3, h4 => by
    simp at h; subst h
    simp only [List.set_cons_zero, dspF, h1, h2]
    split <;> split <;> first | omega | (rename_i q1 q2; exact absurd ⟨q1.1, h4⟩ q2)
  | x :: F, i + 1, f, g, h, h1, h2, h3, h4 => by
    have := dsp_set (rcd := rcd) (F := F) (i := i) (g := g) (by simpa using h) h1 h2 h3 h4
    simp only [List.set_cons_succ, dspF]; omega
theorem dsp_map {rcd : Txt} {R : List Rn} {date : Int} : ∀ {F : List Fd}, (∀ f ∈ F, FdOk f) → dspF rcd (F.map (expF R date)) ≤ dspF rcd F
  | [], _ => Int.le_refl _
  | f :: F, h => by
    have ih := dsp_map (rcd := rcd) (R := R) (date := date) (F := F) fun x hx => h x (by simp [hx])
    obtain ⟨_, e2, e3⟩ := expF_id R date f
    obtain ⟨_, _, _, a4, _⟩ := h f (by simp)
    simp only [List.map_cons, dspF, e2, e3]
    have hst : f.c.st = 6 → (expF R date f).c.st = 6 := fun h6 => by
      unfold expF
      split
      · rename_i hd
        simp only [dueB, Bool.and_eq_true, decide_eq_true_eq] at hd
        have := next_up hd.1
        omega
      · exact h6
    by_cases h6 : f.c.st = 6
    · rw [if_neg (fun h => h.2 (hst h6)), if_neg (fun h => h.2 h6)]; omega
    · split <;> split <;> first | omega | (rename_i q1 q2; exact absurd ⟨q1.1, h6⟩ q2)
theorem exp_amt {R : List Rn} {F : List Fd} (hF : FdsOk F) (date : Int) (rcd : Txt) : dspF rcd (expX R F date).2 ≤ dspF rcd F := by
  unfold expX
  split
  · exact Int.le_refl _
  · exact dsp_map hF.1
theorem step_amt {R : List Rn} {F : List Fd} (hF : FdsOk F) (id : Txt) (event date : Int) (items : List Itm) (rcd : Txt) :
    dspF rcd (stepX R F id event date items).2 ≤ dspF rcd F ∧ ((stepX R F id event date items).1 ≠ 0 → dspF rcd (stepX R F id event date items).2 = dspF rcd F) := by
  unfold stepX
  split
  · exact ⟨Int.le_refl _, fun _ => rfl⟩
  · split
    · exact ⟨Int.le_refl _, fun _ => rfl⟩
    · rename_i i _ f hf
      split
      · exact ⟨Int.le_refl _, fun _ => rfl⟩
      · rename_i h
        refine ⟨?_, fun h => absurd rfl h⟩
        have hn : (nextF f.c.st event).2 = 0 := by
          simp only [ne_eq, Decidable.not_not] at h
          unfold stepE at h
          split at h
          · cases h
          split at h
          · cases h
          rename_i q; simpa using q
        obtain ⟨_, _, _, a4, _⟩ := hF.1 f (List.mem_of_getElem? hf)
        have := next_up hn
        exact dsp_set hf rfl rfl (by omega) (by omega)
theorem open_amt {R : List Rn} {F : List Fd} (hF : FdsOk F) (id : Txt) (r : Rd) (code : Txt) (amount date : Int) (items : List Itm) :
    ((openX R F id r code amount date items).1 ≠ 0 → (openX R F id r code amount date items).2 = F) ∧ ((openX R F id r code amount date items).1 = 0 → dspF r.id (openX R F id r code amount date items).2 = dspF r.id F + amount ∧ dspF r.id F + amount ≤ r.am ∧ r.am ≤ 999999999999 ∧ 1 ≤ amount) := by
  unfold openX
  split
  · rename_i h; exact ⟨fun _ => rfl, fun h2 => absurd h2 h⟩
  · rename_i h
    refine ⟨fun h => absurd rfl h, fun _ => ?_⟩
    obtain ⟨o1, o2, o3, o4, o5, o6, o7, o8⟩ := openE_out (by simpa using h)
    refine ⟨?_, by omega, o5, o3⟩
    rw [dsp_app]
    simp [dspF, openF, enterX]
end Go.Proofs.YtkkpmcomloekoaaGreat
