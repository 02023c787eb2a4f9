/-
Disputes: courses of cases as data: they follow the stages, ended ones stay.
Conditions: none.
-/
import Derived.Test.YtkkpmcomloekoaaDsa
namespace Go.Proofs.Ytkkpmcomloekoaa
open Go.Vm
set_option linter.unusedSimpArgs false
set_option linter.unusedVariables false
set_option maxHeartbeats 1000000
set_option maxRecDepth 20000
def okStep (a b : Int) : Prop := ∃ v : Int, 1 ≤ v ∧ v ≤ 7 ∧ nextF a v = (b, 0)
/-- A course of stages that ends at s. -/
def ChainH (h : List Int) (s : Int) : Prop := 1 ≤ h.length ∧ h.length ≤ 5 ∧ h[0]? = some 1 ∧ h[h.length - 1]? = some s ∧ ∀ (i : Nat) (a b : Int), h[i]? = some a → h[i + 1]? = some b → okStep a b
def FdC (f : Fd) : Prop := ChainH f.h f.c.st ∧ 0 ≤ f.c.du
def FdsC (F : List Fd) : Prop := ∀ f ∈ F, FdC f
theorem okStep_of {a v : Int} (h : (nextF a v).2 = 0) (h1 : 1 ≤ v) (h2 : v ≤ 7) : okStep a (nextF a v).1 := ⟨v, h1, h2, Prod.ext rfl h⟩
theorem ChainH.snoc {h : List Int} {s t : Int} (c : ChainH h s) (hl : h.length ≤ 4) (k : okStep s t) : ChainH (h ++ [t]) t := by
  obtain ⟨c1, c2, c3, c4, c5⟩ := c
  refine ⟨by simp, by simp; omega, ?_, ?_, fun i a b ha hb => ?_⟩
  · rw [List.getElem?_append_left (by omega)]; exact c3
  · simp
  · have hi : i + 1 < (h ++ [t]).length := (List.getElem?_eq_some_iff.1 hb).1
    simp only [List.length_append, List.length_singleton] at hi
    rw [List.getElem?_append_left (by omega)] at ha
    by_cases e : i + 1 < h.length
    · rw [List.getElem?_append_left e] at hb; exact c5 i a b ha hb
    · have e2 : i + 1 = h.length := by omega
      rw [e2] at hb
      simp at hb
      subst hb
      have : h.length - 1 = i := by omega
      rw [this, ha] at c4
      cases c4
      exact k
theorem due_nn {r : Rn} {stage date : Int} : 0 ≤ (dueF r stage date).1 := by
  unfold dueF
  split
  · exact Int.le_refl _
  split
  · exact Int.le_refl _
  rename_i h
  split
  · exact Int.le_refl _
  · simp [okD] at h
    simp only
    omega
theorem dueX_nn {R : List Rn} {code : Txt} {stage date : Int} : 0 ≤ dueX R code stage date := by
  unfold dueX
  split
  · exact Int.le_refl _
  split
  · decide
  · exact due_nn
theorem FdC.enter {R : List Rn} {f : Fd} {t date : Int} (c : FdC f) (hl : f.h.length ≤ 4) (k : okStep f.c.st t) : FdC (enterX R f t date) := ⟨c.1.snoc hl k, dueX_nn⟩
theorem FdOk.len4 {f : Fd} (h : FdOk f) {ev : Int} (hn : (nextF f.c.st ev).2 = 0) : f.h.length ≤ 4 := by
  obtain ⟨b1, b2, b3, b4⟩ := next_up hn
  have := h.1
  omega
theorem next_ev {a v : Int} (h : (nextF a v).2 = 0) : 1 ≤ v ∧ v ≤ 7 := by
  unfold nextF at h
  split at h
  · cases h
  · omega
/-- What stays of the cases. -/
def Keep (F G : List Fd) : Prop := F.length ≤ G.length ∧ ∀ (k : Nat) (f : Fd), F[k]? = some f → 5 ≤ f.c.st → G[k]? = some f
theorem Keep.refl (F : List Fd) : Keep F F := ⟨Nat.le_refl _, fun _ _ h _ => h⟩
theorem stepE_out {R : List Rn} {f : Fd} {event date : Int} {items : List Itm} (h : ¬ stepE R f event date items ≠ 0) : (nextF f.c.st event).2 = 0 := by
  simp only [ne_eq, Decidable.not_not] at h
  unfold stepE at h
  split at h
  · cases h
  split at h
  · cases h
  rename_i q; simpa using q
theorem step_co {R : List Rn} {F : List Fd} (hF : FdsOk F) (hC : FdsC F) (id : Txt) (event date : Int) (items : List Itm) : FdsC (stepX R F id event date items).2 ∧ Keep F (stepX R F id event date items).2 := by
  unfold stepX
  split
  · exact ⟨hC, .refl _⟩
  · split
    · exact ⟨hC, .refl _⟩
    · rename_i i0 i _ f hf
      split
      · exact ⟨hC, .refl _⟩
      · rename_i h
        have hn := stepE_out h
        have hm := List.mem_of_getElem? hf
        obtain ⟨v1, v2⟩ := next_ev hn
        obtain ⟨b1, b2, b3, b4⟩ := next_up hn
        refine ⟨fun g hg => ?_, by simp, fun k x hx h5 => ?_⟩
        · rcases List.mem_or_eq_of_mem_set hg with e | e
          · exact hC g e
          · subst e
            exact (hC f hm).enter ((hF.1 f hm).len4 hn) (okStep_of hn v1 v2)
        · by_cases e : i0 = k
          · subst e; rw [hf] at hx; cases hx; omega
          · rw [List.getElem?_set_ne e]; exact hx
theorem open_co {R : List Rn} {F : List Fd} (hF : FdsOk F) (hC : FdsC F) (id : Txt) (r : Rd) (code : Txt) (amount date : Int) (items : List Itm) : FdsC (openX R F id r code amount date items).2 ∧ Keep F (openX R F id r code amount date items).2 := by
  unfold openX
  split
  · exact ⟨hC, .refl _⟩
  · refine ⟨fun g hg => ?_, by simp, fun k x hx h5 => ?_⟩
    · rcases List.mem_append.1 hg with e | e
      · exact hC g e
      · simp at e; subst e
        refine ⟨⟨by simp [openF, enterX], by simp [openF, enterX], by simp [openF, enterX], by simp [openF, enterX], fun i a b ha hb => ?_⟩, by simp only [openF, enterX]; exact dueX_nn⟩
        simp [openF, enterX] at hb
    · rw [List.getElem?_append_left (List.getElem?_eq_some_iff.1 hx).1]; exact hx
theorem expF_co {R : List Rn} {date : Int} {f : Fd} (h : FdOk f) (c : FdC f) : FdC (expF R date f) ∧ (5 ≤ f.c.st → expF R date f = f) ∧ ((expF R date f).c.st < 4 → date ≤ (expF R date f).c.du) := by
  unfold expF
  split
  · rename_i hd
    simp only [dueB, Bool.and_eq_true, decide_eq_true_eq] at hd
    obtain ⟨b1, b2, b3, b4⟩ := next_up hd.1
    refine ⟨c.enter (h.len4 hd.1) (okStep_of hd.1 (by omega) (by omega)), fun h5 => by omega, fun h4 => ?_⟩
    have : 5 ≤ (nextF f.c.st 7).1 := by
      have := hd.1
      revert this
      unfold nextF
      grind (splits := 40)
    simp only [enterX] at h4
    omega
  · rename_i hd
    refine ⟨c, fun _ => rfl, fun h4 => ?_⟩
    simp only [dueB, Bool.and_eq_true, decide_eq_true_eq, not_and, Int.not_lt] at hd
    obtain ⟨_, a2, a3, _⟩ := h
    refine hd ?_
    have : f.c.st = 1 ∨ f.c.st = 2 ∨ f.c.st = 3 := by omega
    rcases this with e | e | e <;> rw [e] <;> decide
theorem exp_co {R : List Rn} {F : List Fd} (hF : FdsOk F) (hC : FdsC F) (date : Int) : FdsC (expX R F date).2 ∧ Keep F (expX R F date).2 ∧ (0 ≤ date → date ≤ 99999 → ∀ g ∈ (expX R F date).2, g.c.st < 4 → date ≤ g.c.du) := by
  unfold expX
  split
  · rename_i h
    refine ⟨hC, .refl _, fun h0 h1 => ?_⟩
    simp [okDate] at h
    omega
  · refine ⟨fun g hg => ?_, ⟨by simp, fun k x hx h5 => ?_⟩, fun _ _ g hg h4 => ?_⟩
    · obtain ⟨f, hf, rfl⟩ := List.mem_map.1 hg
      exact (expF_co (hF.1 f hf) (hC f hf)).1
    · have hm := List.mem_of_getElem? hx
      rw [List.getElem?_map, hx, Option.map_some, (expF_co (hF.1 x hm) (hC x hm)).2.1 h5]
    · obtain ⟨f, hf, rfl⟩ := List.mem_map.1 hg
      exact (expF_co (hF.1 f hf) (hC f hf)).2.2 h4
theorem run_co {R : List Rn} {F : List Fd} (hF : FdsOk F) (hC : FdsC F) (x : DoT) : FdsC (runX R F x) ∧ Keep F (runX R F x) ∧ (x.kd % 3 = 2 → 0 ≤ x.dt → x.dt ≤ 99999 → ∀ g ∈ runX R F x, g.c.st < 4 → x.dt ≤ g.c.du) := by
  unfold runX doX
  split
  · obtain ⟨h1, h2, h3⟩ := exp_co (R := R) hF hC x.dt
    exact ⟨h1, h2, fun _ => h3⟩
  · rename_i h
    split
    · obtain ⟨h1, h2⟩ := open_co (R := R) hF hC x.id x.r x.code x.am x.dt x.its
      exact ⟨h1, h2, fun h3 => absurd h3 h⟩
    · obtain ⟨h1, h2⟩ := step_co (R := R) hF hC x.id x.ev x.dt x.its
      exact ⟨h1, h2, fun h3 => absurd h3 h⟩
theorem posF_nodup : ∀ {F : List Fd} {k : Nat} {f : Fd}, (F.map fun f => f.c.id).Nodup → F[k]? = some f → posF f.c.id F = some k
  | [], _, _, _, h => by simp at h
  | x :: F, 0, f, _, h => by simp at h; subst h; simp [posF]
  | x :: F, k + 1, f, hn, h => by
    simp only [List.map_cons, List.nodup_cons] at hn
    have h' : F[k]? = some f := by simpa using h
    have ih := posF_nodup hn.2 h'
    have hne : x.c.id ≠ f.c.id := fun e => hn.1 (by rw [e]; exact List.mem_map_of_mem (f := fun f : Fd => f.c.id) (List.mem_of_getElem? h'))
    simp only [posF, if_neg hne, ih, Option.map_some]
theorem hist_at {F : List Fd} {k : Nat} {f : Fd} (hF : FdsOk F) (h : F[k]? = some f) : histX f.c.id F = f.h := by
  unfold histX
  rw [posF_nodup hF.2.2 h]
  simp only [h]
end Go.Proofs.Ytkkpmcomloekoaa
