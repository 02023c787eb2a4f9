/-
Maps keyed by texts, as lists: looking up, updating, deleting.
Conditions: none.
-/
import Derived.Test.YtiholbpchhifiaaGreatDoorVmAM
import Derived.Test.YtiholbpchhifiaaGreatDoorBs
namespace Go.Proofs.YtiholbpchhifiaaGreatDoor
open Go.Vm
set_option linter.unusedSimpArgs false
set_option linter.unusedVariables false
set_option maxRecDepth 20000
theorem lookM_nil (s : ByteArray) : lookM [] s = none := rfl
theorem lookM_cons (k : ByteArray) (v : Value) (m : SMap) (s : ByteArray) : lookM ((k, v) :: m) s = if s = k then some v else lookM m s := by
  unfold lookM
  simp only [posM]
  by_cases h : s = k
  · rw [if_pos h, if_pos h]; rfl
  · rw [if_neg h, if_neg h]; cases posM m s <;> rfl
theorem updM_nil (s : ByteArray) (v : Value) : updM [] s v = [(s, v)] := rfl
theorem updM_cons (k : ByteArray) (u : Value) (m : SMap) (s : ByteArray) (v : Value) : updM ((k, u) :: m) s v = if s = k then (s, v) :: m else (k, u) :: updM m s v := by
  unfold updM
  simp only [posM]
  by_cases h : s = k
  · rw [if_pos h, if_pos h]; rfl
  · rw [if_neg h, if_neg h]; cases posM m s <;> rfl
theorem delM_nil (s : ByteArray) : delM [] s = [] := rfl
theorem delM_cons (k : ByteArray) (u : Value) (m : SMap) (s : ByteArray) : delM ((k, u) :: m) s = if s = k then m else (k, u) :: delM m s := by
  unfold delM
  simp only [posM]
  by_cases h : s = k
  · rw [if_pos h, if_pos h]; rfl
  · rw [if_neg h, if_neg h]; cases posM m s <;> rfl
/-- No key stands twice. -/
def KeysN (m : SMap) : Prop := (m.map Prod.fst).Nodup
theorem lookM_none {m : SMap} {s : ByteArray} (h : s ∉ m.map Prod.fst) : lookM m s = none := by
  induction m with
  | nil => rfl
  | cons p m ih =>
    obtain ⟨k, u⟩ := p
    rw [lookM_cons, if_neg (fun e => h (by simp [e])), ih (fun hm => h (by simp only [List.map_cons, List.mem_cons]; exact .inr hm))]
theorem lookM_upd (m : SMap) (s t : ByteArray) (v : Value) : lookM (updM m s v) t = if t = s then some v else lookM m t := by
  induction m with
  | nil => rw [updM_nil, lookM_cons]
  | cons p m ih =>
    obtain ⟨k, u⟩ := p
    rw [updM_cons]
    by_cases h : s = k
    · subst h; rw [if_pos rfl, lookM_cons, lookM_cons]; split <;> rfl
    · rw [if_neg h, lookM_cons, lookM_cons, ih]
      by_cases h1 : t = k
      · rw [if_pos h1, if_pos h1, if_neg (fun e => h (by rw [← e, h1]))]
      · rw [if_neg h1, if_neg h1]
theorem mem_upd {m : SMap} {s t : ByteArray} {v : Value} (h : t ∈ (updM m s v).map Prod.fst) : t = s ∨ t ∈ m.map Prod.fst := by
  induction m with
  | nil => rw [updM_nil] at h; simp at h; exact .inl h
  | cons p m ih =>
    obtain ⟨k, u⟩ := p
    rw [updM_cons] at h
    by_cases hs : s = k
    · rw [if_pos hs] at h
      simp only [List.map_cons, List.mem_cons] at h ⊢
      rcases h with h | h
      · exact .inl h
      · exact .inr (.inr h)
    · rw [if_neg hs] at h
      simp only [List.map_cons, List.mem_cons] at h ⊢
      rcases h with h | h
      · exact .inr (.inl h)
      · rcases ih h with h | h
        · exact .inl h
        · exact .inr (.inr h)
theorem KeysN.upd {m : SMap} (h : KeysN m) (s : ByteArray) (v : Value) : KeysN (updM m s v) := by
  unfold KeysN at *
  induction m with
  | nil => rw [updM_nil]; simp
  | cons p m ih =>
    obtain ⟨k, u⟩ := p
    simp only [List.map_cons, List.nodup_cons] at h
    rw [updM_cons]
    by_cases hs : s = k
    · subst hs; rw [if_pos rfl]; simpa using h
    · rw [if_neg hs]
      simp only [List.map_cons, List.nodup_cons]
      refine ⟨fun hm => ?_, ih h.2⟩
      rcases mem_upd hm with e | e
      · exact hs e.symm
      · exact h.1 e
theorem mem_del {m : SMap} {s t : ByteArray} (h : t ∈ (delM m s).map Prod.fst) : t ∈ m.map Prod.fst := by
  induction m with
  | nil => exact h
  | cons p m ih =>
    obtain ⟨k, u⟩ := p
    rw [delM_cons] at h
    by_cases hs : s = k
    · rw [if_pos hs] at h; simp only [List.map_cons, List.mem_cons]; exact .inr h
    · rw [if_neg hs] at h
      simp only [List.map_cons, List.mem_cons] at h ⊢
      exact h.imp id ih
theorem KeysN.del {m : SMap} (h : KeysN m) (s : ByteArray) : KeysN (delM m s) := by
  unfold KeysN at *
  induction m with
  | nil => exact h
  | cons p m ih =>
    obtain ⟨k, u⟩ := p
    simp only [List.map_cons, List.nodup_cons] at h
    rw [delM_cons]
    by_cases hs : s = k
    · rw [if_pos hs]; exact h.2
    · rw [if_neg hs]
      simp only [List.map_cons, List.nodup_cons]
      exact ⟨fun hm => h.1 (mem_del hm), ih h.2⟩
theorem lookM_del {m : SMap} (h : KeysN m) (s t : ByteArray) : lookM (delM m s) t = if t = s then none else lookM m t := by
  unfold KeysN at h
  induction m with
  | nil => rw [delM_nil, lookM_nil]; split <;> rfl
  | cons p m ih =>
    obtain ⟨k, u⟩ := p
    simp only [List.map_cons, List.nodup_cons] at h
    rw [delM_cons]
    by_cases hs : s = k
    · subst hs
      rw [if_pos rfl, lookM_cons]
      by_cases ht : t = s
      · subst ht; rw [if_pos rfl, lookM_none h.1]
      · rw [if_neg ht, if_neg ht]
    · rw [if_neg hs, lookM_cons, lookM_cons, ih h.2]
      by_cases ht : t = k
      · rw [if_pos ht, if_pos ht, if_neg (fun e => hs (by rw [← e, ht]))]
      · rw [if_neg ht, if_neg ht]
end Go.Proofs.YtiholbpchhifiaaGreatDoor
