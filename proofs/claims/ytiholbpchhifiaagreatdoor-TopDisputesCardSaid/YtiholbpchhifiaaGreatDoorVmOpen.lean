/-
Opening what came in: from the reading of an argument to what its cells hold: integers, bools, strings, structs and slices of these.
Conditions: none. Generic: it speaks of no program.
-/
import Derived.ChangeArms
import Derived.DataReads
import Derived.Test.YtiholbpchhifiaaGreatDoorVmRules
namespace Go.Vm
set_option linter.unusedSimpArgs false
set_option linter.unusedVariables false

/-- The shape of plain data: what a reading needs to be taken apart. -/
inductive Sh where
  | int (k : IntKind)
  | bool
  | str
  | st (n : Nat) (fs : List (Nat × Nat × Sh))
  | sl (n : Nat) (s : Sh)
mutual
/-- Does a type have this shape? closed. -/
def shOk (P : Program) : Sh → TypeId → Bool
  | .int k, t => match P.underlying t with | some (.int k') => decide (k' = k) | _ => false
  | .bool, t => match P.underlying t with | some .bool => true | _ => false
  | .str, t => match P.underlying t with | some .string => true | _ => false
  | .st n l, t => match P.underlying t with | some (.struct fs) => decide (P.cellsOf t = n) && shOkL P l fs.toList | _ => false
  | .sl n s, t => match P.underlying t with | some (.slice e) => decide (P.cellsOf e = n) && shOk P s e | _ => false
def shOkL (P : Program) : List (Nat × Nat × Sh) → List Field → Bool
  | [], [] => true
  | (o, n, s) :: l, f :: fs => decide (f.offset = o) && (decide (P.cellsOf f.type = n) && (shOk P s f.type && shOkL P l fs))
  | _, _ => false
end
mutual
/-- What cells of this shape are. -/
def Fits (h : Heap) : Sh → List Value → Prop
  | .int k, cs => ∃ n, cs = [.int k n] ∧ (Lit.int k n).wf = true
  | .bool, cs => ∃ b, cs = [.bool b]
  | .str, cs => ∃ s : ByteArray, cs = [.string s] ∧ s.size ≤ maxLen
  | .st n l, cs => cs.length = n ∧ FitsL h l cs
  | .sl n s, cs => cs = [.slice none 0 0] ∨ ∃ (a : Addr) (len cap : Nat), cs = [.slice (some a) len cap] ∧ len ≤ cap ∧ cap ≤ maxLen ∧
      ∀ i, i < len → ∃ es, es.length = n ∧ (∀ j, j < n → cellH h ((a.add (i * n)).add j) = es[j]?) ∧ Fits h s es
def FitsL (h : Heap) : List (Nat × Nat × Sh) → List Value → Prop
  | [], _ => True
  | (o, n, s) :: l, cs => Fits h s ((cs.drop o).take n) ∧ FitsL h l cs
end
section
variable {H : Type} {enc : TypeId × Value → H} {P : Program} {w : World} {base : Nat} {sp : Nat → Bool} {held : Bool}
mutual
theorem fits_of (s : Sh) (t : TypeId) (fuel : Nat) (cs : List Value) (x : DataW H × List MemPlace) (hs : shOk P s t = true) (h : DataW.trod enc P w base sp held fuel t cs = some x) : Fits w.heap s cs := by
  cases s with
  | int k =>
    simp only [shOk] at hs
    split at hs
    · rename_i k' ht
      have : k' = k := by simpa using hs
      subst this
      obtain ⟨n, h1, _, h2⟩ := DataW.trod_int ht h
      exact ⟨n, h1, h2⟩
    · cases hs
  | bool =>
    simp only [shOk] at hs
    split at hs
    · rename_i ht
      obtain ⟨b, h1, _⟩ := DataW.trod_bool ht h
      exact ⟨b, h1⟩
    · cases hs
  | str =>
    simp only [shOk] at hs
    split at hs
    · rename_i ht
      obtain ⟨b, h1, _, h2⟩ := DataW.trod_string ht h
      exact ⟨b, h1, h2⟩
    · cases hs
  | st n l =>
    simp only [shOk] at hs
    split at hs
    · rename_i fs ht
      simp only [Bool.and_eq_true, decide_eq_true_eq] at hs
      obtain ⟨xs, m, rfl, _, h1, h2, h3⟩ := DataW.trod_struct ht h
      refine ⟨h1.trans hs.1, fitsL_of l fs.toList m cs hs.2 fun f hf => ?_⟩
      obtain ⟨i, hi⟩ := List.getElem?_of_mem hf
      have hi' : fs[i]? = some f := by simpa using hi
      have := h3 i f hi'
      have hlt : i < xs.length := by rw [h2]; exact (Array.getElem?_eq_some_iff.1 hi').1
      exact ⟨xs[i], by rw [this, List.getElem?_eq_getElem hlt]⟩
    · cases hs
  | sl n s =>
    simp only [shOk] at hs
    split at hs
    · rename_i e ht
      simp only [Bool.and_eq_true, decide_eq_true_eq] at hs
      obtain ⟨hn, hs⟩ := hs
      rcases DataW.trod_slice ht h with ⟨h0, _⟩ | ⟨a, len, cap, elems, rest, m, rfl, hcs, _, _, h1, h2, h3, h4, _⟩
      · exact .inl h0
      · refine .inr ⟨a, len, cap, hcs, h1, h2, fun i hi => ?_⟩
        have h5 := h4 i hi
        rw [hn] at h5
        have hlt : i < elems.length := by omega
        rw [List.getElem?_eq_getElem hlt, Option.bind_eq_some_iff] at h5
        obtain ⟨es, h6, h7⟩ := h5
        obtain ⟨_, h8, h9⟩ := World.cells?_some h6
        exact ⟨es, h8, fun j hj => by rw [← h9 j hj]; rfl, fits_of s e m es _ hs h7⟩
    · cases hs
theorem fitsL_of (l : List (Nat × Nat × Sh)) (fs : List Field) (m : Nat) (cs : List Value) (hs : shOkL P l fs = true)
    (h : ∀ f ∈ fs, ∃ x, DataW.trod enc P w base sp held m f.type ((cs.drop f.offset).take (P.cellsOf f.type)) = some x) : FitsL w.heap l cs := by
  cases l with
  | nil => trivial
  | cons p l =>
    obtain ⟨o, n, s⟩ := p
    cases fs with
    | nil => simp [shOkL] at hs
    | cons f fs =>
      simp only [shOkL, Bool.and_eq_true, decide_eq_true_eq] at hs
      obtain ⟨rfl, rfl, h1, h2⟩ := hs
      obtain ⟨x, hx⟩ := h f (List.mem_cons_self ..)
      exact ⟨fits_of s f.type m _ x h1 hx, fitsL_of l fs m cs h2 fun g hg => h g (List.mem_cons_of_mem _ hg)⟩
end
theorem fits_trod (s : Sh) {t : TypeId} {v : Value} {d : DataW H} {ps : List MemPlace} (hs : shOk P s t = true) (h : DataW.Trod enc P w base sp held t v d ps) : Fits w.heap s v.cells.toList :=
  let ⟨fuel, hf⟩ := h
  fits_of s t fuel _ _ hs hf
end
/-- A cell's address, once one is known to hold something. -/
theorem cell_at {h : Heap} {a : Addr} {v : Value} (hc : cellH h a = some v) : a.spot = none ∧ ∃ c e fr, h[a.block]? = some (.cells c e fr) ∧ c[a.off]? = some v := by
  unfold cellH at hc
  split at hc
  · rename_i c e fr hb
    split at hc
    · cases hc
    · rename_i hs
      exact ⟨by simpa using hs, c, e, fr, hb, hc⟩
  · cases hc
/-- A slice that came in: nothing to read, or a row whose elements' cells are told. -/
theorem slice_fits {h : Heap} {n : Nat} {s : Sh} {v : Value} (hn : 0 < n) (hf : Fits h (.sl n s) v.cells.toList) (ha : ∀ c, v ≠ .agg c) :
    ∃ p len cap, v = .slice p len cap ∧ len ≤ cap ∧ cap ≤ maxLen ∧ (len = 0 ∨ ∃ b off c e fr, p = some ⟨b, off, none⟩ ∧ h[b]? = some (.cells c e fr) ∧
      ∀ i, i < len → ∃ es : List Value, es.length = n ∧ (∀ j, j < n → c[off + i * n + j]? = es[j]?) ∧ off + i * n + n ≤ c.size ∧ Fits h s es) := by
  have hv : ∀ x, v.cells.toList = [x] → v = x := by
    intro x hx
    cases v <;> simp [Value.cells] at hx <;> first | exact hx | exact absurd rfl (ha _)
  unfold Fits at hf
  rcases hf with hf | ⟨a, len, cap, hf, h1, h2, h3⟩
  · exact ⟨none, 0, 0, hv _ hf, by omega, by simp [maxLen], .inl rfl⟩
  · refine ⟨some a, len, cap, hv _ hf, h1, h2, ?_⟩
    by_cases hl : len = 0
    · exact .inl hl
    obtain ⟨es, e1, e2, e3⟩ := h3 0 (by omega)
    have e4 := e2 0 hn
    rw [List.getElem?_eq_getElem (by omega)] at e4
    simp only [Nat.zero_mul] at e4
    have hz : ∀ (x : Addr), x.add 0 = x := by intro x; unfold Addr.add; simp
    rw [hz, hz] at e4
    obtain ⟨f1, c, e, fr, f2, f3⟩ := cell_at e4
    obtain ⟨b, off, spot⟩ := a
    simp only at f1 f2 f3
    subst f1
    have hadd : ∀ k : Nat, Addr.add ⟨b, off, none⟩ k = ⟨b, off + k, none⟩ := by intro k; simp [Addr.add]
    refine .inr ⟨b, off, c, e, fr, rfl, f2, fun i hi => ?_⟩
    obtain ⟨es, e1, e2, e3⟩ := h3 i hi
    have cell : ∀ j, j < n → c[off + i * n + j]? = es[j]? := by
      intro j hj
      have := e2 j hj
      rw [hadd, show Addr.add ⟨b, off + i * n, none⟩ j = ⟨b, off + i * n + j, none⟩ by simp [Addr.add]] at this
      rw [← this]
      simp [cellH, f2]
    refine ⟨es, e1, cell, ?_, e3⟩
    have := cell (n - 1) (by omega)
    rw [List.getElem?_eq_getElem (by omega)] at this
    have := (Array.getElem?_eq_some_iff.1 this).1
    omega
end Go.Vm
