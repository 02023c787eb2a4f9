/-
Arguments that came in, with a bound for their texts and those behind slices.
Conditions: none. Generic: it speaks of no program.
-/
import Derived.Test.YtoonmogjjddeeaaDoorVmAF
import Derived.Test.YtoonmogjjddeeaaDoorVmAL
namespace Go.Vm
set_option linter.unusedSimpArgs false
set_option linter.unusedVariables false
mutual
/-- What cells of this shape are; the texts in them and behind their slices have at most so many bytes. -/
def FitsB (N : Nat) (h : Heap) : Sh → List Value → Prop
  | .int k, cs => ∃ n, cs = [.int k n] ∧ (Lit.int k n).wf = true
  | .bool, cs => ∃ b, cs = [.bool b]
  | .str, cs => ∃ s : ByteArray, cs = [.string s] ∧ s.size ≤ N
  | .st n l, cs => cs.length = n ∧ FitsBL N h l cs
  | .sl n s, cs => cs = [.slice none 0 0] ∨ ∃ (a : Addr) (len cap : Nat), cs = [.slice (some a) len cap] ∧ len ≤ cap ∧ cap ≤ maxLen ∧
      ∀ i, i < len → ∃ es, es.length = n ∧ (∀ j, j < n → cellH h ((a.add (i * n)).add j) = es[j]?) ∧ FitsB N h s es
def FitsBL (N : Nat) (h : Heap) : List (Nat × Nat × Sh) → List Value → Prop
  | [], _ => True
  | (o, n, s) :: l, cs => FitsB N h s ((cs.drop o).take n) ∧ FitsBL N h l cs
end
section
variable {H : Type} {enc : TypeId × Value → H} {P : Program} {w : World} {base : Nat} {sp : Nat → Bool} {held : Bool} {N : Nat}
theorem weights_all : ∀ (ds : List (DataW H)) (i : Nat) (e : TypeId) (d : DataW H), ds[i]? = some d → ∀ n ∈ d.weights P e, n ∈ DataW.weightsAll P e ds
  | [], _, _, _, h => by simp at h
  | d :: ds, 0, _, _, h1 => by
    simp at h1
    subst h1
    intro n hn
    simp [DataW.weightsAll, hn]
  | d :: ds, i + 1, _, _, h1 => by
    intro n hn
    have := weights_all ds i _ _ (by simpa using h1) n hn
    simp [DataW.weightsAll, this]
mutual
theorem fitsB_of (s : Sh) (t : TypeId) (fuel : Nat) (cs : List Value) (x : DataW H × List MemPlace) (hs : shOk P s t = true) (h : DataW.trod enc P w base sp held fuel t cs = some x) (hw : ∀ n ∈ x.1.weights P t, n ≤ N) : FitsB N w.heap s cs := by
  cases s with
  | int k =>
    simp only [shOk] at hs
    split at hs
    · rename_i k' ht
      have : k' = k := by simpa using hs
      subst this
      obtain ⟨n, h1, _, h2⟩ := DataW.trod_int ht h
      exact ⟨n, h1, h2⟩
    · cases hs
  | bool =>
    simp only [shOk] at hs
    split at hs
    · rename_i ht
      obtain ⟨b, h1, _⟩ := DataW.trod_bool ht h
      exact ⟨b, h1⟩
    · cases hs
  | str =>
    simp only [shOk] at hs
    split at hs
    · rename_i ht
      obtain ⟨b, h1, h3, h2⟩ := DataW.trod_string ht h
      subst h3
      refine ⟨b, h1, hw _ ?_⟩
      rw [DataW.weights, List.mem_singleton, Array.length_toList]
      rfl
    · cases hs
  | st n l =>
    simp only [shOk] at hs
    split at hs
    · rename_i fs ht
      simp only [Bool.and_eq_true, decide_eq_true_eq] at hs
      obtain ⟨xs, m, rfl, hx, h1, h2, h3⟩ := DataW.trod_struct ht h
      subst hx
      refine ⟨h1.trans hs.1, fitsBL_of l fs.toList m cs hs.2 fun f hf => ?_⟩
      obtain ⟨i, hi⟩ := List.getElem?_of_mem hf
      have hi' : fs[i]? = some f := by simpa using hi
      have := h3 i f hi'
      have hlt : i < xs.length := by rw [h2]; exact (Array.getElem?_eq_some_iff.1 hi').1
      refine ⟨xs[i], by rw [this, List.getElem?_eq_getElem hlt], fun n hn => hw n ?_⟩
      simp only [DataW.weights, ht]
      exact weights_each _ _ i f.type _ (by simp [hi']) (by simp [List.getElem?_eq_getElem hlt]) n hn
    · cases hs
  | sl n s =>
    simp only [shOk] at hs
    split at hs
    · rename_i e ht
      simp only [Bool.and_eq_true, decide_eq_true_eq] at hs
      obtain ⟨hn, hs⟩ := hs
      rcases DataW.trod_slice ht h with ⟨h0, _⟩ | ⟨a, len, cap, elems, rest, m, rfl, hcs, hx, _, h1, h2, h3, h4, _⟩
      · exact .inl h0
      · subst hx
        refine .inr ⟨a, len, cap, hcs, h1, h2, fun i hi => ?_⟩
        have h5 := h4 i hi
        rw [hn] at h5
        have hlt : i < elems.length := by omega
        rw [List.getElem?_eq_getElem hlt, Option.bind_eq_some_iff] at h5
        obtain ⟨es, h6, h7⟩ := h5
        obtain ⟨_, h8, h9⟩ := World.cells?_some h6
        refine ⟨es, h8, fun j hj => by rw [← h9 j hj]; rfl, fitsB_of s e m es _ hs h7 fun q hq => hw q ?_⟩
        simp only [DataW.weights, ht]
        refine List.mem_cons_of_mem _ (List.mem_append_left _ ?_)
        exact weights_all _ i e _ (by simp [List.getElem?_eq_getElem hlt]) q hq
    · cases hs
theorem fitsBL_of (l : List (Nat × Nat × Sh)) (fs : List Field) (m : Nat) (cs : List Value) (hs : shOkL P l fs = true)
    (h : ∀ f ∈ fs, ∃ x, DataW.trod enc P w base sp held m f.type ((cs.drop f.offset).take (P.cellsOf f.type)) = some x ∧ ∀ n ∈ x.1.weights P f.type, n ≤ N) : FitsBL N w.heap l cs := by
  cases l with
  | nil => trivial
  | cons p l =>
    obtain ⟨o, n, s⟩ := p
    cases fs with
    | nil => simp [shOkL] at hs
    | cons f fs =>
      simp only [shOkL, Bool.and_eq_true, decide_eq_true_eq] at hs
      obtain ⟨rfl, rfl, h1, h2⟩ := hs
      obtain ⟨x, hx, hw⟩ := h f (List.mem_cons_self ..)
      exact ⟨fitsB_of s f.type m _ x h1 hx hw, fitsBL_of l fs m cs h2 fun g hg => h g (List.mem_cons_of_mem _ hg)⟩
end
/-- An argument, the i-th, of a call whose arguments are within the form's reach. -/
theorem fitsB_trod (s : Sh) {t : TypeId} {v : Value} {d : DataW H} {ps : List MemPlace} {ts : List TypeId} {ds : List (DataW H)} {i : Nat} (hs : shOk P s t = true) (h : DataW.Trod enc P w base sp held t v d ps)
    (hw : (DataW.weightsEach P ts ds).all (· ≤ N) = true) (ht : ts[i]? = some t) (hd : ds[i]? = some d) : FitsB N w.heap s v.cells.toList :=
  let ⟨fuel, hf⟩ := h
  fitsB_of s t fuel _ _ hs hf fun n hn => by
    have := List.all_eq_true.1 hw n (weights_each ts ds i t d ht hd n hn)
    simpa using this
end
/-- A slice that came in: nothing to read, or a row whose elements' cells are told. -/
theorem slice_fitsB {N : Nat} {h : Heap} {n : Nat} {s : Sh} {v : Value} (hn : 0 < n) (hf : FitsB N h (.sl n s) v.cells.toList) (ha : ∀ c, v ≠ .agg c) :
    ∃ p len cap, v = .slice p len cap ∧ len ≤ cap ∧ cap ≤ maxLen ∧ (len = 0 ∨ ∃ b off c e fr, p = some ⟨b, off, none⟩ ∧ h[b]? = some (.cells c e fr) ∧
      ∀ i, i < len → ∃ es : List Value, es.length = n ∧ (∀ j, j < n → c[off + i * n + j]? = es[j]?) ∧ off + i * n + n ≤ c.size ∧ FitsB N h s es) := by
  have hv : ∀ x, v.cells.toList = [x] → v = x := by
    intro x hx
    cases v <;> simp [Value.cells] at hx <;> first | exact hx | exact absurd rfl (ha _)
  unfold FitsB at hf
  rcases hf with hf | ⟨a, len, cap, hf, h1, h2, h3⟩
  · exact ⟨none, 0, 0, hv _ hf, by omega, by simp [maxLen], .inl rfl⟩
  · refine ⟨some a, len, cap, hv _ hf, h1, h2, ?_⟩
    by_cases hl : len = 0
    · exact .inl hl
    obtain ⟨es, e1, e2, e3⟩ := h3 0 (by omega)
    have e4 := e2 0 hn
    rw [List.getElem?_eq_getElem (by omega)] at e4
    simp only [Nat.zero_mul] at e4
    have hz : ∀ (x : Addr), x.add 0 = x := by intro x; unfold Addr.add; simp
    rw [hz, hz] at e4
    obtain ⟨f1, c, e, fr, f2, f3⟩ := cell_at e4
    obtain ⟨b, off, spot⟩ := a
    simp only at f1 f2 f3
    subst f1
    have hadd : ∀ k : Nat, Addr.add ⟨b, off, none⟩ k = ⟨b, off + k, none⟩ := by intro k; simp [Addr.add]
    refine .inr ⟨b, off, c, e, fr, rfl, f2, fun i hi => ?_⟩
    obtain ⟨es, e1, e2, e3⟩ := h3 i hi
    have cell : ∀ j, j < n → c[off + i * n + j]? = es[j]? := by
      intro j hj
      have := e2 j hj
      rw [hadd, show Addr.add ⟨b, off + i * n, none⟩ j = ⟨b, off + i * n + j, none⟩ by simp [Addr.add]] at this
      rw [← this]
      simp [cellH, f2]
    refine ⟨es, e1, cell, ?_, e3⟩
    have := cell (n - 1) (by omega)
    rw [List.getElem?_eq_getElem (by omega)] at this
    have := (Array.getElem?_eq_some_iff.1 this).1
    omega
theorem list_fitsB {N : Nat} {α : Type} (f : α → List Value) {n : Nat} {s : Sh} {h : Heap} {v : Value} (hn : 0 < n) (hd : ∀ es, es.length = n → FitsB N h s es → ∃ x, f x = es) (hf : FitsB N h (.sl n s) v.cells.toList) (ha : ∀ c, v ≠ .agg c) :
    ∃ p cap, ∃ L : List α, v = .slice p L.length cap ∧ L.length ≤ cap ∧ cap ≤ maxLen ∧ (∀ x ∈ L, FitsB N h s (f x)) ∧ ∃ A, Sat A h ∧ StR f n A p L := by
  obtain ⟨p, len, cap, rfl, h1, h2, h3⟩ := slice_fitsB hn hf ha
  rcases h3 with h3 | ⟨b, off, c, e, fr, rfl, hb, h4⟩
  · subst h3
    exact ⟨p, cap, [], rfl, by simp, h2, (fun x hx => by cases hx), [], Sat.nil h, .inl rfl⟩
  · obtain ⟨L, l1, l2⟩ := list_of (fun i x => rdCS (some (.cells c e fr)) (off + i * n) n = some (f x).toArray ∧ FitsB N h s (f x)) len (fun i hi => by
      obtain ⟨es, e1, e2, e3, e4⟩ := h4 i hi
      obtain ⟨x, rfl⟩ := hd es e1 e4
      refine ⟨x, ?_, e4⟩
      unfold rdCS
      simp only
      rw [if_pos e3]
      congr 1
      apply Array.ext'
      apply List.ext_getElem?
      intro j
      simp only [Array.toList_extract, List.extract_eq_take_drop]
      rw [List.getElem?_take]
      split
      · rename_i hj
        have := e2 j (by omega)
        rw [List.getElem?_drop]
        simpa using this
      · rename_i hj
        rw [List.getElem?_eq_none (by omega)])
    subst l1
    refine ⟨_, cap, L, rfl, h1, h2, fun x hx => ?_, [(b, .cells c e fr)], fun b' o hl => ?_, .inr ⟨b, off, c, e, fr, rfl, by simp [look], fun i a hi => (l2 i a hi).1⟩⟩
    · obtain ⟨i, hi⟩ := List.getElem?_of_mem hx
      exact (l2 i x hi).2
    · simp only [look] at hl
      split at hl
      · rename_i e1; subst e1; cases hl; exact hb
      · cases hl
end Go.Vm
