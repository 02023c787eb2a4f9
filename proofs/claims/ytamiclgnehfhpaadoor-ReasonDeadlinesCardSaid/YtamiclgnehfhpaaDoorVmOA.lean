/-
Opening an array of integers that came in.
Conditions: none. Generic: it speaks of no program.
-/
import Derived.OpenShut
import Derived.WideShapes
import Derived.Test.YtamiclgnehfhpaaDoorVmOpen
namespace Go.Vm
set_option linter.unusedSimpArgs false
set_option linter.unusedVariables false
def FitsArr (k : IntKind) (n : Nat) (cs : List Value) : Prop := ∃ ns : List Int, ns.length = n ∧ cs = ns.map (Value.int k) ∧ ∀ m ∈ ns, (Lit.int k m).wf = true
theorem okWide_array {P : Program} {w : World} {r : Reach} {base : Nat} {t e : TypeId} {n : Nat} {v : Value} (ht : P.underlying t = some (.array n e)) (h : Value.okWide P w r base t v) : ∃ cs, v = .agg cs := by
  simp only [Value.okWide, ht] at h
  obtain ⟨cs, h1, h2, _⟩ := h
  exact ⟨cs, h1⟩
theorem ints_of {k : IntKind} : ∀ (cs : List Value), (∀ i, i < cs.length → ∃ m, cs[i]? = some (.int k m) ∧ (Lit.int k m).wf = true) → ∃ ns : List Int, ns.length = cs.length ∧ cs = ns.map (Value.int k) ∧ ∀ m ∈ ns, (Lit.int k m).wf = true
  | [], _ => ⟨[], rfl, rfl, fun m hm => by cases hm⟩
  | c :: cs, h => by
    obtain ⟨m, h1, h2⟩ := h 0 (by simp)
    simp at h1
    obtain ⟨ns, e1, e2, e3⟩ := ints_of cs fun i hi => by
      obtain ⟨m, q1, q2⟩ := h (i + 1) (by simpa using hi)
      exact ⟨m, by simpa using q1, q2⟩
    refine ⟨m :: ns, by simp [e1], by rw [h1, e2]; simp, fun z hz => ?_⟩
    rcases List.mem_cons.1 hz with e | e
    · rw [e]; exact h2
    · exact e3 z e
theorem fitsArr_trod {H : Type} {enc : TypeId × Value → H} {P : Program} {w : World} {base : Nat} {sp : Nat → Bool} {held : Bool} {t e : TypeId} {n : Nat} {k : IntKind} {v : Value} {d : DataW H} {ps : List MemPlace}
    (ht : P.underlying t = some (.array n e)) (he : P.underlying e = some (.int k)) (hc : P.cellsOf e = 1) (hn : P.cellsOf t = n) (h : DataW.Trod enc P w base sp held t v d ps) : FitsArr k n v.cells.toList := by
  obtain ⟨fuel, hf⟩ := h
  obtain ⟨xs, m, rfl, _, h1, h2, h3⟩ := DataW.trod_array ht hf
  rw [hn] at h1
  obtain ⟨ns, e1, e2, e3⟩ := ints_of (k := k) v.cells.toList fun i hi => by
    have h4 := h3 i (by omega)
    rw [hc, Nat.mul_one] at h4
    have hlt : i < xs.length := by omega
    rw [List.getElem?_eq_getElem hlt] at h4
    obtain ⟨z, q1, _, q2⟩ := DataW.trod_int he h4
    refine ⟨z, ?_, q2⟩
    have := congrArg (fun l => l[0]?) q1
    simpa using this
  exact ⟨ns, e1.trans h1, e2, e3⟩
end Go.Vm
