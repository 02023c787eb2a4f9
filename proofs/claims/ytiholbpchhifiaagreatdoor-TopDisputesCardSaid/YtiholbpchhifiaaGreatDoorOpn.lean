/-
Arguments with lists inside lists, opened.
Conditions: none.
-/
import Derived.Test.YtiholbpchhifiaaGreatDoorLst
namespace Go.Vm
set_option linter.unusedSimpArgs false
set_option linter.unusedVariables false
theorem StR.as {α β : Type} {f : α → List Value} {g : β → List Value} {n : Nat} {A : AH} {p : Option Addr} {L : List α} {M : List β} (h : StR f n A p L) (e : M.map g = L.map f) : StR g n A p M := by
  have hlen : M.length = L.length := by have := congrArg List.length e; simpa using this
  rcases h with h | ⟨b, off, cs, ty, fr, h1, h2, h3⟩
  · exact .inl (List.eq_nil_of_length_eq_zero (by rw [hlen, h]; rfl))
  · refine .inr ⟨b, off, cs, ty, fr, h1, h2, fun i y hi => ?_⟩
    have hlt := (List.getElem?_eq_some_iff.1 hi).1
    have hx := List.getElem?_eq_getElem (show i < L.length by omega)
    have : (M.map g)[i]? = (L.map f)[i]? := by rw [e]
    rw [List.getElem?_map, List.getElem?_map, hi, hx] at this
    simp only [Option.map_some, Option.some.injEq] at this
    rw [this]
    exact h3 i _ hx
/-- Each element with what lies behind it. -/
theorem inner_all {α β : Type} {f : α → List Value} {g : β → List Value} {h : Heap} {In : AH → β → Prop} (mono : ∀ A B y, In A y → SubA A B → In B y) : ∀ {L : List α}, (∀ x ∈ L, ∃ (y : β) (A : AH), g y = f x ∧ Sat A h ∧ In A y) → ∃ (M : List β) (A : AH), M.map g = L.map f ∧ Sat A h ∧ ∀ y ∈ M, In A y
  | [], _ => ⟨[], [], rfl, Sat.nil h, fun y hy => by cases hy⟩
  | x :: L, H => by
    obtain ⟨y, A1, e1, s1, i1⟩ := H x (by simp)
    obtain ⟨M, A2, e2, s2, i2⟩ := inner_all mono (L := L) fun z hz => H z (by simp [hz])
    refine ⟨y :: M, A1 ++ A2, by simp [e1, e2], Sat.both s1 s2, fun z hz => ?_⟩
    rcases List.mem_cons.1 hz with e | e
    · rw [e]; exact mono _ _ _ i1 (SubA.left A1 A2)
    · exact mono _ _ _ (i2 z e) (sat_sub s1 s2)
theorem nest_fits {α β : Type} (f : α → List Value) (g : β → List Value) {n : Nat} {s : Sh} {h : Heap} {p0 : Option Addr} {len cap : Nat} {In : AH → β → Prop} (mono : ∀ A B y, In A y → SubA A B → In B y) (hn : 0 < n)
    (hd : ∀ es, es.length = n → Fits h s es → ∃ x, f x = es) (hi : ∀ x, Fits h s (f x) → ∃ (y : β) (A : AH), g y = f x ∧ Sat A h ∧ In A y) (hf : Fits h (.sl n s) [.slice p0 len cap]) :
    ∃ (M : List β) (A : AH), M.length = len ∧ len ≤ cap ∧ cap ≤ maxLen ∧ Sat A h ∧ StR g n A p0 M ∧ ∀ y ∈ M, In A y := by
  obtain ⟨p, cap', L, e, h1, h2, h3, A, hA, hL⟩ := list_fits f (v := .slice p0 len cap) hn hd hf (fun c hc => by cases hc)
  cases e
  obtain ⟨M, A2, e2, s2, i2⟩ := inner_all (f := f) (g := g) mono (L := L) fun x hx => hi x (h3 x hx)
  have hlen : M.length = L.length := by have := congrArg List.length e2; simpa using this
  exact ⟨M, A ++ A2, hlen, h1, h2, Sat.both hA s2, (hL.as e2).mono (SubA.left A A2), fun y hy => mono _ _ _ (i2 y hy) (sat_sub hA s2)⟩
end Go.Vm
namespace Go.Proofs.YtiholbpchhifiaaGreatDoor
open Go.Vm
set_option linter.unusedSimpArgs false
set_option linter.unusedVariables false
theorem callsH_of_pure {P : Program} {g : FuncId} {args : Array Value} {A : AH} {v : Value} (hv : valA P g args A = some v) (hc : callable P g = true) {h : Heap} (hs : Sat A h) : CallsH P g args h fun e h' => e = .returned v ∧ Grew h h' := by
  have := (valA_out hv).2 h hs
  unfold RunC at this
  rwa [if_pos hc] at this
theorem tx_fits {h : Heap} {p : Option Addr} {len cap : Nat} (hf : Fits h (.sl 1 .str) [.slice p len cap]) : ∃ (T : List Txt) (A : AH), T.length = len ∧ Sat A h ∧ TxR A p cap T := by
  obtain ⟨p', cap', L, e, h1, h2, h3, A, hA, hL⟩ := list_fits strC (v := .slice p len cap) (by decide) (fun es hl hf => by
    obtain ⟨s, rfl, _⟩ := hf
    exact ⟨s.data.toList, by rw [strC, ← bs_of]⟩) hf (fun c hc => by cases hc)
  cases e
  exact ⟨L, A, rfl, hA, hL, h1, by simpa only [maxLen] using h2⟩
end Go.Proofs.YtiholbpchhifiaaGreatDoor
