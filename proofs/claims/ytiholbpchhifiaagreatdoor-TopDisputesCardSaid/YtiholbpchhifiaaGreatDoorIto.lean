/-
Numbers in decimal: strconv.Itoa over known blocks, strings.Repeat of a zero, and numbers of a width.
Conditions: none.
-/
import Derived.Test.YtiholbpchhifiaaGreatDoorBs
import Derived.Test.YtiholbpchhifiaaGreatDoorTy
import Derived.Test.YtiholbpchhifiaaGreatDoorShelf
namespace Go.Proofs.YtiholbpchhifiaaGreatDoor
open Go.Vm
set_option linter.unusedSimpArgs false
set_option linter.unusedVariables false
set_option maxHeartbeats 1000000
set_option maxRecDepth 20000
/-- The library's table of powers lies where its variable lies. -/
def TabA (A : AH) : Prop := ∃ (g : Nat) (e : TypeId) (fr : Nat × Nat), Tryz.prog.globalNamed "internal/strconv.uint64pow10" = some g ∧ Vm.look A g = some (.cells (Lib.pow10Tab.map fun z => Value.int .u64 z).toArray e fr)
theorem TabA.mono {A B : AH} (h : TabA A) (hs : SubA A B) : TabA B := by
  obtain ⟨g, e, fr, h1, h2⟩ := h
  exact ⟨g, e, fr, h1, hs _ _ h2⟩
theorem TabA.of {w : World} (h : Lib.TabIs Tryz.prog w "internal/strconv.uint64pow10" .u64 Lib.pow10Tab) : ∃ A, Sat A w.heap ∧ TabA A := by
  unfold Lib.TabIs World.var? at h
  cases hg : Tryz.prog.globalNamed "internal/strconv.uint64pow10" with
  | none => rw [hg] at h; cases h
  | some g =>
    rw [hg] at h
    simp only [Option.bind_some] at h
    split at h
    · rename_i cs e fr hb
      cases h
      exact ⟨[(g, .cells _ e fr)], (fun b o hl => by
        simp only [Vm.look] at hl
        split at hl
        · rename_i e1; subst e1; cases hl; exact hb
        · cases hl), g, e, fr, hg, by simp [Vm.look]⟩
    · cases h
theorem itoa_w (A : AH) (hT : TabA A) (n : Int) (h0 : -9223372036854775808 ≤ n) (h1 : n ≤ 9223372036854775807) (B : AH) (hB : SubA A B) : valA Tryz.prog 53 #[.int .i64 n] B = some (.string (bs (Lib.itoa n))) :=
  valA_eq ⟨fun _ => by kernel_rfl, fun h hs => by
    unfold RunC
    rw [if_pos (by kernel_rfl)]
    intro w hw
    subst hw
    have ht : Lib.TabIs Tryz.prog w "internal/strconv.uint64pow10" .u64 Lib.pow10Tab := by
      obtain ⟨g, e, fr, hg, hl⟩ := hT
      have := hs _ _ (hB _ _ hl)
      unfold Lib.TabIs World.var?
      rw [hg]
      simp [this]
    refine (Tryz.strconv_Itoa n h0 h1 w ht).mono fun e w' ⟨he, k, os, hw'⟩ => ?_
    subst hw'
    exact ⟨⟨he, ⟨by simp [Go.Sort.grow, World.drewN], fun j hj => by simp only [Go.Sort.grow, World.drewN]; exact Array.getElem?_append_left hj⟩⟩, rfl, rfl, rfl⟩⟩
theorem calls_below {P : Program} {f : FuncId} {args : Array Value} {v : Value} (hc : ∀ w, Calls P f args w fun e w' => e = .returned v ∧ RowKit.Below w.heap.size w w') (h : Heap) : CallsH P f args h fun e h' => e = .returned v ∧ Grew h h' := fun w hw => by
  subst hw
  exact (hc w).mono fun e w' ⟨h1, h2⟩ => ⟨⟨h1, ⟨h2.size, h2.block⟩⟩, ⟨h2.os, h2.tape, h2.output⟩⟩
end Go.Proofs.YtiholbpchhifiaaGreatDoor
