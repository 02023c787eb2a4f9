/-
TopDisputes: the walk.
Conditions: none.
-/
import Derived.Test.YtiholbpchhifiaaGreatDoorTpl
import Derived.Test.YtiholbpchhifiaaGreatDoorOpn
namespace Go.Proofs.YtiholbpchhifiaaGreatDoor
open Go.Vm
set_option linter.unusedSimpArgs false
set_option linter.unusedVariables false
set_option maxHeartbeats 4000000
set_option maxRecDepth 20000
theorem wf_u8n {n : Int} (h : (Lit.int .u8 n).wf = true) : ∃ k : Nat, n = (k : Int) ∧ k ≤ 255 := by
  simp [Lit.wf, IntKind.min, IntKind.max, IntKind.bits, IntKind.signed] at h
  exact ⟨n.toNat, by omega, by omega⟩
theorem decM {h : Heap} (es : List Value) (hl : es.length = 3) (w : Fits h (.st 3 [(0, 1, .int .u8), (1, 1, .int .u8), (2, 1, .bool)]) es) : ∃ x : Mv, mvC x = es ∧ x.ev ≤ 255 ∧ x.dy ≤ 255 := by
  simp only [Fits, FitsL] at w
  obtain ⟨hl, w⟩ := w
  match es, hl with
  | [x0, x1, x2], _ =>
    simp only [List.drop_succ_cons, List.drop_zero, List.take_succ_cons, List.take_zero, List.cons.injEq, and_true, List.length_cons, List.length_nil, true_and] at w
    obtain ⟨⟨a, rfl, ha⟩, ⟨b, rfl, hb⟩, ⟨c, rfl⟩⟩ := w
    obtain ⟨a, rfl, ha2⟩ := wf_u8n ha
    obtain ⟨b, rfl, hb2⟩ := wf_u8n hb
    exact ⟨⟨a, b, c⟩, rfl, ha2, hb2⟩
theorem mvC_inj {x y : Mv} (h : mvC x = mvC y) : x = y := by
  cases x; cases y
  simp [mvC] at h
  obtain ⟨h1, h2, h3⟩ := h
  simp only [Mv.mk.injEq]
  exact ⟨by omega, by omega, h3⟩
theorem top_walk (w : World) (ht : Lib.TabIs Tryz.prog w "internal/strconv.uint64pow10" .u64 Lib.pow10Tab) (a : Int) (wa : (Lit.int .i64 a).wf = true) (a1 : Option Addr) (len1 cap1 : Nat) (w1 : Vm.Fits w.heap (.sl 3 (.st 3 [(0, 1, .int .u8), (1, 1, .int .u8), (2, 1, .bool)])) [.slice a1 len1 cap1]) (is : Bool) :
    CallsH Tryz.prog 3 #[.int .i64 a, .slice a1 len1 cap1, .bool is] w.heap fun e h' => e = .returned (.bool true) ∧ Grew w.heap h' := by
  obtain ⟨B, hB, hT⟩ := TabA.of ht
  obtain ⟨p, cap, L, e1, _, _, hx, A, hA, hL⟩ := list_fits mvC (v := .slice a1 len1 cap1) (by decide) (fun es hl hf => (decM es hl hf).imp fun x h => h.1) w1 (by intro c hc; cases hc)
  cases e1
  exact callsH_of_pure (topLaw_v (A ++ B) (hT.mono (sat_sub hA hB)) a L _ _ (hL.mono (SubA.left _ _)) (fun m hm => by
    obtain ⟨x, h1, h2, h3⟩ := decM _ (mvC_len m) (hx m hm)
    rw [← mvC_inj h1]
    exact ⟨h2, h3⟩) is) (by kernel_rfl) (hA.both hB)
end Go.Proofs.YtiholbpchhifiaaGreatDoor
