/-
Tokens: the walk of TokenOnce, from arguments as they come in.
Conditions: none.
-/
import Derived.Test.YtoonmogjjddeeaaDoorTokO
import Derived.Test.YtoonmogjjddeeaaDoorTokZ
namespace Go.Proofs.YtoonmogjjddeeaaDoor
open Go.Vm
set_option linter.unusedSimpArgs false
set_option linter.unusedVariables false
set_option maxHeartbeats 2000000
set_option maxRecDepth 20000
theorem decU {h : Heap} (es : List Value) (hl : es.length = 1) (hf : Fits h (.int .u16) es) : ∃ x, u16C x = es := by
  unfold Fits at hf
  obtain ⟨n, rfl, hw⟩ := hf
  obtain ⟨a, rfl, _⟩ := wf_u16 hw
  exact ⟨a, rfl⟩
theorem bndU {h : Heap} {x : Nat} (hf : Fits h (.int .u16) (u16C x)) : x ≤ 65535 := by
  unfold Fits at hf
  obtain ⟨n, e, hw⟩ := hf
  obtain ⟨a, rfl, ha⟩ := wf_u16 hw
  simp [u16C] at e
  omega
theorem wf_u8 {n : Int} (h : (Lit.int .u8 n).wf = true) : ∃ c : UInt8, n = (c.toNat : Int) := by
  simp [Lit.wf, IntKind.min, IntKind.max, IntKind.bits, IntKind.signed] at h
  refine ⟨UInt8.ofNat n.toNat, ?_⟩
  rw [UInt8.toNat_ofNat']
  omega
theorem once_walk (w : World) (ht : Lib.TabIs Tryd.prog w "internal/strconv.uint64pow10" .u64 Lib.pow10Tab) (a0 : Option Addr) (len0 cap0 : Nat) (w0 : Vm.Fits w.heap (.sl 1 (.int .u16)) [.slice a0 len0 cap0]) (pr : Int) (wp : (Lit.int .u8 pr).wf = true) :
    CallsH Tryd.prog 4 #[.slice a0 len0 cap0, .int .u8 pr] w.heap fun e h' => e = .returned (.bool true) ∧ Grew w.heap h' := by
  obtain ⟨B, hB, hT⟩ := TabA.of ht
  obtain ⟨c, rfl⟩ := wf_u8 wp
  obtain ⟨p, cap, L, e1, hl1, hl2, hb, A, hA, hL⟩ := list_fits u16C (v := .slice a0 len0 cap0) (by decide) decU w0 (by intro c hc; cases hc)
  cases e1
  have hm : cap0 ≤ 9223372036854775807 := by simpa only [maxLen] using hl2
  exact callsH_of_pure (onceLaw_v (A ++ B) (hT.mono (sat_sub hA hB)) L (fun n hn => bndU (hb n hn)) _ _ (hL.mono (SubA.left _ _)) (by omega) c) (by kernel_rfl) (hA.both hB)
end Go.Proofs.YtoonmogjjddeeaaDoor
