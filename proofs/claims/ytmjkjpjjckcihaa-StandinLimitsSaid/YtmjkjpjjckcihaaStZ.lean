/-
Stand-in: the walk of StandinLimits, from arguments as they come in.
Conditions: none.
-/
import Derived.Test.YtmjkjpjjckcihaaStY
import Derived.Test.YtmjkjpjjckcihaaStG
namespace Go.Proofs.Ytmjkjpjjckcihaa
open Go.Vm
set_option linter.unusedSimpArgs false
set_option linter.unusedVariables false
set_option maxHeartbeats 2000000
set_option maxRecDepth 20000
theorem wf_u8m {n : Int} (h : (Lit.int .u8 n).wf = true) : ∃ k : Nat, n = (k : Int) ∧ k ≤ 255 := by
  simp [Lit.wf, IntKind.min, IntKind.max, IntKind.bits, IntKind.signed] at h
  exact ⟨n.toNat, by omega, by omega⟩
theorem wf_u16m {n : Int} (h : (Lit.int .u16 n).wf = true) : ∃ k : Nat, n = (k : Int) ∧ k ≤ 65535 := by
  simp [Lit.wf, IntKind.min, IntKind.max, IntKind.bits, IntKind.signed] at h
  exact ⟨n.toNat, by omega, by omega⟩
theorem decBuy {h : Heap} (es : List Value) (hl : es.length = 5) (hf : Fits h (.st 5 [(0, 1, .int .u8), (1, 1, .int .u8), (2, 1, .int .u8), (3, 1, .int .u16), (4, 1, .bool)]) es) : ∃ x, buyC x = es ∧ BuyOk x := by
  simp only [Fits, FitsL] at hf
  obtain ⟨_, w0⟩ := hf
  match es, hl with
  | [x0, x1, x2, x3, x4], _ =>
    simp only [List.drop_succ_cons, List.drop_zero, List.take_succ_cons, List.take_zero, List.cons.injEq, and_true, List.length_cons, List.length_nil, true_and] at w0
    obtain ⟨⟨k, rfl, wk⟩, ⟨t, rfl, wt⟩, ⟨a, rfl, wa⟩, ⟨b, rfl, wb⟩, ⟨c, rfl⟩⟩ := w0
    obtain ⟨k, rfl, bk⟩ := wf_u8m wk
    obtain ⟨t, rfl, bt⟩ := wf_u8m wt
    obtain ⟨a, rfl, ba⟩ := wf_u8m wa
    obtain ⟨b, rfl, bb⟩ := wf_u16m wb
    exact ⟨⟨k, t, a, b, c⟩, rfl, bk, bt, ba, bb⟩
theorem buyC_out {x y : BuyT} (h : buyC x = buyC y) : x.card = y.card ∧ x.date = y.date ∧ x.key = y.key ∧ x.amt = y.amt := by
  simp only [buyC, List.cons.injEq, Value.int.injEq, true_and, and_true] at h
  omega
theorem limits_walk (h : Heap) (a0 : Int) (w0 : (Lit.int .u16 a0).wf = true) (a1 : Int) (w1 : (Lit.int .u16 a1).wf = true) (a2 : Int) (w2 : (Lit.int .u8 a2).wf = true) (a3 : Option Addr) (len3 cap3 : Nat) (w3 : Vm.Fits h (.sl 5 (.st 5 [(0, 1, .int .u8), (1, 1, .int .u8), (2, 1, .int .u8), (3, 1, .int .u16), (4, 1, .bool)])) [.slice a3 len3 cap3]) : CallsH Try.prog 4 #[.int .u16 a0, .int .u16 a1, .int .u8 a2, .slice a3 len3 cap3] h fun e h' => e = .returned (.bool true) ∧ Grew h h' := by
  obtain ⟨ea, rfl, b0⟩ := wf_u16m w0
  obtain ⟨da, rfl, b1⟩ := wf_u16m w1
  obtain ⟨ct, rfl, b2⟩ := wf_u8m w2
  obtain ⟨p, cap, L, e1, hl1, hl2, hb, A, hA, hL⟩ := list_fits buyC (v := .slice a3 len3 cap3) (by decide) (fun es hl hf => (decBuy es hl hf).imp fun x h => h.1) w3 (by intro c hc; cases hc)
  cases e1
  have hm : cap3 ≤ 9223372036854775807 := by simpa only [maxLen] using hl2
  have hall : ∀ x ∈ L, BuyOk x := fun x hx => by
    obtain ⟨y, hy, h0⟩ := decBuy (buyC x) rfl (hb x hx)
    obtain ⟨g0, g1, g2, g3⟩ := buyC_out hy
    unfold BuyOk at h0 ⊢
    omega
  exact callsH_of_pure (limLaw_v A ea da ct b0 b1 b2 L _ _ hL hall (by omega)) (by kernel_rfl) hA
end Go.Proofs.Ytmjkjpjjckcihaa
