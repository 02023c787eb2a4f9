/-
Tokens: the walk of TokenDomains, from arguments as they come in.
Conditions: none.
-/
import Derived.Test.YtoonmogjjddeeaaDoorTokD
import Derived.Test.YtoonmogjjddeeaaDoorVmAF
namespace Go.Proofs.YtoonmogjjddeeaaDoor
open Go.Vm
set_option linter.unusedSimpArgs false
set_option linter.unusedVariables false
set_option maxHeartbeats 2000000
set_option maxRecDepth 20000
theorem callsH_of_pure {P : Program} {g : FuncId} {args : Array Value} {A : AH} {v : Value} (hv : valA P g args A = some v) (hc : callable P g = true) {h : Heap} (hs : Sat A h) : CallsH P g args h fun e h' => e = .returned v ∧ Grew h h' := by
  have := (valA_out hv).2 h hs
  unfold RunC at this
  rwa [if_pos hc] at this
theorem wf_u16 {n : Int} (h : (Lit.int .u16 n).wf = true) : ∃ a : Nat, n = a ∧ a ≤ 65535 := by
  simp [Lit.wf, IntKind.min, IntKind.max, IntKind.bits, IntKind.signed] at h
  exact ⟨n.toNat, by omega, by omega⟩
theorem fitsZD {N : Nat} {a : Array Value} (z : FitsZ N (.st 3 [(0, 1, .str), (1, 1, .str), (2, 1, .int .i64)]) a.toList) : ∃ (r m : ByteArray) (u : Int), a = #[.string r, .string m, .int .i64 u] ∧ r.size ≤ N ∧ m.size ≤ N := by
  obtain ⟨l⟩ := a
  simp only [FitsZ, FitsZL] at z
  obtain ⟨hl, z⟩ := z
  match l, hl with
  | [x0, x1, x2], _ =>
    simp only [List.drop_succ_cons, List.drop_zero, List.take_succ_cons, List.take_zero, List.cons.injEq, and_true, List.length_cons, List.length_nil, true_and] at z
    obtain ⟨⟨r, rfl, b0⟩, ⟨m, rfl, b1⟩, ⟨u, rfl, _⟩⟩ := z
    exact ⟨r, m, u, rfl, b0, b1⟩
theorem fitsZS {N : Nat} {s : ByteArray} (z : FitsZ N .str [.string s]) : s.size ≤ N := by
  simp only [FitsZ, List.cons.injEq, Value.string.injEq, and_true] at z
  obtain ⟨s', rfl, h⟩ := z
  exact h
theorem size_len (s : ByteArray) : s.data.toList.length = s.size := rfl
theorem domains_walk (w : World) (ht : Lib.TabIs Tryd.prog w "internal/strconv.uint64pow10" .u64 Lib.pow10Tab) (n : Int) (wn : (Lit.int .u16 n).wf = true) (a1 : Array Value) (w1 : Vm.Fits w.heap ((.st 3 [(0, 1, .str), (1, 1, .str), (2, 1, .int .i64)])) a1.toList) (z1 : Vm.FitsZ 140737488351232 ((.st 3 [(0, 1, .str), (1, 1, .str), (2, 1, .int .i64)])) a1.toList) (rq : ByteArray) (zr : Vm.FitsZ 140737488351232 .str [.string rq]) (me : ByteArray) (zm : Vm.FitsZ 140737488351232 .str [.string me]) (at_ : Int) (wa : (Lit.int .i64 at_).wf = true) (sus : Bool) :
    CallsH Tryd.prog 3 #[.int .u16 n, .agg a1, .string rq, .string me, .int .i64 at_, .bool sus] w.heap fun e h' => e = .returned (.bool true) ∧ Grew w.heap h' := by
  obtain ⟨A, hA, hT⟩ := TabA.of ht
  obtain ⟨n, rfl, hn⟩ := wf_u16 wn
  obtain ⟨r, m, u, rfl, hr, hm⟩ := fitsZD z1
  have h3 := fitsZS zr
  have h4 := fitsZS zm
  rw [bs_of r, bs_of m, bs_of rq, bs_of me]
  exact callsH_of_pure (domLaw_v A hT n hn r.data.toList m.data.toList rq.data.toList me.data.toList u at_ sus (by rw [size_len]; exact hr) (by rw [size_len]; exact hm) (by rw [size_len]; exact h3) (by rw [size_len]; exact h4)) (by kernel_rfl) hA
end Go.Proofs.YtoonmogjjddeeaaDoor
