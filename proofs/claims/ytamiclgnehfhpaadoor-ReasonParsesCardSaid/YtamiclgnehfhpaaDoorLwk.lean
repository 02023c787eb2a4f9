/-
Reasons: how they come in; the walk of ReasonDays.
Conditions: none.
-/
import Derived.Test.YtamiclgnehfhpaaDoorLsm
import Derived.Test.YtamiclgnehfhpaaDoorOpn
namespace Go.Proofs.YtamiclgnehfhpaaDoor
open Go.Vm
set_option linter.unusedSimpArgs false
set_option linter.unusedVariables false
set_option maxHeartbeats 2000000
set_option maxRecDepth 20000
theorem sl_one {h : Heap} {n : Nat} {s : Sh} {x : Value} (hf : Fits h (.sl n s) [x]) : ∃ p len cap, x = .slice p len cap := by
  unfold Fits at hf
  rcases hf with e | ⟨a, len, cap, e, _⟩
  · cases e; exact ⟨_, _, _, rfl⟩
  · cases e; exact ⟨_, _, _, rfl⟩
theorem str_one' {h : Heap} {x : Value} (hf : Fits h .str [x]) : ∃ t : Txt, x = .string (bs t) := by
  unfold Fits at hf
  obtain ⟨s, e, _⟩ := hf
  cases e
  exact ⟨s.data.toList, by rw [← bs_of]⟩
theorem int_one' {h : Heap} {k : IntKind} {x : Value} (hf : Fits h (.int k) [x]) : ∃ n, x = .int k n ∧ (Lit.int k n).wf = true := by
  unfold Fits at hf
  obtain ⟨n, e, w⟩ := hf
  cases e
  exact ⟨n, rfl, w⟩
theorem bool_one' {h : Heap} {x : Value} (hf : Fits h .bool [x]) : ∃ b, x = .bool b := by
  unfold Fits at hf
  obtain ⟨b, e⟩ := hf
  cases e
  exact ⟨b, rfl⟩
theorem st_out {h : Heap} {n : Nat} {l : List (Nat × Nat × Sh)} {es : List Value} (hf : Fits h (.st n l) es) : es.length = n ∧ FitsL h l es := by
  unfold Fits at hf; exact hf
theorem rs_in {h : Heap} {es : List Value} (hf : Fits h (.st 7 [(0, 1, .str), (1, 1, .int .i64), (2, 1, .int .i64), (3, 1, .int .i64), (4, 1, .int .i64), (5, 1, .sl 1 .str), (6, 1, .sl 1 .str)]) es) : ∃ (y : Rs) (A : AH), rsC y = es ∧ Sat A h ∧ InR A y := by
  obtain ⟨hl, hf⟩ := st_out hf
  match es, hl with
  | [x0, x1, x2, x3, x4, x5, x6], _ =>
    simp only [FitsL, List.drop_succ_cons, List.drop_zero, List.take_succ_cons, List.take_zero, and_true] at hf
    obtain ⟨h0, h1, h2, h3, h4, h5, h6⟩ := hf
    obtain ⟨t0, rfl⟩ := str_one' h0
    obtain ⟨n1, rfl, _⟩ := int_one' h1
    obtain ⟨n2, rfl, _⟩ := int_one' h2
    obtain ⟨n3, rfl, _⟩ := int_one' h3
    obtain ⟨n4, rfl, _⟩ := int_one' h4
    obtain ⟨p5, l5, c5, rfl⟩ := sl_one h5
    obtain ⟨p6, l6, c6, rfl⟩ := sl_one h6
    obtain ⟨T5, A5, rfl, s5, r5⟩ := tx_fits h5
    obtain ⟨T6, A6, rfl, s6, r6⟩ := tx_fits h6
    exact ⟨⟨⟨t0, n1, n2, n3, n4, T5, T6⟩, p5, c5, p6, c6⟩, A5 ++ A6, rfl, Sat.both s5 s6, r5.mono (SubA.left _ _), r6.mono (sat_sub s5 s6)⟩
theorem tab_in {h : Heap} {p0 : Option Addr} {len cap : Nat} (w : Vm.Fits h (.sl 7 (.st 7 [(0, 1, .str), (1, 1, .int .i64), (2, 1, .int .i64), (3, 1, .int .i64), (4, 1, .int .i64), (5, 1, .sl 1 .str), (6, 1, .sl 1 .str)])) [.slice p0 len cap]) : ∃ (L : List Rs) (A : AH), L.length = len ∧ len ≤ cap ∧ cap ≤ 9223372036854775807 ∧ Sat A h ∧ RsR A p0 L := by
  obtain ⟨L, A, e1, l1, l2, s1, r1, i1⟩ := nest_fits (id : List Value → List Value) rsC (In := InR) (fun A B y h hs => h.mono hs) (by decide) (fun es _ _ => ⟨es, rfl⟩) (fun x hx => rs_in hx) w
  exact ⟨L, A, e1, l1, by simpa only [maxLen] using l2, s1, r1, i1⟩
theorem days_walk (w : World) (ht : Lib.TabIs Tryd.prog w "internal/strconv.uint64pow10" .u64 Lib.pow10Tab) (a0 : Array Value) (w0 : Vm.Fits w.heap (.st 7 [(0, 1, .str), (1, 1, .int .i64), (2, 1, .int .i64), (3, 1, .int .i64), (4, 1, .int .i64), (5, 1, .sl 1 .str), (6, 1, .sl 1 .str)]) a0.toList) (a1 : Int) (w1 : (Lit.int .i64 a1).wf = true) (a2 : Int) (w2 : (Lit.int .i64 a2).wf = true) :
    CallsH Tryd.prog 4 #[.agg a0, .int .i64 a1, .int .i64 a2] w.heap fun e h' => e = .returned (.bool true) ∧ Grew w.heap h' := by
  obtain ⟨B, hB, hT⟩ := TabA.of ht
  obtain ⟨r, A, e, hA, hin⟩ := rs_in w0
  obtain rfl : a0 = (rsC r).toArray := by apply Array.ext'; rw [← e]
  exact callsH_of_pure (daysLaw_v (A ++ B) (hT.mono (sat_sub hA hB)) r a1 a2 (hin.mono (SubA.left _ _))) (by kernel_rfl) (hA.both hB)
end Go.Proofs.YtamiclgnehfhpaaDoor
