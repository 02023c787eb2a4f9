/-
Disputes: small calls, reasons and calls as they come in.
Conditions: none.
-/
import Derived.Test.YtkkpmcomloekoaaGreatDsd
import Derived.Test.YtkkpmcomloekoaaGreatOpn
namespace Go.Proofs.YtkkpmcomloekoaaGreat
open Go.Vm
set_option linter.unusedSimpArgs false
set_option linter.unusedVariables false
set_option maxHeartbeats 4000000
set_option maxRecDepth 20000
theorem small_n (A : AH) (L : List Rs) (p : Option Addr) (cap : Nat) (hL : RsR A p L) (M : List DoT) (q : Option Addr) (qcap : Nat) (hM : DoR A q M) : CallA Tryz.prog 4 #[.slice p L.length cap, .slice q M.length qcap] A (fun u D => ∃ v B, u = v ∧ (∃ b, v = .bool b ∧ (b = true → L.length ≤ 40 ∧ M.length ≤ 80)) ∧ Dis B A ∧ SubA (B ++ A) D) :=
  (small_h A L p cap hL M q qcap hM).mono fun u D ⟨h1, h2⟩ => ⟨u, [], rfl, h2, Dis.nil _, h1⟩
/-- One call of the law, on the data. -/
def runX (R : List Rn) (F : List Fd) (x : DoT) : List Fd := if x.kd % 3 = 2 then (expX R F x.dt).2 else (doX R F x).2
theorem run_ok {R : List Rn} {F : List Fd} (hF : FdsOk F) (x : DoT) : FdsOk (runX R F x) := by
  unfold runX doX
  split
  · exact exp_ok hF _
  · split
    · exact open_ok hF _ _ _ _ _ _
    · exact step_ok hF _ _ _ _
theorem cons_back {B X : AH} {x : Nat} {o : Obj} (h : Vm.look B x = none) : SubA (B ++ ((x, o) :: X)) ((x, o) :: (B ++ X)) := fun b u hl => by
  rw [look_append] at hl
  simp only [Vm.look]
  by_cases e : x = b
  · subst e
    rw [h] at hl
    simp only [Vm.look, if_true] at hl
    rw [if_pos rfl]; exact hl
  · rw [if_neg e, look_append]
    cases hb : Vm.look B b with
    | some w => rw [hb] at hl; exact hl
    | none => rw [hb] at hl; simp only [Vm.look, e, if_false] at hl; exact hl
theorem dis_cons {B X : AH} {x : Nat} {o : Obj} (h : Vm.look B x = none) (d : Dis B X) : Dis B ((x, o) :: X) := fun b hb => by
  simp only [Vm.look] at hb
  by_cases e : x = b
  · subst e; exact h
  · rw [if_neg e] at hb; exact d b hb
set_option linter.unusedSimpArgs false
set_option linter.unusedVariables false
set_option maxHeartbeats 2000000
set_option maxRecDepth 20000
theorem sl_one {h : Heap} {n : Nat} {s : Sh} {x : Value} (hf : Fits h (.sl n s) [x]) : ∃ p len cap, x = .slice p len cap := by
  unfold Fits at hf
  rcases hf with e | ⟨a, len, cap, e, _⟩
  · cases e; exact ⟨_, _, _, rfl⟩
  · cases e; exact ⟨_, _, _, rfl⟩
theorem str_one' {h : Heap} {x : Value} (hf : Fits h .str [x]) : ∃ t : Txt, x = .string (bs t) := by
  unfold Fits at hf
  obtain ⟨s, e, _⟩ := hf
  cases e
  exact ⟨s.data.toList, by rw [← bs_of]⟩
theorem int_one' {h : Heap} {k : IntKind} {x : Value} (hf : Fits h (.int k) [x]) : ∃ n, x = .int k n ∧ (Lit.int k n).wf = true := by
  unfold Fits at hf
  obtain ⟨n, e, w⟩ := hf
  cases e
  exact ⟨n, rfl, w⟩
theorem bool_one' {h : Heap} {x : Value} (hf : Fits h .bool [x]) : ∃ b, x = .bool b := by
  unfold Fits at hf
  obtain ⟨b, e⟩ := hf
  cases e
  exact ⟨b, rfl⟩
theorem st_out {h : Heap} {n : Nat} {l : List (Nat × Nat × Sh)} {es : List Value} (hf : Fits h (.st n l) es) : es.length = n ∧ FitsL h l es := by
  unfold Fits at hf; exact hf
theorem wf_u8n {n : Int} (h : (Lit.int .u8 n).wf = true) : ∃ k : Nat, n = (k : Int) ∧ k ≤ 255 := by
  simp [Lit.wf, IntKind.min, IntKind.max, IntKind.bits, IntKind.signed] at h
  exact ⟨n.toNat, by omega, by omega⟩
theorem rs_in {h : Heap} {es : List Value} (hf : Fits h (.st 7 [(0, 1, .str), (1, 1, .int .i64), (2, 1, .int .i64), (3, 1, .int .i64), (4, 1, .int .i64), (5, 1, .sl 1 .str), (6, 1, .sl 1 .str)]) es) : ∃ (y : Rs) (A : AH), rsC y = es ∧ Sat A h ∧ InR A y := by
  obtain ⟨hl, hf⟩ := st_out hf
  match es, hl with
  | [x0, x1, x2, x3, x4, x5, x6], _ =>
    simp only [FitsL, List.drop_succ_cons, List.drop_zero, List.take_succ_cons, List.take_zero, and_true] at hf
    obtain ⟨h0, h1, h2, h3, h4, h5, h6⟩ := hf
    obtain ⟨t0, rfl⟩ := str_one' h0
    obtain ⟨n1, rfl, _⟩ := int_one' h1
    obtain ⟨n2, rfl, _⟩ := int_one' h2
    obtain ⟨n3, rfl, _⟩ := int_one' h3
    obtain ⟨n4, rfl, _⟩ := int_one' h4
    obtain ⟨p5, l5, c5, rfl⟩ := sl_one h5
    obtain ⟨p6, l6, c6, rfl⟩ := sl_one h6
    obtain ⟨T5, A5, rfl, s5, r5⟩ := tx_fits h5
    obtain ⟨T6, A6, rfl, s6, r6⟩ := tx_fits h6
    exact ⟨⟨⟨t0, n1, n2, n3, n4, T5, T6⟩, p5, c5, p6, c6⟩, A5 ++ A6, rfl, Sat.both s5 s6, r5.mono (SubA.left _ _), r6.mono (sat_sub s5 s6)⟩
theorem it_in {h : Heap} {es : List Value} (hf : Fits h (.st 3 [(0, 1, .str), (1, 1, .int .i64), (2, 1, .int .u64)]) es) : ∃ y : Itm, itC y = es := by
  obtain ⟨hl, hf⟩ := st_out hf
  match es, hl with
  | [x0, x1, x2], _ =>
    simp only [FitsL, List.drop_succ_cons, List.drop_zero, List.take_succ_cons, List.take_zero, and_true] at hf
    obtain ⟨h0, h1, h2⟩ := hf
    obtain ⟨t0, rfl⟩ := str_one' h0
    obtain ⟨n1, rfl, _⟩ := int_one' h1
    obtain ⟨n2, rfl, _⟩ := int_one' h2
    exact ⟨⟨t0, n1, n2⟩, rfl⟩
def InD (A : AH) (x : DoT) : Prop := x.kd ≤ 255 ∧ StR itC 3 A x.ip x.its ∧ x.its.length ≤ 9223372036854775807
theorem do_in {h : Heap} {es : List Value} (hf : Fits h (.st 19 [(0, 1, .int .u8), (1, 1, .str), (2, 1, .str), (3, 12, (.st 12 [(0, 1, .int .i64), (1, 1, .str), (2, 1, .str), (3, 1, .str), (4, 1, .str), (5, 1, .str), (6, 1, .str), (7, 2, .st 2 [(0, 1, .int .i64), (1, 1, .str)]), (9, 1, .int .i64), (10, 1, .int .i64), (11, 1, .bool)])), (15, 1, .int .i64), (16, 1, .int .i64), (17, 1, .int .i64), (18, 1, .sl 3 (.st 3 [(0, 1, .str), (1, 1, .int .i64), (2, 1, .int .u64)]))]) es) : ∃ (y : DoT) (A : AH), doC y = es ∧ Sat A h ∧ InD A y := by
  obtain ⟨hl, hf⟩ := st_out hf
  match es, hl with
  | [x0, x1, x2, y0, y1, y2, y3, y4, y5, y6, y7, y8, y9, y10, y11, x4, x5, x6, x7], _ =>
    simp only [FitsL, List.drop_succ_cons, List.drop_zero, List.take_succ_cons, List.take_zero, and_true] at hf
    obtain ⟨h0, h1, h2, h3, h4, h5, h6, h7⟩ := hf
    obtain ⟨n0, rfl, w0⟩ := int_one' h0
    obtain ⟨k0, rfl, b0⟩ := wf_u8n w0
    obtain ⟨t1, rfl⟩ := str_one' h1
    obtain ⟨t2, rfl⟩ := str_one' h2
    obtain ⟨n4, rfl, _⟩ := int_one' h4
    obtain ⟨n5, rfl, _⟩ := int_one' h5
    obtain ⟨n6, rfl, _⟩ := int_one' h6
    obtain ⟨p7, l7, c7, rfl⟩ := sl_one h7
    obtain ⟨_, h3⟩ := st_out h3
    simp only [FitsL, List.drop_succ_cons, List.drop_zero, List.take_succ_cons, List.take_zero, and_true] at h3
    obtain ⟨g0, g1, g2, g3, g4, g5, g6, g7, g8, g9, g10⟩ := h3
    obtain ⟨m0, rfl, _⟩ := int_one' g0
    obtain ⟨u1, rfl⟩ := str_one' g1
    obtain ⟨u2, rfl⟩ := str_one' g2
    obtain ⟨u3, rfl⟩ := str_one' g3
    obtain ⟨u4, rfl⟩ := str_one' g4
    obtain ⟨u5, rfl⟩ := str_one' g5
    obtain ⟨u6, rfl⟩ := str_one' g6
    obtain ⟨_, g7⟩ := st_out g7
    simp only [FitsL, List.drop_succ_cons, List.drop_zero, List.take_succ_cons, List.take_zero, and_true] at g7
    obtain ⟨m7, rfl, _⟩ := int_one' g7.1
    obtain ⟨u7, rfl⟩ := str_one' g7.2
    obtain ⟨m8, rfl, _⟩ := int_one' g8
    obtain ⟨m9, rfl, _⟩ := int_one' g9
    obtain ⟨m10, rfl⟩ := bool_one' g10
    obtain ⟨p', cap', I, e, i1, i2, _, A, hA, hI⟩ := list_fits itC (v := .slice p7 l7 c7) (by decide) (fun es hl hf => it_in hf) h7 (fun c hc => by cases hc)
    cases e
    exact ⟨⟨k0, t1, t2, ⟨m0, u1, u2, u3, u4, u5, u6, m7, u7, m8, m9, m10⟩, n4, n5, n6, I, p7, c7⟩, A, rfl, hA, b0, hI, by simp only [maxLen] at i2; show I.length ≤ _; omega⟩
theorem args_in {h : Heap} {a0 : Option Addr} {len0 cap0 : Nat} (w0 : Vm.Fits h (.sl 7 (.st 7 [(0, 1, .str), (1, 1, .int .i64), (2, 1, .int .i64), (3, 1, .int .i64), (4, 1, .int .i64), (5, 1, .sl 1 .str), (6, 1, .sl 1 .str)])) [.slice a0 len0 cap0]) {a1 : Option Addr} {len1 cap1 : Nat} (w1 : Vm.Fits h (.sl 19 (.st 19 [(0, 1, .int .u8), (1, 1, .str), (2, 1, .str), (3, 12, (.st 12 [(0, 1, .int .i64), (1, 1, .str), (2, 1, .str), (3, 1, .str), (4, 1, .str), (5, 1, .str), (6, 1, .str), (7, 2, .st 2 [(0, 1, .int .i64), (1, 1, .str)]), (9, 1, .int .i64), (10, 1, .int .i64), (11, 1, .bool)])), (15, 1, .int .i64), (16, 1, .int .i64), (17, 1, .int .i64), (18, 1, .sl 3 (.st 3 [(0, 1, .str), (1, 1, .int .i64), (2, 1, .int .u64)]))])) [.slice a1 len1 cap1]) :
    ∃ (L : List Rs) (M : List DoT) (A : AH), L.length = len0 ∧ M.length = len1 ∧ L.length ≤ cap0 ∧ cap0 ≤ 9223372036854775807 ∧ Sat A h ∧ RsR A a0 L ∧ DoR A a1 M := by
  obtain ⟨L, A1, e1, l1, l2, s1, r1, i1⟩ := nest_fits (id : List Value → List Value) rsC (In := InR) (fun A B y h hs => h.mono hs) (by decide) (fun es _ _ => ⟨es, rfl⟩) (fun x hx => rs_in hx) w0
  obtain ⟨M, A2, e2, l3, l4, s2, r2, i2⟩ := nest_fits (id : List Value → List Value) doC (In := InD) (fun A B y h hs => ⟨h.1, h.2.1.mono hs, h.2.2⟩) (by decide) (fun es _ _ => ⟨es, rfl⟩) (fun x hx => do_in hx) w1
  have hs := sat_sub s1 s2
  exact ⟨L, M, A1 ++ A2, e1, e2, by omega, by simpa only [maxLen] using l2, Sat.both s1 s2, ⟨r1.mono (SubA.left _ _), fun r hr => (i1 r hr).mono (SubA.left _ _)⟩, ⟨r2.mono hs, fun x hx => ⟨(i2 x hx).1, (i2 x hx).2.1.mono hs, (i2 x hx).2.2⟩⟩⟩
end Go.Proofs.YtkkpmcomloekoaaGreat
