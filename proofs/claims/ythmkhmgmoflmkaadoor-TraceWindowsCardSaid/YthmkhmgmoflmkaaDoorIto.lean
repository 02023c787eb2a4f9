/-
Numbers in decimal: strconv.Itoa over known blocks, strings.Repeat of a zero, and numbers of a width.
Conditions: none.
-/
import Derived.Test.YthmkhmgmoflmkaaDoorVmAM
import Derived.Test.YthmkhmgmoflmkaaDoorTy
import Derived.Test.YthmkhmgmoflmkaaDoorShelf
namespace Go.Proofs.YthmkhmgmoflmkaaDoor
open Go.Vm
set_option linter.unusedSimpArgs false
set_option linter.unusedVariables false
set_option maxHeartbeats 1000000
set_option maxRecDepth 20000
/-- A text of these bytes. -/
def bs (l : List UInt8) : ByteArray := ⟨l.toArray⟩
theorem bs_list (l : List UInt8) : (bs l).toList = l := by rw [ByteArray.toList_eq]; rfl
theorem bs_size (l : List UInt8) : (bs l).size = l.length := by simp [bs, ByteArray.size]
theorem bs_data (l : List UInt8) : (bs l).data.toList = l := rfl
theorem ba_ext {a b : ByteArray} (h : a.data.toList = b.data.toList) : a = b := by
  obtain ⟨⟨a⟩⟩ := a; obtain ⟨⟨b⟩⟩ := b; simp at h; rw [h]
theorem bs_app (a b : List UInt8) : bs a ++ bs b = bs (a ++ b) := ba_ext (by simp [bs])
theorem bs_of (s : ByteArray) : s = bs s.data.toList := ba_ext rfl
theorem bs_inj {a b : List UInt8} (h : bs a = bs b) : a = b := by have := congrArg ByteArray.toList h; simpa [bs_list] using this
/-- The library's table of powers lies where its variable lies. -/
def TabA (A : AH) : Prop := ∃ (g : Nat) (e : TypeId) (fr : Nat × Nat), Tryd.prog.globalNamed "internal/strconv.uint64pow10" = some g ∧ Vm.look A g = some (.cells (Lib.pow10Tab.map fun z => Value.int .u64 z).toArray e fr)
theorem TabA.mono {A B : AH} (h : TabA A) (hs : SubA A B) : TabA B := by
  obtain ⟨g, e, fr, h1, h2⟩ := h
  exact ⟨g, e, fr, h1, hs _ _ h2⟩
theorem TabA.of {w : World} (h : Lib.TabIs Tryd.prog w "internal/strconv.uint64pow10" .u64 Lib.pow10Tab) : ∃ A, Sat A w.heap ∧ TabA A := by
  unfold Lib.TabIs World.var? at h
  cases hg : Tryd.prog.globalNamed "internal/strconv.uint64pow10" with
  | none => rw [hg] at h; cases h
  | some g =>
    rw [hg] at h
    simp only [Option.bind_some] at h
    split at h
    · rename_i cs e fr hb
      cases h
      exact ⟨[(g, .cells _ e fr)], (fun b o hl => by
        simp only [Vm.look] at hl
        split at hl
        · rename_i e1; subst e1; cases hl; exact hb
        · cases hl), g, e, fr, hg, by simp [Vm.look]⟩
    · cases h
theorem itoa_w (A : AH) (hT : TabA A) (n : Int) (h0 : -9223372036854775808 ≤ n) (h1 : n ≤ 9223372036854775807) (B : AH) (hB : SubA A B) : valA Tryd.prog 41 #[.int .i64 n] B = some (.string (bs (Lib.itoa n))) :=
  valA_eq ⟨fun _ => by kernel_rfl, fun h hs => by
    unfold RunC
    rw [if_pos (by kernel_rfl)]
    intro w hw
    subst hw
    have ht : Lib.TabIs Tryd.prog w "internal/strconv.uint64pow10" .u64 Lib.pow10Tab := by
      obtain ⟨g, e, fr, hg, hl⟩ := hT
      have := hs _ _ (hB _ _ hl)
      unfold Lib.TabIs World.var?
      rw [hg]
      simp [this]
    refine (Tryd.strconv_Itoa n h0 h1 w ht).mono fun e w' ⟨he, k, os, hw'⟩ => ?_
    subst hw'
    exact ⟨⟨he, ⟨by simp [Go.Sort.grow, World.drewN], fun j hj => by simp only [Go.Sort.grow, World.drewN]; exact Array.getElem?_append_left hj⟩⟩, rfl, rfl, rfl⟩⟩
theorem calls_below {P : Program} {f : FuncId} {args : Array Value} {v : Value} (hc : ∀ w, Calls P f args w fun e w' => e = .returned v ∧ RowKit.Below w.heap.size w w') (h : Heap) : CallsH P f args h fun e h' => e = .returned v ∧ Grew h h' := fun w hw => by
  subst hw
  exact (hc w).mono fun e w' ⟨h1, h2⟩ => ⟨⟨h1, ⟨h2.size, h2.block⟩⟩, ⟨h2.os, h2.tape, h2.output⟩⟩
theorem rep_v (c : Nat) (hc : c ≤ 1000) (A : AH) : valA Tryd.prog 42 #[.string ⟨#[48]⟩, .int .i64 (c : Int)] A = some (.string (bs (List.replicate c 48))) :=
  pureA_h (by kernel_rfl) (by kernel_rfl) fun h => by
    have := calls_below (fun w => Tryd.strings_Repeat ⟨#[48]⟩ c w (by omega) (by simp [ByteArray.size]; omega)) h
    have e : (ByteArray.mk #[48]).data.toList = [48] := rfl
    have e2 := Lib.repeatL_replicate 48 1 c
    rw [Nat.mul_one] at e2
    simp only [e] at this
    rw [show ([48] : List UInt8) = List.replicate 1 48 from rfl, e2] at this
    exact this
/-- The last w decimal digits. -/
def digs : Nat → Nat → List UInt8
  | 0, _ => []
  | w + 1, n => digs w (n / 10) ++ [UInt8.ofNat (48 + n % 10)]
theorem digs_len : ∀ (w n : Nat), (digs w n).length = w
  | 0, _ => rfl
  | w + 1, n => by simp [digs, digs_len w]
theorem digs_zero : ∀ w, digs w 0 = List.replicate w 48
  | 0 => rfl
  | w + 1 => by
    simp only [digs, Nat.zero_div, digs_zero w, Nat.zero_mod]
    rw [List.replicate_succ']
    rfl
theorem dec_len : ∀ (w n : Nat), 0 < w → n < 10 ^ w → (Lib.decDigits n).length ≤ w
  | 0, _, h, _ => by omega
  | w + 1, n, _, h => by
    rw [Lib.decDigits]
    split
    · simp
    · rename_i hn
      have hw : 0 < w := by
        cases w with
        | zero => simp at h; omega
        | succ w => omega
      have := dec_len w (n / 10) hw (by rw [Nat.pow_succ] at h; omega)
      simp
      omega
theorem pad_digs : ∀ (w n : Nat), 0 < w → n < 10 ^ w → List.replicate (w - (Lib.decDigits n).length) 48 ++ Lib.decDigits n = digs w n
  | 0, _, h, _ => by omega
  | w + 1, n, _, h => by
    have hr := dec_len (w + 1) n (by omega) h
    rw [Lib.decDigits] at hr ⊢
    split
    · rename_i hn
      simp only [List.length_singleton, digs]
      rw [Nat.div_eq_of_lt hn, digs_zero, Nat.mod_eq_of_lt hn]
      rfl
    · rename_i hn
      have hw : 0 < w := by
        cases w with
        | zero => simp at h; omega
        | succ w => omega
      have ih := pad_digs w (n / 10) hw (by rw [Nat.pow_succ] at h; omega)
      simp only [List.length_append, List.length_singleton, digs]
      rw [← ih, List.append_assoc]
      congr 2
      omega
theorem wle (a b : Nat) (h : b ≤ 1000000) (ha : a ≤ 1000000) : IntKind.i64.wrap ((a : Int) - (b : Int)) = (a : Int) - (b : Int) := w_i64 (by omega) (by omega)
end Go.Proofs.YthmkhmgmoflmkaaDoor
