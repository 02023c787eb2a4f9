/-
Texts as lists of bytes, numbers of a width.
Conditions: none.
-/
import Derived.Test.YtiholbpchhifiaaGreatDoorVmAR
import Derived.Test.YtiholbpchhifiaaGreatDoorTy
import Derived.Lib.ItoaNum
namespace Go.Proofs.YtiholbpchhifiaaGreatDoor
open Go.Vm
set_option linter.unusedSimpArgs false
set_option linter.unusedVariables false
set_option maxHeartbeats 1000000
set_option maxRecDepth 20000
/-- A text of these bytes. -/
def bs (l : List UInt8) : ByteArray := ⟨l.toArray⟩
theorem bs_list (l : List UInt8) : (bs l).toList = l := by rw [ByteArray.toList_eq]; rfl
theorem bs_size (l : List UInt8) : (bs l).size = l.length := by simp [bs, ByteArray.size]
theorem bs_data (l : List UInt8) : (bs l).data.toList = l := rfl
theorem ba_ext {a b : ByteArray} (h : a.data.toList = b.data.toList) : a = b := by
  obtain ⟨⟨a⟩⟩ := a; obtain ⟨⟨b⟩⟩ := b; simp at h; rw [h]
theorem bs_app (a b : List UInt8) : bs a ++ bs b = bs (a ++ b) := ba_ext (by simp [bs])
theorem bs_of (s : ByteArray) : s = bs s.data.toList := ba_ext rfl
theorem bs_inj {a b : List UInt8} (h : bs a = bs b) : a = b := by have := congrArg ByteArray.toList h; simpa [bs_list] using this
/-- The last w decimal digits. -/
def digs : Nat → Nat → List UInt8
  | 0, _ => []
  | w + 1, n => digs w (n / 10) ++ [UInt8.ofNat (48 + n % 10)]
theorem digs_len : ∀ (w n : Nat), (digs w n).length = w
  | 0, _ => rfl
  | w + 1, n => by simp [digs, digs_len w]
theorem digs_zero : ∀ w, digs w 0 = List.replicate w 48
  | 0 => rfl
  | w + 1 => by
    simp only [digs, Nat.zero_div, digs_zero w, Nat.zero_mod]
    rw [List.replicate_succ']
    rfl
theorem dec_len : ∀ (w n : Nat), 0 < w → n < 10 ^ w → (Lib.decDigits n).length ≤ w
  | 0, _, h, _ => by omega
  | w + 1, n, _, h => by
    rw [Lib.decDigits]
    split
    · simp
    · rename_i hn
      have hw : 0 < w := by
        cases w with
        | zero => simp at h; omega
        | succ w => omega
      have := dec_len w (n / 10) hw (by rw [Nat.pow_succ] at h; omega)
      simp
      omega
theorem pad_digs : ∀ (w n : Nat), 0 < w → n < 10 ^ w → List.replicate (w - (Lib.decDigits n).length) 48 ++ Lib.decDigits n = digs w n
  | 0, _, h, _ => by omega
  | w + 1, n, _, h => by
    have hr := dec_len (w + 1) n (by omega) h
    rw [Lib.decDigits] at hr ⊢
    split
    · rename_i hn
      simp only [List.length_singleton, digs]
      rw [Nat.div_eq_of_lt hn, digs_zero, Nat.mod_eq_of_lt hn]
      rfl
    · rename_i hn
      have hw : 0 < w := by
        cases w with
        | zero => simp at h; omega
        | succ w => omega
      have ih := pad_digs w (n / 10) hw (by rw [Nat.pow_succ] at h; omega)
      simp only [List.length_append, List.length_singleton, digs]
      rw [← ih, List.append_assoc]
      congr 2
      omega
theorem wle (a b : Nat) (h : b ≤ 1000000) (ha : a ≤ 1000000) : IntKind.i64.wrap ((a : Int) - (b : Int)) = (a : Int) - (b : Int) := w_i64 (by omega) (by omega)
end Go.Proofs.YtiholbpchhifiaaGreatDoor
