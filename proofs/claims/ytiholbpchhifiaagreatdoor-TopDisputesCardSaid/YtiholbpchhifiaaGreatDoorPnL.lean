/-
Card numbers: the plain law of the digits' sums, and what the calls answer, over lists of bytes.
Conditions: none.
-/
import Derived.Test.YtiholbpchhifiaaGreatDoorBs
import Derived.Laws.RangeAny
namespace Go.Proofs.YtiholbpchhifiaaGreatDoor
open Go.Vm
set_option linter.unusedSimpArgs false
set_option linter.unusedVariables false
set_option maxRecDepth 20000
def digB (c : UInt8) : Bool := decide (48 ≤ c.toNat) && decide (c.toNat ≤ 57)
theorem digB_out {c : UInt8} (h : digB c = true) : 48 ≤ c.toNat ∧ c.toNat ≤ 57 := by
  simpa only [digB, Bool.and_eq_true, decide_eq_true_eq] using h
theorem digB_not {c : UInt8} (h : digB c = false) : c.toNat < 48 ∨ 57 < c.toNat := by
  simp only [digB, Bool.and_eq_false_iff, decide_eq_false_iff_not] at h
  omega
theorem bs_at (l : List UInt8) (i : Nat) : (bs l).data[i]? = l[i]? := by simp [bs]
theorem bs_ext (l : List UInt8) (i j : Nat) : (bs l).extract i j = bs ((l.take j).drop i) := ba_ext (by
  simp [bs, ByteArray.data_extract, List.extract_eq_take_drop, List.drop_take])
/-- A place in a list, as loops meet it. -/
theorem at_cons {l dn k : List UInt8} {c : UInt8} {e : Nat} (ha : l = dn ++ c :: k) (h3 : dn.length = e) (hl : l.length ≤ 1000000000) :
    (((e : Int) < (l.length : Int)) = True) ∧ IntKind.i64.wrap ((e : Int) + 1) = ((e + 1 : Nat) : Int) ∧ l[e]? = some c ∧ e < l.length ∧ decide (e < l.length) = true ∧ l = (dn ++ [c]) ++ k ∧ (dn ++ [c]).length = e + 1 ∧ l.length = e + 1 + k.length := by
  have hlen : l.length = e + 1 + k.length := by rw [ha]; simp; omega
  refine ⟨eq_true (by omega), by rw [w_i64 (by omega) (by omega)]; omega, ?_, by omega, by simp; omega, by rw [ha]; simp, by simp; omega, hlen⟩
  rw [ha, List.getElem?_append_right (by omega), h3]; simp
theorem at_nil {l dn : List UInt8} {e : Nat} (ha : l = dn ++ []) (h3 : dn.length = e) : (((e : Int) < (l.length : Int)) = False) ∧ dn = l ∧ l.length = e ∧ decide (e < l.length) = false := by
  have hd : dn = l := by rw [ha]; simp
  subst hd
  exact ⟨by simp; omega, rfl, h3, by simp; omega⟩
theorem dec_low {l dn k : List UInt8} {c : UInt8} {e : Nat} (ha : l = dn ++ c :: k) (h3 : dn.length = e) (hc : c.toNat < 128) : Utf8.decode (bs l) e = (c.toNat, 1) := by
  have hlen : l.length = e + 1 + k.length := by rw [ha]; simp; omega
  have hs : e < (bs l).size := by rw [bs_size]; omega
  have hg : (bs l)[e]'hs = c := by
    have h1 : (bs l).data[e]? = some c := by rw [bs_at, ha, List.getElem?_append_right (by omega), h3]; simp
    have h2 : (bs l).data[e]? = some ((bs l)[e]'hs) := by
      rw [Array.getElem?_eq_getElem (show e < (bs l).data.size from hs)]
      rfl
    rw [h2] at h1
    exact Option.some.inj h1
  have := decode_ascii (bs l) e hs (by rw [hg]; exact hc)
  rw [this, hg]
theorem dec_high {l dn k : List UInt8} {c : UInt8} {e : Nat} (ha : l = dn ++ c :: k) (h3 : dn.length = e) (hc : 128 ≤ c.toNat) : 128 ≤ (Utf8.decode (bs l) e).1 := by
  have hlen : l.length = e + 1 + k.length := by rw [ha]; simp; omega
  have hs : e < (bs l).size := by rw [bs_size]; omega
  have hg : (bs l)[e]'hs = c := by
    have h1 : (bs l).data[e]? = some c := by rw [bs_at, ha, List.getElem?_append_right (by omega), h3]; simp
    have h2 : (bs l).data[e]? = some ((bs l)[e]'hs) := by
      rw [Array.getElem?_eq_getElem (show e < (bs l).data.size from hs)]
      rfl
    rw [h2] at h1
    exact Option.some.inj h1
  exact (decode_high (bs l) e hs (by rw [hg]; exact hc)).1

/-! ### The sums -/
def dblN (b : Bool) (n : Nat) : Nat := if b = true then (if 9 < 2 * n then 2 * n - 9 else 2 * n) else n
def sumP (p : Nat) : List UInt8 → Nat
  | [] => 0
  | c :: l => dblN (decide ((l.length + p) % 2 = 0)) (c.toNat - 48) + sumP p l
theorem dbl_le {b : Bool} {n : Nat} (h : n ≤ 9) : dblN b n ≤ 9 := by
  unfold dblN; split <;> (try split) <;> omega
theorem sumP_le (p : Nat) : ∀ (l : List UInt8), l.all digB = true → sumP p l ≤ 9 * l.length
  | [], _ => by simp [sumP]
  | c :: l, h => by
    simp only [List.all_cons, Bool.and_eq_true] at h
    have := sumP_le p l h.2
    have h2 := digB_out h.1
    have := dbl_le (b := decide ((l.length + p) % 2 = 0)) (n := c.toNat - 48) (by omega)
    simp only [sumP, List.length_cons]
    omega
theorem sumP_app (p : Nat) : ∀ (a b : List UInt8), sumP p (a ++ b) = sumP (p + b.length) a + sumP p b
  | [], b => by simp [sumP]
  | c :: a, b => by
    simp only [List.cons_append, sumP, sumP_app p a b, List.length_append]
    rw [show a.length + b.length + p = a.length + (p + b.length) by omega]
    omega
theorem sumP_par (p : Nat) : ∀ (a : List UInt8), sumP (p + 2) a = sumP p a
  | [] => rfl
  | c :: a => by
    simp only [sumP, sumP_par p a]
    rw [show (a.length + (p + 2)) % 2 = (a.length + p) % 2 by omega]
/-- The sum of a text with a zero behind it. -/
theorem sumP_zero (l : List UInt8) : sumP 1 (l ++ [48]) = sumP 2 l := by
  rw [sumP_app]
  simp [sumP, dblN]
def luhnB (l : List UInt8) : Bool := !l.isEmpty && (l.all digB && decide (sumP 1 l % 10 = 0))
def chk (l : List UInt8) : Int := if l.length < 12 then 1 else if 19 < l.length then 3 else if l.all digB = false then 2 else if luhnB l = false then 9 else 0
def cdN (l : List UInt8) : Nat := 48 + (10 - sumP 2 l % 10) % 10
def cdV (l : List UInt8) : Value := if l.length = 0 then .tuple #[.int .u8 0, .int .i64 1] else if 18 < l.length then .tuple #[.int .u8 0, .int .i64 3] else if l.all digB = false then .tuple #[.int .u8 0, .int .i64 2] else .tuple #[.int .u8 (cdN l : Int), .int .i64 0]
theorem chk_ok {l : List UInt8} (h : chk l = 0) : 12 ≤ l.length ∧ l.length ≤ 19 ∧ l.all digB = true ∧ luhnB l = true := by
  unfold chk at h
  split at h
  · cases h
  split at h
  · cases h
  split at h
  · cases h
  split at h
  · cases h
  · rename_i h1 h2 h3 h4
    exact ⟨by omega, by omega, by simpa using h3, by simpa using h4⟩
theorem chk_of {l : List UInt8} (h1 : 12 ≤ l.length) (h2 : l.length ≤ 19) (h3 : l.all digB = true) (h4 : luhnB l = true) : chk l = 0 := by
  unfold chk
  rw [if_neg (by omega), if_neg (by omega), if_neg (by rw [h3]; simp), if_neg (by rw [h4]; simp)]
theorem luhn_dig {l : List UInt8} (h : luhnB l = true) : l ≠ [] ∧ l.all digB = true ∧ sumP 1 l % 10 = 0 := by
  simp only [luhnB, Bool.and_eq_true, Bool.not_eq_true', decide_eq_true_eq] at h
  exact ⟨by intro e; subst e; simp at h, h.2.1, h.2.2⟩
/-- The digit that is computed makes the check hold. -/
theorem luhn_cd {l : List UInt8} (h : l.all digB = true) : luhnB (l ++ [UInt8.ofNat (cdN l)]) = true := by
  have hn : (UInt8.ofNat (cdN l)).toNat = cdN l := by unfold cdN; simp; omega
  have hd : digB (UInt8.ofNat (cdN l)) = true := by
    have : 48 ≤ cdN l ∧ cdN l ≤ 57 := by unfold cdN; omega
    unfold digB; rw [hn]; simp [this]
  have hs : sumP 1 (l ++ [UInt8.ofNat (cdN l)]) = sumP 2 l + (10 - sumP 2 l % 10) % 10 := by
    rw [sumP_app]
    simp only [List.length_singleton, sumP, List.length_nil, Nat.add_zero, hn]
    simp [dblN, cdN]
  simp only [luhnB, Bool.and_eq_true, Bool.not_eq_true', decide_eq_true_eq, List.all_append, h, List.all_cons, hd, List.all_nil, Bool.and_self, hs]
  exact ⟨by simp, trivial, by omega⟩
/-! ### Wrong digits -/
theorem dbl_inj (b : Bool) {m n : Nat} (hm : m ≤ 9) (hn : n ≤ 9) (h : dblN b m % 10 = dblN b n % 10) : m = n := by
  unfold dblN at h
  cases b
  · simp at h; omega
  · simp only [if_true] at h; split at h <;> split at h <;> omega
theorem sum_mid (p : Nat) (a b : List UInt8) (c : UInt8) : sumP p (a ++ c :: b) = sumP (p + (b.length + 1)) a + dblN (decide ((b.length + p) % 2 = 0)) (c.toNat - 48) + sumP p b := by
  rw [sumP_app]; simp [sumP]; omega
theorem luhn_wrong {a b : List UInt8} {c d : UInt8} (h : luhnB (a ++ c :: b) = true) (hd : digB d = true) (hne : d ≠ c) : luhnB (a ++ d :: b) = false := by
  cases hl : luhnB (a ++ d :: b) with
  | false => rfl
  | true =>
    obtain ⟨_, h1, h2⟩ := luhn_dig h
    obtain ⟨_, h3, h4⟩ := luhn_dig hl
    rw [sum_mid] at h2 h4
    simp only [List.all_append, List.all_cons, Bool.and_eq_true] at h1
    have e1 := digB_out h1.2.1
    have e2 := digB_out hd
    have := dbl_inj (decide ((b.length + 1) % 2 = 0)) (m := c.toNat - 48) (n := d.toNat - 48) (by omega) (by omega) (by omega)
    exact absurd (UInt8.toNat_inj.1 (show d.toNat = c.toNat by omega)) hne
theorem dbl_swap {m n : Nat} (hm : m ≤ 9) (hn : n ≤ 9) (b : Bool) (hne : m ≠ n) : ((dblN b m + dblN (!b) n) % 10 = (dblN b n + dblN (!b) m) % 10) ↔ (m = 0 ∧ n = 9) ∨ (m = 9 ∧ n = 0) := by
  cases b <;> simp only [dblN, Bool.not_true, Bool.not_false, if_true, Bool.false_eq_true, if_false] <;> (repeat' split) <;> omega
theorem luhn_swap {a b : List UInt8} {c d : UInt8} (h : luhnB (a ++ c :: d :: b) = true) (hne : c ≠ d) : luhnB (a ++ d :: c :: b) = (decide (c = 48) && decide (d = 57) || decide (c = 57) && decide (d = 48)) := by
  obtain ⟨_, h1, h2⟩ := luhn_dig h
  simp only [List.all_append, List.all_cons, Bool.and_eq_true] at h1
  have e1 := digB_out h1.2.1
  have e2 := digB_out h1.2.2.1
  have hn : c.toNat - 48 ≠ d.toNat - 48 := fun e => hne (UInt8.toNat_inj.1 (by omega))
  have hp : decide ((((d :: b).length + 1)) % 2 = 0) = !decide ((b.length + 1) % 2 = 0) := by
    simp only [List.length_cons]
    by_cases h0 : (b.length + 1) % 2 = 0
    · simp [h0]; omega
    · simp [h0]; omega
  have hp2 : decide ((((c :: b).length + 1)) % 2 = 0) = !decide ((b.length + 1) % 2 = 0) := by simpa using hp
  have sw := dbl_swap (m := c.toNat - 48) (n := d.toNat - 48) (by omega) (by omega) (!decide ((b.length + 1) % 2 = 0)) hn
  rw [Bool.not_not] at sw
  have s1 : sumP 1 (a ++ c :: d :: b) = sumP (1 + (b.length + 1 + 1)) a + (dblN (!decide ((b.length + 1) % 2 = 0)) (c.toNat - 48) + dblN (decide ((b.length + 1) % 2 = 0)) (d.toNat - 48)) + sumP 1 b := by
    rw [sum_mid, hp]
    simp only [sumP, List.length_cons]
    omega
  have s2 : sumP 1 (a ++ d :: c :: b) = sumP (1 + (b.length + 1 + 1)) a + (dblN (!decide ((b.length + 1) % 2 = 0)) (d.toNat - 48) + dblN (decide ((b.length + 1) % 2 = 0)) (c.toNat - 48)) + sumP 1 b := by
    rw [sum_mid, hp2]
    simp only [sumP, List.length_cons]
    omega
  rw [s1] at h2
  have k1 : (c = 48) ↔ c.toNat - 48 = 0 := ⟨fun e => by rw [e]; rfl, fun e => UInt8.toNat_inj.1 (show c.toNat = 48 by omega)⟩
  have k2 : (d = 48) ↔ d.toNat - 48 = 0 := ⟨fun e => by rw [e]; rfl, fun e => UInt8.toNat_inj.1 (show d.toNat = 48 by omega)⟩
  have k3 : (c = 57) ↔ c.toNat - 48 = 9 := ⟨fun e => by rw [e]; rfl, fun e => UInt8.toNat_inj.1 (show c.toNat = 57 by omega)⟩
  have k4 : (d = 57) ↔ d.toNat - 48 = 9 := ⟨fun e => by rw [e]; rfl, fun e => UInt8.toNat_inj.1 (show d.toNat = 57 by omega)⟩
  simp only [luhnB, s2, List.all_append, List.all_cons, h1.1, h1.2.1, h1.2.2.1, h1.2.2.2, Bool.and_self, k1, k2, k3, k4]
  rw [Bool.eq_iff_iff]
  simp only [Bool.and_eq_true, Bool.or_eq_true, decide_eq_true_eq, Bool.not_eq_true']
  rw [← sw]
  constructor
  · rintro ⟨_, h5, h6⟩; omega
  · intro h5; exact ⟨by simp, trivial, by omega⟩
end Go.Proofs.YtiholbpchhifiaaGreatDoor
