/-
Card numbers: the plain law of making and finding them, masks and groups, over lists of bytes.
Conditions: none.
-/
import Derived.Test.YtmjkjpjjckcihaaPnL
namespace Go.Proofs.Ytmjkjpjjckcihaa
open Go.Vm
set_option linter.unusedSimpArgs false
set_option linter.unusedVariables false
set_option maxRecDepth 20000
def dval (l : List UInt8) : Nat := l.foldl (fun n c => 10 * n + (c.toNat - 48)) 0
theorem dval_app (l : List UInt8) (c : UInt8) : dval (l ++ [c]) = 10 * dval l + (c.toNat - 48) := by simp [dval]
theorem dval_lt : ∀ (n : Nat) (l : List UInt8), l.length = n → l.all digB = true → dval l < 10 ^ n
  | 0, l, h, _ => by rw [List.eq_nil_of_length_eq_zero h]; simp [dval]
  | n + 1, l, h, ha => by
    have hne : l ≠ [] := by intro e; subst e; simp at h
    obtain ⟨l0, c, rfl⟩ : ∃ l0 c, l = l0 ++ [c] := ⟨l.dropLast, l.getLast hne, (List.dropLast_concat_getLast hne).symm⟩
    rw [dval_app]
    simp only [List.length_append, List.length_singleton, List.all_append, List.all_cons, List.all_nil, Bool.and_true, Bool.and_eq_true] at h ha
    have := dval_lt n l0 (by omega) ha.1
    have hc := digB_out ha.2
    rw [Nat.pow_succ]
    omega
theorem dval_digs : ∀ (w n : Nat), n < 10 ^ w → dval (digs w n) = n
  | 0, n, h => by simp at h; subst h; rfl
  | w + 1, n, h => by
    simp only [digs, dval_app]
    rw [dval_digs w (n / 10) (by rw [Nat.pow_succ] at h; omega)]
    have : (UInt8.ofNat (48 + n % 10)).toNat = 48 + n % 10 := by simp; omega
    omega
theorem digs_all : ∀ (w n : Nat), (digs w n).all digB = true
  | 0, _ => rfl
  | w + 1, n => by
    simp only [digs, List.all_append, digs_all w, List.all_cons, List.all_nil, Bool.and_true, Bool.true_and]
    have : (UInt8.ofNat (48 + n % 10)).toNat = 48 + n % 10 := by simp; omega
    simp [digB, this]; omega
theorem dec_all : ∀ (n : Nat), (Lib.decDigits n).all digB = true := by
  intro n
  induction n using Nat.strongRecOn with
  | ind n ih =>
    rw [Lib.decDigits]
    split
    · rename_i h
      have : (UInt8.ofNat (48 + n)).toNat = 48 + n := by simp; omega
      simp [digB, this]; omega
    · rename_i h
      have h1 := ih (n / 10) (by omega)
      have : (UInt8.ofNat (48 + n % 10)).toNat = 48 + n % 10 := by simp; omega
      simp [h1, digB, this]; omega
theorem dec_lt (n : Nat) : n < 10 ^ (Lib.decDigits n).length := by
  induction n using Nat.strongRecOn with
  | ind n ih =>
    rw [Lib.decDigits]
    split
    · simp; omega
    · have h1 := ih (n / 10) (by omega)
      simp only [List.length_append, List.length_singleton, Nat.pow_succ]
      omega
theorem dec_pos (n : Nat) : 1 ≤ (Lib.decDigits n).length := by
  rw [Lib.decDigits]; split <;> simp
/-- A card number of a prefix, a number and its width. -/
def mkL (p : List UInt8) (w n : Nat) : List UInt8 := p ++ digs w n ++ [UInt8.ofNat (cdN (p ++ digs w n))]
def mkO (p : List UInt8) (n len : Int) : Bool := decide (12 ≤ len) && (decide (len ≤ 19) && (decide (1 ≤ p.length) && (decide (p.length ≤ 10) && (p.all digB && (decide (0 ≤ n) && decide (n.toNat < 10 ^ (len.toNat - 1 - p.length)))))))
def mkV (p : List UInt8) (n len : Int) : Value := if mkO p n len = true then .tuple #[.string (bs (mkL p (len.toNat - 1 - p.length) n.toNat)), .int .i64 0] else .tuple #[.string (bs []), .int .i64 4]
theorem mkO_out {p : List UInt8} {n len : Int} (h : mkO p n len = true) : ∃ (a b : Nat), n = a ∧ len = b ∧ 12 ≤ b ∧ b ≤ 19 ∧ 1 ≤ p.length ∧ p.length ≤ 10 ∧ p.all digB = true ∧ a < 10 ^ (b - 1 - p.length) := by
  simp only [mkO, Bool.and_eq_true, decide_eq_true_eq] at h
  obtain ⟨h1, h2, h3, h4, h5, h6, h7⟩ := h
  exact ⟨n.toNat, len.toNat, by omega, by omega, by omega, by omega, h3, h4, h5, h7⟩
theorem mkL_len (p : List UInt8) (w n : Nat) : (mkL p w n).length = p.length + w + 1 := by simp [mkL, digs_len]; omega
theorem mkL_all {p : List UInt8} (h : p.all digB = true) (w n : Nat) : (mkL p w n).all digB = true := (luhn_dig (luhn_cd (l := p ++ digs w n) (by simp only [List.all_append, h, digs_all, Bool.and_self]))).2.1
theorem mkL_chk {p : List UInt8} (h : p.all digB = true) {w n : Nat} (h1 : 12 ≤ p.length + w + 1) (h2 : p.length + w + 1 ≤ 19) : chk (mkL p w n) = 0 :=
  chk_of (by rw [mkL_len]; exact h1) (by rw [mkL_len]; exact h2) (mkL_all h w n) (luhn_cd (l := p ++ digs w n) (by simp only [List.all_append, h, digs_all, Bool.and_self]))
/-- The number that stands behind a prefix. -/
def idxO (p s : List UInt8) : Bool := decide (chk s = 0) && (decide (1 ≤ p.length) && (decide (p.length ≤ 10) && decide (s.take p.length = p)))
def idxV (p s : List UInt8) : Value := if idxO p s = true then .tuple #[.int .i64 (dval ((s.take (s.length - 1)).drop p.length) : Int), .bool true] else .tuple #[.int .i64 0, .bool false]
theorem idx_mk {p : List UInt8} (h : p.all digB = true) {w n : Nat} (h0 : 1 ≤ p.length) (h3 : p.length ≤ 10) (h1 : 12 ≤ p.length + w + 1) (h2 : p.length + w + 1 ≤ 19) (hn : n < 10 ^ w) : idxV p (mkL p w n) = .tuple #[.int .i64 (n : Int), .bool true] := by
  have ht : (mkL p w n).take p.length = p := by simp [mkL, List.append_assoc]
  have hk : ((mkL p w n).take ((mkL p w n).length - 1)).drop p.length = digs w n := by
    rw [mkL_len]
    have : p.length + w + 1 - 1 = (p ++ digs w n).length := by simp [digs_len]
    rw [this]
    unfold mkL
    rw [List.take_left, List.drop_left]
  unfold idxV idxO
  rw [hk, ht, mkL_chk h h1 h2, dval_digs w n hn]
  simp [h0, h3]
/-- Ascending. -/
theorem less_app : ∀ (p a b : List UInt8), Op.bytesLess (p ++ a) (p ++ b) = Op.bytesLess a b
  | [], a, b => rfl
  | c :: p, a, b => by
    simp only [List.cons_append, Op.bytesLess, less_app p a b, BEq.rfl, Bool.true_and]
    simp
theorem less_ext : ∀ (a b x y : List UInt8), a.length = b.length → Op.bytesLess a b = true → Op.bytesLess (a ++ x) (b ++ y) = true
  | [], [], _, _, _, h => by simp [Op.bytesLess] at h
  | [], _ :: _, _, _, h, _ => by simp at h
  | _ :: _, [], _, _, h, _ => by simp at h
  | c :: a, d :: b, x, y, hl, h => by
    simp only [List.cons_append, Op.bytesLess, Bool.or_eq_true, Bool.and_eq_true] at h ⊢
    rcases h with h | h
    · exact .inl h
    · exact .inr ⟨h.1, less_ext a b x y (by simpa using hl) h.2⟩
theorem less_digs : ∀ (w m n : Nat), m < n → n < 10 ^ w → Op.bytesLess (digs w m) (digs w n) = true
  | 0, m, n, h, h2 => by simp at h2; omega
  | w + 1, m, n, h, h2 => by
    simp only [digs]
    rcases Nat.lt_or_ge (m / 10) (n / 10) with hq | hq
    · exact less_ext _ _ _ _ (by simp [digs_len]) (less_digs w _ _ hq (by rw [Nat.pow_succ] at h2; omega))
    · have he : m / 10 = n / 10 := by omega
      rw [he, less_app]
      have h3 : (UInt8.ofNat (48 + m % 10)).toNat = 48 + m % 10 := by simp; omega
      have h4 : (UInt8.ofNat (48 + n % 10)).toNat = 48 + n % 10 := by simp; omega
      simp only [Op.bytesLess, Bool.or_eq_true, decide_eq_true_eq]
      left
      rw [UInt8.lt_iff_toNat_lt, h3, h4]
      omega
theorem less_mk (p : List UInt8) {w m n : Nat} (h : m < n) (h2 : n < 10 ^ w) : Op.bytesLess (mkL p w m) (mkL p w n) = true := by
  unfold mkL
  rw [List.append_assoc, List.append_assoc, less_app]
  exact less_ext _ _ _ _ (by simp [digs_len]) (less_digs w m n h h2)
/-! ### Masks, groups -/
def maskL (s : List UInt8) : List UInt8 := if chk s = 0 then s.take 6 ++ List.replicate (s.length - 10) 42 ++ s.drop (s.length - 4) else List.replicate s.length 42
def grpL (i : Nat) : List UInt8 → List UInt8
  | [] => []
  | c :: l => (if 0 < i ∧ i % 4 = 0 then [32] else []) ++ c :: grpL (i + 1) l
def wthB (s lo hi : List UInt8) : Bool := decide (lo.length = hi.length) && (decide (1 ≤ lo.length) && (decide (lo.length ≤ s.length) && (s.all digB && (lo.all digB && (hi.all digB && ((Op.bytesLess lo (s.take lo.length) || lo == s.take lo.length) && (Op.bytesLess (s.take lo.length) hi || s.take lo.length == hi)))))))
def dgAt (s : List UInt8) (i : Nat) : Bool := match s[i]? with | some c => digB c | none => false
def hdB : List UInt8 → Bool
  | [] => false
  | x :: _ => digB x
/-- What is left of a text whose digits may be grouped: none if a mark stands at a wrong place; the digit in front is told. -/
def strL (d : Bool) : List UInt8 → Option (List UInt8)
  | [] => some []
  | c :: l => if digB c = true then (strL true l).map (c :: ·) else if (c = 32 ∨ c = 45) ∧ d = true ∧ hdB l = true then strL false l else none
def strV (s : List UInt8) : Value := match strL false s with
  | none => .tuple #[.string (bs []), .int .i64 2]
  | some l => if chk l = 0 then .tuple #[.string (bs l), .int .i64 0] else .tuple #[.string (bs []), .int .i64 (chk l)]
/-- Groups of digits give them back. -/
theorem str_grp : ∀ (l : List UInt8) (i : Nat) (d : Bool), l.all digB = true → (0 < i → d = true) → strL d (grpL i l) = some l
  | [], i, d, _, _ => rfl
  | c :: l, i, d, h, hd => by
    simp only [List.all_cons, Bool.and_eq_true] at h
    have ih := str_grp l (i + 1) true h.2 (fun _ => rfl)
    simp only [grpL]
    split
    · rename_i hi
      have h32 : digB 32 = false := by decide
      simp only [List.cons_append, List.nil_append, strL, hdB, h32, h.1, hd hi.1, ih]
      simp
    · simp only [List.nil_append, strL, h.1, if_true, ih]
      rfl
end Go.Proofs.Ytmjkjpjjckcihaa
