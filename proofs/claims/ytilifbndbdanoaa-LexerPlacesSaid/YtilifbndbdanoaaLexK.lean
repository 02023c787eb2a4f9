/-
The lexer: spaces at the end of a source, and where the lexemes lie: plain laws.
Conditions: none.
-/
import Derived.Test.YtilifbndbdanoaaLexJ
namespace Go.Proofs.Ytilifbndbdanoaa
open Go.Vm
set_option linter.unusedSimpArgs false
set_option linter.unusedVariables false
set_option maxHeartbeats 1000000
set_option maxRecDepth 20000

def sps (m : Nat) : List UInt8 := List.replicate m 32
theorem wlen_sps (m : Nat) : wlen (sps m) = 0 := by cases m <;> simp [sps, List.replicate, wlen, wordB, letterB, digitB]
theorem wlen_app (m : Nat) : ∀ l : List UInt8, wlen (l ++ sps m) = wlen l
  | [] => by simp [wlen_sps, wlen]
  | c :: l => by
    simp only [List.cons_append, wlen, wlen_app m l]
theorem skN_sps (r : Bool) : ∀ m, skN r (sps m) = m
  | 0 => rfl
  | m + 1 => by
    have := skN_sps r m
    simp only [sps, List.replicate_succ, skN, blankB] at *
    cases r <;> simpa using this
theorem skN_app (m : Nat) : ∀ (l : List UInt8) (r : Bool), skN r (l ++ sps m) = if skN r l = l.length then l.length + m else skN r l
  | [], r => by simp [skN_sps, skN]
  | c :: l, r => by
    have ih := skN_app m l ((r || decide (c.toNat = 35)) && !decide (c.toNat = 10))
    simp only [List.cons_append, skN, List.length_cons]
    by_cases h : (r || (blankB c.toNat || decide (c.toNat = 35))) = true
    · simp only [h, if_true, ih]
      split <;> split <;> omega
    · simp only [h, Bool.false_eq_true, if_false]
      split <;> omega
theorem litR_sps : ∀ m, litR (sps m) = none
  | 0 => rfl
  | m + 1 => by
    have := litR_sps m
    simp only [sps, List.replicate_succ, litR, badC] at *
    simp [this]
theorem litR_app (m : Nat) : ∀ l : List UInt8, litR (l ++ sps m) = litR l
  | [] => by simp [litR_sps, litR]
  | c :: l => by simp only [List.cons_append, litR, litR_app m l]
theorem litR_lt : ∀ (l : List UInt8) (k : Nat), litR l = some k → k < l.length
  | [], k, h => by simp [litR] at h
  | c :: l, k, h => by
    simp only [litR] at h
    split at h
    · cases h; simp
    · split at h
      · cases h
      · cases hl : litR l with
        | none => rw [hl] at h; cases h
        | some j =>
          rw [hl] at h
          cases h
          have := litR_lt l j hl
          simp; omega
theorem pre2_app (m : Nat) (c : UInt8) (l : List UInt8) : pre2 (c :: l ++ sps m) = pre2 (c :: l) := by
  unfold pre2
  cases l with
  | nil => cases m <;> simp [sps, List.replicate, List.isPrefixOf]
  | cons d l => simp [List.isPrefixOf]
theorem ext_list (t : ByteArray) (i j : Nat) : (t.extract i j).data.toList = (t.data.toList.take j).drop i := by
  rw [ByteArray.data_extract]
  simp [List.extract_eq_take_drop, List.drop_take]
theorem ba_ext {a b : ByteArray} (h : a.data.toList = b.data.toList) : a = b := by
  cases a; cases b
  simp only at h
  congr 1
  exact Array.ext' h
theorem ext_same {s t : ByteArray} {m : Nat} (ht : t.toList = s.toList ++ sps m) {i j : Nat} (hj : j ≤ s.size) : t.extract i j = s.extract i j := by
  apply ba_ext
  rw [ext_list, ext_list, ← ByteArray.toList_eq, ← ByteArray.toList_eq, ht, List.take_append_of_le_length (by rw [size_list]; exact hj)]
theorem lexR_app {s t : ByteArray} {m : Nat} (ht : t.toList = s.toList ++ sps m) {i : Nat} (hi : i < s.size) : lexR t i = lexR s i := by
  obtain ⟨c, l, hl⟩ := drop_byte hi
  obtain ⟨hp, hc, hl', hsl, hb⟩ := byte_at hl
  have hlt : t.toList.drop i = c :: l ++ sps m := by rw [ht, List.drop_append_of_le_length (by rw [size_list]; omega), hl]
  have hlt1 : t.toList.drop (i + 1) = l ++ sps m := by rw [← List.drop_drop, hlt]; rfl
  have hwl : i + wlen (c :: l) ≤ s.size := by have := wlen_le (c :: l); simp only [List.length_cons] at this; omega
  have e1 : wlen (c :: (l ++ sps m)) = wlen (c :: l) := wlen_app m (c :: l)
  have e2 : pre2 (c :: (l ++ sps m)) = pre2 (c :: l) := pre2_app m c l
  have e3 : textR t i = textR s i := by
    unfold textR
    rw [hlt1, hl', litR_app]
    cases hk : litR l with
    | none => rfl
    | some k =>
      have := litR_lt l k hk
      simp only
      rw [ext_same ht (by omega)]
  unfold lexR
  rw [hlt, hl]
  simp only [List.cons_append, e1, e2, e3]
  rw [ext_same ht hwl]
  split
  · rename_i h1
    have : 0 < l.length := by
      simp only [pre2, Bool.or_eq_true] at h1
      rcases h1 with h1 | h1 <;> exact (isPre2 _ _ _ _ h1).2.2
    rw [ext_same ht (by omega)]
  · split
    · rfl
    · split
      · rfl
      · split
        · rfl
        · rw [ext_same ht (by omega)]
/-- The end of a list moved. -/
def moved (n m : Nat) (l : List LR) : List LR := l.map fun x => if x.k = 0 then { x with a := n + m } else x
theorem lexR_kind (s : ByteArray) (i : Nat) (hi : i < s.size) (h0 : (lexR s i).e = 0) : (lexR s i).k ≠ 0 := by
  obtain ⟨c, l, hl⟩ := drop_byte hi
  revert h0
  unfold lexR
  rw [hl]
  simp only
  split
  · intro _; simp
  split
  · split
    · intro h; cases h
    · intro _; simp
  split
  · split
    · intro h; rename_i h2; exact absurd h h2
    · intro _; simp
  split
  · rcases litV_text s i hi with ⟨_, h6⟩ | ⟨_, h6⟩ | ⟨k, h4, _, h6⟩
    · rw [h6]; intro h; cases h
    · rw [h6]; intro h; cases h
    · rw [h6]; intro _; simp
  split
  · intro _; simp
  · intro h; cases h
def mv (s : ByteArray) (m i : Nat) : Nat := if i = s.size then s.size + m else i
theorem mv_sk {s t : ByteArray} {m : Nat} (ht : t.toList = s.toList ++ sps m) {j : Nat} (hj : j ≤ s.size) : j + skN false (t.toList.drop j) = mv s m (j + skN false (s.toList.drop j)) := by
  rw [ht, List.drop_append_of_le_length (by rw [size_list]; exact hj), skN_app]
  have hl : (s.toList.drop j).length = s.size - j := by rw [List.length_drop, size_list]
  have hle := skN_le false (s.toList.drop j)
  unfold mv
  split <;> split <;> omega
theorem scanG_app {s t : ByteArray} {m : Nat} (ht : t.toList = s.toList ++ sps m) (htn : t.size = s.size + m) : ∀ (f f' i : Nat), s.size < i + f → t.size < mv s m i + f' → i ≤ s.size →
    scanG t f' (mv s m i) = ((scanG s f i).1, (scanG s f i).2.1, moved s.size m (scanG s f i).2.2) := by
  intro f
  induction f with
  | zero => intro f' i h1 h2 h3; omega
  | succ f ih =>
    intro f' i h1 h2 h3
    cases f' with
    | zero => unfold mv at h2; split at h2 <;> omega
    | succ f' =>
      by_cases hi : i = s.size
      · have h4 : t.size ≤ mv s m i := by unfold mv; rw [if_pos hi]; omega
        have h5 : s.size ≤ i := by omega
        simp only [scanG]
        rw [if_pos h4, if_pos h5]
        simp [moved, endR, htn]
      · have e0 : mv s m i = i := by unfold mv; rw [if_neg hi]
        have hlt : i < s.size := by omega
        have h4 : ¬ t.size ≤ i := by omega
        have h5 : ¬ s.size ≤ i := by omega
        rw [e0] at h2 ⊢
        simp only [scanG, h4, h5, if_false, lexR_app ht hlt]
        by_cases he : (lexR s i).e = 0
        · have hn := lexR_next s i hlt he
          have hk := lexR_kind s i hlt he
          have e1 := mv_sk ht hn.2
          have e2 := skN_end s (lexR s i).nx hn.2
          have IH := ih f' ((lexR s i).nx + skN false (s.toList.drop (lexR s i).nx)) (by omega) (by rw [← e1]; omega) e2
          simp only [he, ne_eq, not_true_eq_false, if_false, e1, IH]
          split
          · simp [moved, hk]
          · simp [moved]
        · simp [he, moved]
theorem scanF_app {s t : ByteArray} {m : Nat} (ht : t.toList = s.toList ++ sps m) (htn : t.size = s.size + m) (h4 : t.size ≤ 4000) : scanF t = ((scanF s).1, (scanF s).2.1, moved s.size m (scanF s).2.2) := by
  have h1 : ¬ 4000 < t.size := by omega
  have h2 : ¬ 4000 < s.size := by omega
  unfold scanF
  rw [if_neg h1, if_neg h2]
  have e := mv_sk ht (Nat.zero_le s.size)
  simp only [List.drop_zero, Nat.zero_add] at e
  rw [e]
  exact scanG_app ht htn _ _ _ (by omega) (by rw [← e]; omega) (by have := skN_end s 0 (by omega); simpa using this)
/-- Where lexemes lie: from `i` on, ascending. -/
def Lies (s : ByteArray) : Nat → List LR → Prop
  | _, [] => True
  | i, [x] => x = endR s ∧ i ≤ s.size
  | i, x :: l => i ≤ x.a ∧ x.a < s.size ∧ x.k ≠ 0 ∧ (x.k = 1 ∨ x.k = 4 → x.t.toList.isPrefixOf (s.toList.drop x.a) = true) ∧ Lies s (x.a + 1) l
theorem Lies.mk {s : ByteArray} {i : Nat} {x : LR} {l : List LR} (hne : l ≠ []) (h1 : i ≤ x.a) (h2 : x.a < s.size) (h3 : x.k ≠ 0) (h4 : x.k = 1 ∨ x.k = 4 → x.t.toList.isPrefixOf (s.toList.drop x.a) = true) (h5 : Lies s (x.a + 1) l) : Lies s i (x :: l) := by
  cases l with
  | nil => exact absurd rfl hne
  | cons y l => exact ⟨h1, h2, h3, h4, h5⟩
theorem lies_at {s : ByteArray} : ∀ (L : List LR) (j : Nat), Lies s j L → ∀ i x, L[i]? = some x → j ≤ x.a ∧ x.a ≤ s.size ∧ (i + 1 < L.length → x.a < s.size ∧ x.k ≠ 0 ∧ (x.k = 1 ∨ x.k = 4 → x.t.toList.isPrefixOf (s.toList.drop x.a) = true)) ∧ (i + 1 = L.length → x = endR s) ∧
    (∀ y, L[i + 1]? = some y → x.a < y.a)
  | [], _, _, i, x, h => by simp at h
  | [z], j, hl, i, x, h => by
    unfold Lies at hl
    cases i with
    | zero =>
      simp at h
      subst h
      obtain ⟨e1, e2⟩ := hl
      rw [e1]
      refine ⟨e2, Nat.le_refl _, fun h => ?_, fun _ => rfl, fun y hy => ?_⟩
      · simp at h
      · simp at hy
    | succ i => simp at h
  | z :: y :: l, j, hl, i, x, h => by
    unfold Lies at hl
    obtain ⟨h1, h2, h3, h4, h5⟩ := hl
    have ih := lies_at (y :: l) (z.a + 1) h5
    cases i with
    | zero =>
      simp at h
      subst h
      refine ⟨h1, by omega, fun _ => ⟨h2, h3, h4⟩, fun h => ?_, fun w hw => ?_⟩
      · simp at h
      · have := (ih 0 w (by simpa using hw)).1
        omega
    | succ i =>
      have q := ih i x (by simpa using h)
      refine ⟨by omega, q.2.1, fun h => q.2.2.1 (by simpa using h), fun h => q.2.2.2.1 (by simpa using h), fun w hw => q.2.2.2.2 w (by simpa using hw)⟩
theorem ext_prefix (s : ByteArray) (i w : Nat) : (s.extract i (i + w)).toList.isPrefixOf (s.toList.drop i) = true := by
  have e : (s.extract i (i + w)).toList = (s.toList.drop i).take w := by
    rw [ByteArray.toList_eq, ByteArray.toList_eq, ext_list, List.drop_take]
    congr 1
    omega
  rw [e]
  exact List.isPrefixOf_iff_prefix.2 (List.take_prefix _ _)
theorem lexR_a (s : ByteArray) (i : Nat) (hi : i < s.size) (h0 : (lexR s i).e = 0) : (lexR s i).a = i ∧ ((lexR s i).k = 1 ∨ (lexR s i).k = 4 → (lexR s i).t.toList.isPrefixOf (s.toList.drop i) = true) := by
  obtain ⟨c, l, hl⟩ := drop_byte hi
  have hp := ext_prefix s i
  rw [hl] at hp ⊢
  revert h0
  unfold lexR
  rw [hl]
  simp only
  split
  · intro _; exact ⟨rfl, fun _ => hp 2⟩
  split
  · split
    · intro h; cases h
    · intro _; exact ⟨rfl, fun _ => hp _⟩
  split
  · split
    · intro h; rename_i h2; exact absurd h h2
    · intro _; exact ⟨rfl, fun h => by simp at h⟩
  split
  · rcases litV_text s i hi with ⟨_, h6⟩ | ⟨_, h6⟩ | ⟨k, h4, _, h6⟩
    · rw [h6]; intro h; cases h
    · rw [h6]; intro h; cases h
    · rw [h6]; intro _; exact ⟨rfl, fun h => by simp at h⟩
  split
  · intro _; exact ⟨rfl, fun _ => hp 1⟩
  · intro h; cases h
theorem scanG_lies (s : ByteArray) : ∀ f i, s.size < i + f → i ≤ s.size → (scanG s f i).1 = 0 → Lies s i (scanG s f i).2.2 := by
  intro f
  induction f with
  | zero => intro i h1 h2; omega
  | succ f ih =>
    intro i h1 h2 h3
    by_cases h5 : s.size ≤ i
    · simp only [scanG, h5, if_true, Lies]
      exact ⟨trivial, h2⟩
    · have hlt : i < s.size := by omega
      by_cases he : (lexR s i).e = 0
      · have hn := lexR_next s i hlt he
        have e2 := skN_end s (lexR s i).nx hn.2
        have ha := lexR_a s i hlt he
        simp only [scanG, h5, if_false, he, ne_eq, not_true_eq_false] at h3 ⊢
        have IH := ih _ (by omega) e2 h3
        have hpos := scanG_pos s _ _ (by omega) h3 e2
        rw [if_pos h3]
        refine Lies.mk (fun h => by rw [h] at hpos; simp at hpos) (by omega) (by omega) (lexR_kind s i hlt he) (by rw [ha.1]; exact ha.2) ?_
        rw [ha.1]
        cases hL : (scanG s f ((lexR s i).nx + skN false (s.toList.drop (lexR s i).nx))).2.2 with
        | nil => trivial
        | cons x l =>
          rw [hL] at IH
          cases l with
          | nil => exact ⟨IH.1, by omega⟩
          | cons y l => exact ⟨by have := IH.1; omega, IH.2⟩
      · simp [scanG, h5, he] at h3
theorem scanG_err (s : ByteArray) : ∀ f i, (scanG s f i).1 ≠ 0 → (scanG s f i).2.1 < s.size := by
  intro f
  induction f with
  | zero => intro i h; simp [scanG] at h
  | succ f ih =>
    intro i h
    by_cases h5 : s.size ≤ i
    · simp [scanG, h5] at h
    · by_cases he : (lexR s i).e = 0
      · simp only [scanG, h5, if_false, he, ne_eq, not_true_eq_false] at h ⊢
        exact ih _ h
      · simp [scanG, h5, he]; omega
theorem scanF_lies (s : ByteArray) (h : (scanF s).1 = 0) : Lies s 0 (scanF s).2.2 := by
  unfold scanF at h ⊢
  split at h
  · cases h
  · rename_i h1
    rw [if_neg h1]
    have hiz := skN_end s 0 (by omega)
    simp only [List.drop_zero, Nat.zero_add] at hiz
    have := scanG_lies s _ _ (by omega) hiz h
    cases hL : (scanG s (s.size + 1) (skN false s.toList)).2.2 with
    | nil => trivial
    | cons x l =>
      rw [hL] at this
      cases l with
      | nil => exact ⟨this.1, by omega⟩
      | cons y l => exact ⟨by omega, this.2⟩
theorem scanF_err (s : ByteArray) (h4 : s.size ≤ 4000) (h : (scanF s).1 ≠ 0) : (scanF s).2.1 < s.size := by
  have h1 : ¬ 4000 < s.size := by omega
  unfold scanF at h ⊢
  rw [if_neg h1] at h ⊢
  exact scanG_err s _ _ h
theorem moved_at (n m : Nat) (L : List LR) (i : Nat) (x : LR) (h : L[i]? = some x) : (moved n m L)[i]? = some (if x.k = 0 then { x with a := n + m } else x) := by
  simp [moved, h]
theorem moved_len (n m : Nat) (L : List LR) : (moved n m L).length = L.length := by simp [moved]
end Go.Proofs.Ytilifbndbdanoaa
