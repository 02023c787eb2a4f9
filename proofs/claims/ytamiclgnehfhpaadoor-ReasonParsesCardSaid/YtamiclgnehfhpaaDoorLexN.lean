/-
Lexemes: what they print as, and how the print is scanned again.
Conditions: none.
-/
import Derived.Test.YtamiclgnehfhpaaDoorLexX
import Derived.Test.YtamiclgnehfhpaaDoorBs
import Derived.Lib.Join
namespace Go.Proofs.YtamiclgnehfhpaaDoor
open Go.Vm
set_option linter.unusedSimpArgs false
set_option linter.unusedVariables false
set_option maxHeartbeats 1000000
set_option maxRecDepth 20000
theorem xt_list (t : ByteArray) (i j : Nat) : (t.extract i j).toList = (t.toList.take j).drop i := by
  rw [ByteArray.toList_eq, ByteArray.toList_eq, ByteArray.data_extract]
  simp [List.extract_eq_take_drop, List.drop_take]
theorem ba_list {a b : ByteArray} (h : a.toList = b.toList) : a = b := by
  rw [ByteArray.toList_eq, ByteArray.toList_eq] at h
  exact ba_ext h
theorem xt_at {s : ByteArray} {i : Nat} {w r : List UInt8} (h : s.toList.drop i = w ++ r) : (s.extract i (i + w.length)).toList = w := by
  rw [xt_list, List.drop_take, h]; simp
def formX (x : LR) : List UInt8 := if x.k = 1 ∨ x.k = 4 then x.t.toList else if x.k = 2 then Lib.itoa x.n else if x.k = 3 then 34 :: (x.t.toList ++ [34]) else []
def printed (x : LR) : Bool := decide (1 ≤ x.k) && decide (x.k ≤ 4)
def partsX (L : List LR) : List (List UInt8) := (L.filter printed).map formX
def printX (L : List LR) : List UInt8 := Lib.join (partsX L) [32]
/-- A lexeme as scanning gives it. -/
def wfX (x : LR) : Prop :=
  (x.k = 1 ∧ x.n = 0 ∧ x.t.toList.length ≤ 16 ∧ wlen x.t.toList = x.t.toList.length ∧ ∃ c l, x.t.toList = c :: l ∧ letterB c.toNat = true) ∨
  (x.k = 2 ∧ x.t = ⟨#[]⟩ ∧ ∃ m : Nat, x.n = m ∧ m ≤ 9007199254740992) ∨
  (x.k = 3 ∧ x.n = 0 ∧ x.t.toList.length ≤ 100 ∧ litR (x.t.toList ++ [34]) = some x.t.toList.length) ∨
  (x.k = 4 ∧ x.n = 0 ∧ (x.t.toList = [33, 61] ∨ x.t.toList = [60, 61] ∨ ∃ c, x.t.toList = [c] ∧ markB c.toNat = true))
/-- Nothing, or a space. -/
def Stop (r : List UInt8) : Prop := r = [] ∨ ∃ l, r = 32 :: l
theorem mark_not : ∀ c, c < 256 → markB c = true → letterB c = false ∧ digitB c = false ∧ c ≠ 34 ∧ blankB c = false ∧ c ≠ 35 := by decide +kernel
theorem letter_not : ∀ c, c < 256 → letterB c = true → digitB c = false ∧ c ≠ 34 ∧ blankB c = false ∧ c ≠ 35 ∧ c ≠ 33 ∧ c ≠ 60 := by decide +kernel
theorem digit_not : ∀ c, c < 256 → digitB c = true → letterB c = false ∧ c ≠ 34 ∧ blankB c = false ∧ c ≠ 35 ∧ c ≠ 33 ∧ c ≠ 60 ∧ wordB c = true := by decide +kernel
theorem wlen_stop {r : List UInt8} (h : Stop r) : ∀ w : List UInt8, wlen w = w.length → wlen (w ++ r) = w.length
  | [], _ => by rcases h with rfl | ⟨l, rfl⟩ <;> simp [wlen, wordB, letterB, digitB]
  | c :: w, hw => by
    simp only [wlen, List.length_cons] at hw
    by_cases hc : wordB c.toNat = true
    · rw [if_pos hc] at hw
      simp only [List.cons_append, wlen, hc, if_true, List.length_cons]
      rw [wlen_stop h w (by omega)]
    · rw [if_neg hc] at hw; omega
theorem litR_stop {r : List UInt8} : ∀ (w : List UInt8), litR (w ++ [34]) = some w.length → litR (w ++ 34 :: r) = some w.length
  | [], _ => by simp [litR]
  | c :: w, h => by
    simp only [List.cons_append, litR] at h ⊢
    by_cases h1 : c.toNat = 34
    · rw [if_pos h1] at h; simp at h
    · rw [if_neg h1] at h ⊢
      by_cases h2 : badC c = true
      · rw [if_pos h2] at h; cases h
      · rw [if_neg h2] at h ⊢
        cases h3 : litR (w ++ [34]) with
        | none => rw [h3] at h; cases h
        | some k =>
          rw [h3] at h
          simp only [Option.some.injEq, List.length_cons] at h
          have : k = w.length := by omega
          subst this
          rw [litR_stop w h3]
          rfl
theorem dec_word : ∀ (n : Nat), allDig (Lib.decDigits n) = true := by
  intro n
  induction n using Nat.strongRecOn with
  | ind n ih =>
    rw [Lib.decDigits]
    unfold allDig at *
    split
    · rename_i h
      have : (UInt8.ofNat (48 + n)).toNat = 48 + n := by simp; omega
      simp [digitB, this]; omega
    · rename_i h
      have h1 := ih (n / 10) (by omega)
      have : (UInt8.ofNat (48 + n % 10)).toNat = 48 + n % 10 := by simp; omega
      rw [List.all_append, h1, Bool.true_and, List.all_cons, List.all_nil, Bool.and_true, this]
      simp only [digitB, Bool.and_eq_true, decide_eq_true_eq]; omega
theorem decV_app : ∀ (a b : List UInt8) (n : Nat), decV (a ++ b) n = decV b (decV a n)
  | [], _, _ => rfl
  | c :: a, b, n => by simp only [List.cons_append, decV]; exact decV_app a b _
theorem dec_val (n : Nat) : decV (Lib.decDigits n) 0 = n := by
  induction n using Nat.strongRecOn with
  | ind n ih =>
    rw [Lib.decDigits]
    split
    · rename_i h
      have : (UInt8.ofNat (48 + n)).toNat = 48 + n := by simp; omega
      simp only [decV, this]; omega
    · rename_i h
      have h1 := ih (n / 10) (by omega)
      have : (UInt8.ofNat (48 + n % 10)).toNat = 48 + n % 10 := by simp; omega
      rw [decV_app, h1]
      simp only [decV, this]; omega
theorem dec_ne (n : Nat) : Lib.decDigits n ≠ [] := by
  rw [Lib.decDigits]; split <;> simp
theorem dec_head (n : Nat) (h : 0 < n) : (Lib.decDigits n).head? ≠ some 48 := by
  induction n using Nat.strongRecOn with
  | ind n ih =>
    rw [Lib.decDigits]
    split
    · rename_i h1
      have : (UInt8.ofNat (48 + n)).toNat = 48 + n := by simp; omega
      simp only [List.head?_cons, ne_eq, Option.some.injEq]
      intro e
      rw [e] at this
      simp at this
      omega
    · rename_i h1
      have h2 := ih (n / 10) (by omega) (by omega)
      cases hd : Lib.decDigits (n / 10) with
      | nil => exact absurd hd (dec_ne _)
      | cons c l => rw [hd] at h2; simpa using h2
theorem dec_lead (n : Nat) : lead0 (Lib.decDigits n) = false := by
  by_cases h : n < 10
  · rw [Lib.decDigits, dif_pos h]; rfl
  · have := dec_head n (by omega)
    simp only [lead0, Bool.and_eq_false_iff, decide_eq_false_iff_not]
    exact .inr this
theorem num_dec {m : Nat} (h : m ≤ 9007199254740992) : numF (Lib.decDigits m) = ((m : Int), 0) := by
  unfold numF
  rw [if_neg (by rw [dec_word]; simp), if_neg (by rw [dec_lead]; simp), dec_val, if_neg (by omega)]
theorem wlen_dig : ∀ (w : List UInt8), allDig w = true → wlen w = w.length
  | [], _ => rfl
  | c :: w, h => by
    rw [allDig_cons, Bool.and_eq_true] at h
    have := (digit_not c.toNat (u8_lt c) h.1).2.2.2.2.2.2
    simp only [wlen, this, if_true, List.length_cons]
    rw [wlen_dig w h.2]
theorem decV_lt : ∀ (w : List UInt8) (n k : Nat), n < 10 ^ k → allDig w = true → decV w n < 10 ^ (k + w.length)
  | [], n, k, h, _ => by simpa [decV] using h
  | c :: w, n, k, h, hd => by
    rw [allDig_cons, Bool.and_eq_true] at hd
    have hb := dig_bounds hd.1
    have := decV_lt w (10 * n + (c.toNat - 48)) (k + 1) (by rw [Nat.pow_succ]; omega) hd.2
    simp only [decV, List.length_cons]
    rw [show k + (w.length + 1) = k + 1 + w.length by omega]
    exact this
/-- What begins a form. -/
theorem form_head {x : LR} (h : wfX x) : ∃ c l, formX x = c :: l ∧ blankB c.toNat = false ∧ c.toNat ≠ 35 := by
  rcases h with ⟨k, _, _, _, c, l, h1, h2⟩ | ⟨k, _, m, hm, _⟩ | ⟨k, _⟩ | ⟨k, _, h⟩
  · have := letter_not c.toNat (u8_lt c) h2
    exact ⟨c, l, by simp [formX, k, h1], this.2.2.1, this.2.2.2.1⟩
  · cases hd : Lib.decDigits m with
    | nil => exact absurd hd (dec_ne m)
    | cons c l =>
      have h1 := dec_word m
      rw [hd, allDig_cons, Bool.and_eq_true] at h1
      have := digit_not c.toNat (u8_lt c) h1.1
      refine ⟨c, l, ?_, this.2.2.1, this.2.2.2.1⟩
      have e : formX x = Lib.decDigits m := by simp [formX, k, hm, Lib.itoa]
      rw [e]; exact hd
  · exact ⟨34, _, by simp only [formX, k]; rfl, by decide, by decide⟩
  · rcases h with h | h | ⟨c, h, hc⟩
    · exact ⟨33, [61], by simp [formX, k, h], by decide, by decide⟩
    · exact ⟨60, [61], by simp [formX, k, h], by decide, by decide⟩
    · have := mark_not c.toNat (u8_lt c) hc
      exact ⟨c, [], by simp [formX, k, h], this.2.2.2.1, this.2.2.2.2⟩
theorem pre2_no {c : UInt8} {l : List UInt8} (h1 : c.toNat ≠ 33) (h2 : c.toNat ≠ 60) : pre2 (c :: l) = false := by
  simp only [pre2, List.isPrefixOf, Bool.or_eq_false_iff, Bool.and_eq_false_iff, beq_eq_false_iff_ne]
  exact ⟨.inl fun e => h1 (by rw [← e]; rfl), .inl fun e => h2 (by rw [← e]; rfl)⟩
theorem pre2_stop {c : UInt8} {r : List UInt8} (h : Stop r) : pre2 (c :: r) = false := by
  rcases h with rfl | ⟨l, rfl⟩ <;> simp [pre2, List.isPrefixOf]
theorem lex_form {x : LR} (hx : wfX x) {s : ByteArray} {i : Nat} {r : List UInt8} (h : s.toList.drop i = formX x ++ r) (hr : Stop r) : lexR s i = ⟨x.k, x.t, x.n, i, i + (formX x).length, 0⟩ := by
  rcases hx with ⟨k, hn, h16, hw, c, l, h1, h2⟩ | ⟨k, ht, m, hm, hle⟩ | ⟨k, hn, h100, hl⟩ | ⟨k, hn, hm⟩
  · have hf : formX x = x.t.toList := by simp [formX, k]
    rw [hf] at h ⊢
    have e1 := wlen_stop hr _ hw
    have e2 := xt_at h
    obtain ⟨_, _, _, _, n33, n60⟩ := letter_not c.toNat (u8_lt c) h2
    have e3 : s.extract i (i + x.t.toList.length) = x.t := ba_list e2
    rw [h1] at h e1 h16 e3 ⊢
    unfold lexR
    rw [h]
    simp only [List.cons_append] at e1 ⊢
    rw [if_neg (by rw [pre2_no n33 n60]; simp), if_pos h2, e1, if_neg (by omega), e3, k, hn]
  · have hf : formX x = Lib.decDigits m := by simp [formX, k, hm, Lib.itoa]
    rw [hf] at h ⊢
    have e1 := wlen_stop hr _ (wlen_dig _ (dec_word m))
    have e2 := xt_at h
    have hnum := num_dec hle
    cases hd : Lib.decDigits m with
    | nil => exact absurd hd (dec_ne m)
    | cons c l =>
      have h1 := dec_word m
      rw [hd] at h h1 e1 e2 hnum
      rw [allDig_cons, Bool.and_eq_true] at h1
      obtain ⟨nl, _, _, _, n33, n60, _⟩ := digit_not c.toNat (u8_lt c) h1.1
      unfold lexR
      rw [h]
      simp only [List.cons_append] at e1 ⊢
      rw [if_neg (by rw [pre2_no n33 n60]; simp), if_neg (by rw [nl]; simp), if_pos h1.1, e1, e2, hnum, if_neg (by simp), k, ht, hm]
  · have hf : formX x = 34 :: (x.t.toList ++ [34]) := by simp [formX, k]
    rw [hf] at h ⊢
    have h' : s.toList.drop (i + 1) = x.t.toList ++ 34 :: r := by rw [← List.drop_drop, h]; simp
    have e2 : s.extract (i + 1) (i + 1 + x.t.toList.length) = x.t := ba_list (xt_at h')
    unfold lexR
    rw [h]
    simp only [List.cons_append]
    rw [if_neg (by rw [pre2_no (by decide) (by decide)]; simp), if_neg (by decide), if_neg (by decide), if_pos (by decide)]
    unfold textR
    rw [h', litR_stop _ hl]
    simp only
    rw [if_neg (by omega), e2, k, hn]
    simp only [List.length_cons, List.length_append, List.length_nil, LR.mk.injEq, and_true, true_and]
    omega
  · have hf : formX x = x.t.toList := by simp [formX, k]
    rw [hf] at h ⊢
    have e3 : s.extract i (i + x.t.toList.length) = x.t := ba_list (xt_at h)
    rcases hm with hm | hm | ⟨c, hm, hc⟩
    · rw [hm] at h e3 ⊢
      unfold lexR
      rw [h]
      simp only [List.cons_append, List.nil_append]
      rw [if_pos (by simp [pre2, List.isPrefixOf]), k, hn]
      simp only [List.length_cons, List.length_nil] at e3 ⊢
      rw [e3]
    · rw [hm] at h e3 ⊢
      unfold lexR
      rw [h]
      simp only [List.cons_append, List.nil_append]
      rw [if_pos (by simp [pre2, List.isPrefixOf]), k, hn]
      simp only [List.length_cons, List.length_nil] at e3 ⊢
      rw [e3]
    · rw [hm] at h e3 ⊢
      obtain ⟨nl, nd, nq, _⟩ := mark_not c.toNat (u8_lt c) hc
      unfold lexR
      rw [h]
      simp only [List.cons_append, List.nil_append]
      rw [if_neg (by rw [pre2_stop hr]; simp), if_neg (by rw [nl]; simp), if_neg (by rw [nd]; simp), if_neg nq, if_pos hc, k, hn]
      simp only [List.length_cons, List.length_nil] at e3 ⊢
      rw [e3]
/-- Scanning gives such lexemes, not longer in print than in the source. -/
theorem wlen_take : ∀ (l : List UInt8), wlen (l.take (wlen l)) = wlen l
  | [] => rfl
  | c :: l => by
    by_cases hc : wordB c.toNat = true
    · simp only [wlen, hc, if_true, List.take_succ_cons]
      rw [wlen_take l]
    · simp [wlen, hc]
theorem litR_take : ∀ (l : List UInt8) (k : Nat), litR l = some k → litR (l.take k ++ [34]) = some k ∧ k < l.length
  | [], _, h => by simp [litR] at h
  | c :: l, k, h => by
    simp only [litR] at h
    by_cases h1 : c.toNat = 34
    · rw [if_pos h1] at h; cases h; simp [litR]
    · rw [if_neg h1] at h
      by_cases h2 : badC c = true
      · rw [if_pos h2] at h; cases h
      · rw [if_neg h2] at h
        cases h3 : litR l with
        | none => rw [h3] at h; cases h
        | some j =>
          rw [h3] at h
          cases h
          obtain ⟨e1, e2⟩ := litR_take l j h3
          simp only [List.take_succ_cons, List.cons_append, litR, h1, if_false, e1, List.length_cons]
          rw [if_neg h2]
          exact ⟨rfl, by omega⟩
theorem lexR_wf (s : ByteArray) (i : Nat) (hi : i < s.size) (h0 : (lexR s i).e = 0) : wfX (lexR s i) ∧ (formX (lexR s i)).length + i ≤ (lexR s i).nx := by
  obtain ⟨c, l, hl⟩ := drop_byte hi
  obtain ⟨hp, hc, hl', hsl, hb⟩ := byte_at hl
  have hwl := wlen_le (c :: l)
  have hx : ∀ k, k ≤ (c :: l).length → (s.extract i (i + k)).toList = (c :: l).take k := fun k hk => by
    rw [xt_list, List.drop_take, hl]; congr 1; omega
  revert h0
  unfold lexR
  rw [hl]
  simp only
  split
  · rename_i h1
    intro _
    have : 0 < l.length := by
      simp only [pre2, Bool.or_eq_true] at h1
      rcases h1 with h1 | h1 <;> exact (isPre2 _ _ _ _ h1).2.2
    have e := hx 2 (by simp only [List.length_cons]; omega)
    cases l with
    | nil => simp at this
    | cons d l =>
      simp only [List.take_succ_cons, List.take_zero] at e
      refine ⟨.inr (.inr (.inr ⟨rfl, rfl, ?_⟩)), ?_⟩
      · simp only [pre2, List.isPrefixOf, Bool.or_eq_true, Bool.and_eq_true, beq_iff_eq, Bool.and_true, and_true] at h1
        simp only [e]
        rcases h1 with ⟨h1, h2⟩ | ⟨h1, h2⟩
        · exact .inl (by rw [← h1, ← h2])
        · exact .inr (.inl (by rw [← h1, ← h2]))
      · simp only [formX, e]; simp; omega
  split
  · rename_i h1
    split
    · intro h; cases h
    · rename_i h16
      intro _
      have e := hx (wlen (c :: l)) hwl
      have hlen : ((c :: l).take (wlen (c :: l))).length = wlen (c :: l) := by rw [List.length_take]; omega
      have hpos : 0 < wlen (c :: l) := by simp [wlen, wordB, h1]
      refine ⟨.inl ⟨rfl, rfl, ?_, ?_, ?_⟩, ?_⟩
      · simp only [e, hlen]; omega
      · simp only [e]; rw [wlen_take, hlen]
      · simp only [e]
        obtain ⟨j, hj⟩ : ∃ j, wlen (c :: l) = j + 1 := ⟨wlen (c :: l) - 1, by omega⟩
        rw [hj]
        exact ⟨c, _, rfl, h1⟩
      · simp only [formX, e, if_true, true_or]; rw [hlen]; omega
  split
  · rename_i h1
    have e := hx (wlen (c :: l)) hwl
    have hlen : ((c :: l).take (wlen (c :: l))).length = wlen (c :: l) := by rw [List.length_take]; omega
    have hpos : 0 < wlen (c :: l) := by simp [wlen, wordB, h1]
    split
    · intro h; rename_i h2; exact absurd h h2
    · rename_i h2
      intro _
      simp only [ne_eq, Decidable.not_not] at h2
      have hn : ∃ m : Nat, (numF (s.extract i (i + wlen (c :: l))).toList).1 = m ∧ m ≤ 9007199254740992 ∧ m < 10 ^ wlen (c :: l) := by
        revert h2
        unfold numF
        split
        · intro h; cases h
        · rename_i a1
          split
          · intro h; cases h
          · split
            · intro h; cases h
            · rename_i a3
              intro _
              refine ⟨_, rfl, by omega, ?_⟩
              rw [e] at a1 ⊢
              have := decV_lt ((c :: l).take (wlen (c :: l))) 0 0 (by simp) (by simpa using a1)
              rw [hlen] at this
              simpa using this
      obtain ⟨m, hm, hle, hlt⟩ := hn
      refine ⟨.inr (.inl ⟨rfl, rfl, m, hm, hle⟩), ?_⟩
      have h9 := dec_len _ m hpos hlt
      have e : formX ⟨2, ⟨#[]⟩, (numF (s.extract i (i + wlen (c :: l))).toList).1, i, i + wlen (c :: l), 0⟩ = Lib.decDigits m := by simp [formX, hm, Lib.itoa]
      rw [e]
      show (Lib.decDigits m).length + i ≤ i + wlen (c :: l)
      omega
  split
  · rename_i h34
    unfold textR
    rw [hl']
    cases hk : litR l with
    | none => intro h; cases h
    | some k =>
      simp only
      split
      · intro h; cases h
      · rename_i h100
        intro _
        obtain ⟨e1, e2⟩ := litR_take l k hk
        have e : (s.extract (i + 1) (i + 1 + k)).toList = l.take k := by
          rw [xt_list, List.drop_take, hl']; congr 1; omega
        have hlen : (l.take k).length = k := by rw [List.length_take]; omega
        refine ⟨.inr (.inr (.inl ⟨rfl, rfl, ?_, ?_⟩)), ?_⟩
        · simp only [e, hlen]; omega
        · simp only [e, hlen]; exact e1
        · simp only [formX, e]; simp; omega
  split
  · rename_i h5
    intro _
    have e := hx 1 (by simp)
    simp only [List.take_succ_cons, List.take_zero] at e
    refine ⟨.inr (.inr (.inr ⟨rfl, rfl, .inr (.inr ⟨c, e, h5⟩)⟩)), ?_⟩
    simp only [formX, e]; simp; omega
  · intro h; cases h
/-- What is the same of two lexemes. -/
def keyX (x : LR) : Int × ByteArray × Int := (x.k, x.t, x.n)
def lenX : List LR → Nat
  | [] => 0
  | x :: L => (formX x).length + 1 + lenX L
theorem scanG_wf (s : ByteArray) : ∀ f i, s.size < i + f → i ≤ s.size → (scanG s f i).1 = 0 → ∃ K, (scanG s f i).2.2 = K ++ [endR s] ∧ (∀ x ∈ K, wfX x) ∧ lenX K + 2 * i ≤ 2 * s.size := by
  intro f
  induction f with
  | zero => intro i h hi; omega
  | succ f ih =>
    intro i h hi
    simp only [scanG]
    split
    · intro _; exact ⟨[], rfl, by simp, by simp [lenX]; omega⟩
    · rename_i h1
      split
      · rename_i h2; intro h; exact absurd h h2
      · rename_i h2
        simp only [ne_eq, Decidable.not_not] at h2
        intro h3
        obtain ⟨n1, n2⟩ := lexR_next s i (by omega) h2
        have n3 := skN_end s _ n2
        obtain ⟨K, k1, k2, k3⟩ := ih ((lexR s i).nx + skN false (s.toList.drop (lexR s i).nx)) (by omega) n3 h3
        obtain ⟨w1, w2⟩ := lexR_wf s i (by omega) h2
        simp only at h3
        rw [if_pos h3, k1]
        refine ⟨lexR s i :: K, rfl, ?_, ?_⟩
        · intro x hx
          rcases List.mem_cons.1 hx with e | e
          · rw [e]; exact w1
          · exact k2 x e
        · simp only [lenX]; omega
theorem sk_form {x : LR} (h : wfX x) (r : List UInt8) : skN false (formX x ++ r) = 0 := by
  obtain ⟨c, l, h1, h2, h3⟩ := form_head h
  rw [h1]
  simp [skN, h2, h3]
theorem sk_sp (l : List UInt8) : skN false (32 :: l) = skN false l + 1 := by simp [skN, blankB]
theorem join_cons (a b : List UInt8) (l : List (List UInt8)) : Lib.join (a :: b :: l) [32] = a ++ 32 :: Lib.join (b :: l) [32] := by
  simp [Lib.join, List.intercalate, List.intersperse]
theorem scan_forms (s : ByteArray) : ∀ (L : List LR) (f i : Nat), s.size < i + f → i ≤ s.size → (∀ x ∈ L, wfX x) → s.toList.drop i = Lib.join (L.map formX) [32] → ∃ K, scanG s f i = (0, 0, K ++ [endR s]) ∧ K.map keyX = L.map keyX
  | L, 0, i, h, hi, _, _ => by omega
  | [], f + 1, i, h, hi, _, hd => by
    have : ¬ i < s.size := fun hlt => by
      obtain ⟨c, l, hl⟩ := drop_byte hlt
      rw [hl] at hd
      simp [Lib.join, List.intercalate] at hd
    exact ⟨[], by simp only [scanG]; rw [if_pos (by omega)]; rfl, rfl⟩
  | x :: L, f + 1, i, h, hi, hw, hd => by
    have wx := hw x (by simp)
    obtain ⟨r, hr, hst⟩ : ∃ r, s.toList.drop i = formX x ++ r ∧ ((L = [] ∧ r = []) ∨ ∃ y M, L = y :: M ∧ r = 32 :: Lib.join (L.map formX) [32]) := by
      cases L with
      | nil => exact ⟨[], by rw [hd]; simp [Lib.join, List.intercalate], .inl ⟨rfl, rfl⟩⟩
      | cons y M => exact ⟨_, by rw [hd, List.map_cons, List.map_cons, join_cons], .inr ⟨y, M, rfl, rfl⟩⟩
    have hstop : Stop r := by
      rcases hst with ⟨_, h⟩ | ⟨y, M, _, h⟩
      · exact .inl h
      · exact .inr ⟨_, h⟩
    have hlex := lex_form wx hr hstop
    have hpos : 0 < (formX x).length := by obtain ⟨c, l, e, _⟩ := form_head wx; rw [e]; simp
    have hlen := congrArg List.length hr
    rw [List.length_drop, size_list, List.length_append] at hlen
    have hd2 : s.toList.drop (i + (formX x).length) = r := by rw [← List.drop_drop, hr]; simp
    simp only [scanG]
    rw [if_neg (by omega), hlex]
    simp only [ne_eq, not_true_eq_false, if_false, hd2]
    rcases hst with ⟨rfl, rfl⟩ | ⟨y, M, rfl, rfl⟩
    · obtain ⟨K, k1, k2⟩ := scan_forms s [] f (i + (formX x).length) (by omega) (by simp at hlen; omega) (by simp) (by rw [hd2]; simp [Lib.join, List.intercalate])
      simp only [skN, Nat.add_zero, k1, if_true]
      exact ⟨⟨x.k, x.t, x.n, i, i + (formX x).length, 0⟩ :: K, rfl, by simp only [List.map_cons, k2]; rfl⟩
    · have wy := hw y (by simp)
      have sk : skN false (32 :: Lib.join ((y :: M).map formX) [32]) = 1 := by
        have : skN false (Lib.join ((y :: M).map formX) [32]) = 0 := by
          cases M with
          | nil => have := sk_form wy []; simpa [Lib.join, List.intercalate] using this
          | cons z M => rw [List.map_cons, List.map_cons, join_cons]; exact sk_form wy _
        rw [sk_sp, this]
      have hd3 : s.toList.drop (i + (formX x).length + 1) = Lib.join ((y :: M).map formX) [32] := by rw [← List.drop_drop, hd2]; rfl
      obtain ⟨K, k1, k2⟩ := scan_forms s (y :: M) f (i + (formX x).length + 1) (by omega) (by simp only [List.length_cons] at hlen; omega) (fun z hz => hw z (by simp only [List.mem_cons] at hz ⊢; exact .inr hz)) hd3
      simp only [sk, k1, if_true]
      exact ⟨⟨x.k, x.t, x.n, i, i + (formX x).length, 0⟩ :: K, rfl, by simp only [List.map_cons, k2]; rfl⟩
theorem join_len : ∀ L : List LR, (Lib.join (L.map formX) [32]).length ≤ lenX L
  | [] => by simp [Lib.join, List.intercalate, lenX]
  | [x] => by simp [Lib.join, List.intercalate, lenX]
  | x :: y :: L => by
    have := join_len (y :: L)
    rw [List.map_cons, List.map_cons, join_cons]
    simp only [lenX, List.map_cons, List.length_append, List.length_cons] at this ⊢
    omega
theorem form_key {x y : LR} (h : keyX x = keyX y) : formX x = formX y ∧ printed x = printed y := by
  simp only [keyX, Prod.mk.injEq] at h
  obtain ⟨h1, h2, h3⟩ := h
  simp [formX, printed, h1, h2, h3]
theorem parts_key : ∀ {L M : List LR}, L.map keyX = M.map keyX → partsX L = partsX M
  | [], [], _ => rfl
  | [], y :: M, h => by simp at h
  | x :: L, [], h => by simp at h
  | x :: L, y :: M, h => by
    simp only [List.map_cons, List.cons.injEq] at h
    have ih := parts_key h.2
    obtain ⟨h1, h2⟩ := form_key h.1
    unfold partsX at ih ⊢
    simp only [List.filter_cons, h2]
    split
    · simp only [List.map_cons, h1, ih]
    · exact ih
theorem wf_printed {x : LR} (h : wfX x) : printed x = true := by
  rcases h with ⟨k, _⟩ | ⟨k, _⟩ | ⟨k, _⟩ | ⟨k, _⟩ <;> simp [printed, k]
theorem parts_wf {K : List LR} (h : ∀ x ∈ K, wfX x) (s : ByteArray) : partsX (K ++ [endR s]) = K.map formX := by
  unfold partsX
  rw [List.filter_append]
  rw [List.filter_eq_self.2 fun x hx => wf_printed (h x hx)]
  simp [printed, endR]
/-- Printed lexemes are scanned back. -/
theorem round_trip (s : ByteArray) (h : s.size ≤ 1900) (h0 : (scanF s).1 = 0) : (scanF (bs (printX (scanF s).2.2))).1 = 0 ∧ (scanF (bs (printX (scanF s).2.2))).2.2.map keyX = (scanF s).2.2.map keyX := by
  have n4 : ¬ 4000 < s.size := by omega
  have sk := skN_end s 0 (by omega)
  simp only [Nat.zero_add, List.drop_zero] at sk
  unfold scanF at h0
  rw [if_neg n4] at h0
  obtain ⟨K, k1, k2, k3⟩ := scanG_wf s (s.size + 1) (skN false s.toList) (by omega) sk h0
  have hS : (scanF s).2.2 = K ++ [endR s] := by unfold scanF; rw [if_neg n4, k1]
  rw [hS]
  have hP : printX (K ++ [endR s]) = Lib.join (K.map formX) [32] := by unfold printX; rw [parts_wf k2]
  rw [hP]
  have jl := join_len K
  generalize hT : Lib.join (K.map formX) [32] = T at jl
  have hTs : (bs T).size = T.length := bs_size T
  have m4 : ¬ 4000 < (bs T).size := by omega
  have sk0 : skN false (bs T).toList = 0 := by
    rw [bs_list, ← hT]
    cases K with
    | nil => simp [Lib.join, List.intercalate, skN]
    | cons x M =>
      cases M with
      | nil => have := sk_form (k2 x (by simp)) []; simpa [Lib.join, List.intercalate] using this
      | cons z M => rw [List.map_cons, List.map_cons, join_cons]; exact sk_form (k2 x (by simp)) _
  obtain ⟨M, m1, m2⟩ := scan_forms (bs T) K ((bs T).size + 1) 0 (by omega) (by omega) k2 (by rw [bs_list, List.drop_zero, hT])
  unfold scanF
  rw [if_neg m4, sk0, m1]
  refine ⟨rfl, ?_⟩
  simp only [List.map_append, m2]
  simp [keyX, endR]
end Go.Proofs.YtamiclgnehfhpaaDoor
