/-
Texts without fractions; the grammar of fee tables; lines and spaces between tables.
Conditions: none.
-/
import Derived.Test.YtfphceknmgadgaaDoorQb
import Derived.Test.YtfphceknmgadgaaDoorQg
import Derived.Test.YtfphceknmgadgaaDoorQa
set_option linter.unusedSimpArgs false
set_option linter.unusedVariables false
namespace Go.Proofs.YtfphceknmgadgaaDoor
open Go.Vm
set_option maxHeartbeats 2000000
set_option maxRecDepth 20000
def dlen : List UInt8 → Nat
  | [] => 0
  | c :: l => if digitB c.toNat = true then dlen l + 1 else 0
theorem dlen_le : ∀ l : List UInt8, dlen l ≤ l.length
  | [] => by simp [dlen]
  | c :: l => by
    have := dlen_le l
    simp only [dlen, List.length_cons]
    split <;> omega
def frL (l : List UInt8) : Option (Nat × Nat) :=
  match l.drop (dlen l) with
  | c :: m => if c = 46 then (if dlen m = 0 then none else match m.drop (dlen m) with
    | d :: _ => if d = 37 then some (dlen l, dlen m + 1) else none
    | [] => none) else none
  | [] => none
theorem frL_len {l : List UInt8} {d k : Nat} (h : frL l = some (d, k)) : d = dlen l ∧ d + k < l.length ∧ 2 ≤ k := by
  unfold frL at h
  split at h
  · rename_i c m hm
    split at h
    · split at h
      · cases h
      · rename_i hne
        split at h
        · rename_i x y hy
          split at h
          · simp only [Option.some.injEq, Prod.mk.injEq] at h
            obtain ⟨rfl, rfl⟩ := h
            have h1 := congrArg List.length hm
            have h2 := congrArg List.length hy
            simp only [List.length_drop, List.length_cons] at h1 h2
            exact ⟨rfl, by omega, by omega⟩
          · cases h
        · cases h
    · cases h
  · cases h
def utl (c : UInt8) : List UInt8 → Nat
  | [] => 0
  | x :: l => if x = c then 1 else utl c l + 1
theorem utl_le (c : UInt8) : ∀ l : List UInt8, utl c l ≤ l.length
  | [] => by simp [utl]
  | x :: l => by
    have := utl_le c l
    simp only [utl, List.length_cons]
    split <;> omega
def pN : Nat → Bool → List UInt8 → List UInt8
  | 0, _, l => l
  | _ + 1, _, [] => []
  | f + 1, w, c :: r =>
    if c = 35 then c :: (r.take (utl 10 r) ++ pN f false (r.drop (utl 10 r)))
    else if c = 34 then c :: (r.take (utl 34 r) ++ pN f false (r.drop (utl 34 r)))
    else if digitB c.toNat = true ∧ w = false then
      match frL (c :: r) with
      | some (d, k) => (c :: r).take d ++ (List.replicate k 32 ++ pN f false ((c :: r).drop (d + k)))
      | none => c :: pN f true r
    else c :: pN f (wordB c.toNat) r
def plT (l : List UInt8) : List UInt8 := pN l.length false l
theorem pN_nil (f : Nat) (w : Bool) : pN f w [] = [] := by cases f <;> rfl
theorem pN_len : ∀ (f : Nat) (w : Bool) (l : List UInt8), (pN f w l).length = l.length
  | 0, _, _ => rfl
  | f + 1, _, [] => rfl
  | f + 1, w, c :: r => by
    simp only [pN]
    split
    · have := utl_le 10 r
      rw [List.length_cons, List.length_append, pN_len, List.length_take, List.length_drop, List.length_cons]; omega
    split
    · have := utl_le 34 r
      rw [List.length_cons, List.length_append, pN_len, List.length_take, List.length_drop, List.length_cons]; omega
    split
    · split
      · rename_i d k h
        obtain ⟨h1, h2, h3⟩ := frL_len h
        simp only [List.length_append, List.length_replicate, pN_len, List.length_take, List.length_drop, List.length_cons] at h2 ⊢
        omega
      · rw [List.length_cons, pN_len, List.length_cons]
    · rw [List.length_cons, pN_len, List.length_cons]
theorem plT_len (l : List UInt8) : (plT l).length = l.length := pN_len _ _ _
theorem pN_fuel : ∀ (f g : Nat) (w : Bool) (l : List UInt8), l.length ≤ f → l.length ≤ g → pN f w l = pN g w l
  | f, g, w, [], _, _ => by rw [pN_nil, pN_nil]
  | 0, _, _, c :: r, h, _ => by simp at h
  | _ + 1, 0, _, c :: r, _, h => by simp at h
  | f + 1, g + 1, w, c :: r, hf, hg => by
    simp only [List.length_cons] at hf hg
    simp only [pN]
    split
    · rw [pN_fuel f g false _ (by rw [List.length_drop]; omega) (by rw [List.length_drop]; omega)]
    split
    · rw [pN_fuel f g false _ (by rw [List.length_drop]; omega) (by rw [List.length_drop]; omega)]
    split
    · split
      · rename_i d k h
        obtain ⟨h1, h2, h3⟩ := frL_len h
        rw [pN_fuel f g false _ (by rw [List.length_drop, List.length_cons]; omega) (by rw [List.length_drop, List.length_cons]; omega)]
      · rw [pN_fuel f g true r (by omega) (by omega)]
    · rw [pN_fuel f g _ r (by omega) (by omega)]
def pW (w : Bool) (l : List UInt8) : List UInt8 := pN l.length w l
theorem pW_nil (w : Bool) : pW w [] = [] := rfl
theorem pW_cons (w : Bool) (c : UInt8) (r : List UInt8) : pW w (c :: r) =
    if c = 35 then c :: (r.take (utl 10 r) ++ pW false (r.drop (utl 10 r)))
    else if c = 34 then c :: (r.take (utl 34 r) ++ pW false (r.drop (utl 34 r)))
    else if digitB c.toNat = true ∧ w = false then
      match frL (c :: r) with
      | some (d, k) => (c :: r).take d ++ (List.replicate k 32 ++ pW false ((c :: r).drop (d + k)))
      | none => c :: pW true r
    else c :: pW (wordB c.toNat) r := by
  unfold pW
  rw [List.length_cons, pN]
  split
  · rw [pN_fuel _ _ _ _ (by rw [List.length_drop]; omega) (Nat.le_refl _)]
  split
  · rw [pN_fuel _ _ _ _ (by rw [List.length_drop]; omega) (Nat.le_refl _)]
  split
  · split
    · rename_i d k h
      obtain ⟨h1, h2, h3⟩ := frL_len h
      rw [pN_fuel _ _ _ _ (by rw [List.length_drop, List.length_cons]; omega) (Nat.le_refl _)]
    · rfl
  · rfl
theorem pW_len (w : Bool) (l : List UInt8) : (pW w l).length = l.length := pN_len _ _ _
theorem plT_pW (l : List UInt8) : plT l = pW false l := rfl
end Go.Proofs.YtfphceknmgadgaaDoor
namespace Go.Proofs.YtfphceknmgadgaaDoor
open Go.Vm
set_option maxHeartbeats 2000000
set_option maxRecDepth 20000
def cN : Nat → Bool → List UInt8 → Bool
  | 0, _, _ => true
  | _ + 1, _, [] => true
  | f + 1, w, c :: r =>
    if c = 35 then cN f false (r.drop (utl 10 r))
    else if c = 34 then decide (34 ∈ r) && cN f false (r.drop (utl 34 r))
    else if digitB c.toNat = true ∧ w = false then
      match frL (c :: r) with
      | some (d, k) => cN f false ((c :: r).drop (d + k))
      | none => cN f true r
    else cN f (wordB c.toNat) r
theorem cN_nil (f : Nat) (w : Bool) : cN f w [] = true := by cases f <;> rfl
theorem cN_fuel : ∀ (f g : Nat) (w : Bool) (l : List UInt8), l.length ≤ f → l.length ≤ g → cN f w l = cN g w l
  | f, g, w, [], _, _ => by rw [cN_nil, cN_nil]
  | 0, _, _, c :: r, h, _ => by simp at h
  | _ + 1, 0, _, c :: r, _, h => by simp at h
  | f + 1, g + 1, w, c :: r, hf, hg => by
    simp only [List.length_cons] at hf hg
    simp only [cN]
    split
    · rw [cN_fuel f g false _ (by rw [List.length_drop]; omega) (by rw [List.length_drop]; omega)]
    split
    · rw [cN_fuel f g false _ (by rw [List.length_drop]; omega) (by rw [List.length_drop]; omega)]
    split
    · split
      · rename_i d k h
        obtain ⟨h1, h2, h3⟩ := frL_len h
        rw [cN_fuel f g false _ (by rw [List.length_drop, List.length_cons]; omega) (by rw [List.length_drop, List.length_cons]; omega)]
      · rw [cN_fuel f g true r (by omega) (by omega)]
    · rw [cN_fuel f g _ r (by omega) (by omega)]
def cW (w : Bool) (l : List UInt8) : Bool := cN l.length w l
theorem cW_cons (w : Bool) (c : UInt8) (r : List UInt8) : cW w (c :: r) =
    if c = 35 then cW false (r.drop (utl 10 r))
    else if c = 34 then decide (34 ∈ r) && cW false (r.drop (utl 34 r))
    else if digitB c.toNat = true ∧ w = false then
      match frL (c :: r) with
      | some (d, k) => cW false ((c :: r).drop (d + k))
      | none => cW true r
    else cW (wordB c.toNat) r := by
  unfold cW
  rw [List.length_cons, cN]
  split
  · rw [cN_fuel _ _ _ _ (by rw [List.length_drop]; omega) (Nat.le_refl _)]
  split
  · rw [cN_fuel _ _ _ _ (by rw [List.length_drop]; omega) (Nat.le_refl _)]
  split
  · split
    · rename_i d k h
      obtain ⟨h1, h2, h3⟩ := frL_len h
      rw [cN_fuel _ _ _ _ (by rw [List.length_drop, List.length_cons]; omega) (Nat.le_refl _)]
    · rfl
  · rfl
theorem dlen_nl (r : List UInt8) : ∀ l : List UInt8, dlen (l ++ 10 :: r) = dlen l
  | [] => by simp [dlen, digitB]
  | c :: l => by simp only [List.cons_append, dlen, dlen_nl r l]
theorem frL_nl (l r : List UInt8) : frL (l ++ 10 :: r) = frL l := by
  have hd := dlen_le l
  unfold frL
  rw [dlen_nl, List.drop_append_of_le_length hd]
  cases hl : l.drop (dlen l) with
  | nil => simp
  | cons c m =>
    have hm := dlen_le m
    simp only [List.cons_append]
    rw [dlen_nl, List.drop_append_of_le_length hm]
    cases hm2 : m.drop (dlen m) with
    | nil => simp
    | cons d n => simp
theorem utl_in {c : UInt8} (x : UInt8) (r : List UInt8) : ∀ {l : List UInt8}, c ∈ l → utl c (l ++ x :: r) = utl c l
  | [], h => by cases h
  | y :: l, h => by
    simp only [List.cons_append, utl]
    by_cases hy : y = c
    · rw [if_pos hy, if_pos hy]
    · rw [if_neg hy, if_neg hy, utl_in x r (by
        rcases List.mem_cons.1 h with e | e
        · exact absurd e.symm hy
        · exact e)]
theorem utl_out {c : UInt8} (r : List UInt8) : ∀ {l : List UInt8}, c ∉ l → utl c (l ++ c :: r) = l.length + 1 ∧ utl c l = l.length
  | [], _ => by simp [utl]
  | y :: l, h => by
    have hy : y ≠ c := fun e => h (by rw [e]; exact List.mem_cons_self ..)
    obtain ⟨h1, h2⟩ := utl_out r (l := l) (fun e => h (List.mem_cons_of_mem _ e))
    simp only [List.cons_append, utl, if_neg hy, h1, h2, List.length_cons, and_self]
theorem pW_nl : ∀ (n : Nat) (l : List UInt8) (w : Bool) (r : List UInt8), l.length ≤ n → cW w l = true → pW w (l ++ 10 :: r) = pW w l ++ 10 :: pW false r
  | _, [], w, r, _, _ => by
    have h1 : digitB (10 : UInt8).toNat = false := rfl
    have h2 : wordB (10 : UInt8).toNat = false := rfl
    rw [List.nil_append, pW_cons, if_neg (by decide), if_neg (by decide), if_neg (by rw [h1]; simp), h2, pW_nil, List.nil_append]
  | 0, c :: l, _, _, h, _ => by simp at h
  | n + 1, c :: l, w, r, hn, hc => by
    simp only [List.length_cons] at hn
    rw [cW_cons] at hc
    have ef : frL (c :: (l ++ 10 :: r)) = frL (c :: l) := frL_nl (c :: l) r
    have et : c :: (l ++ 10 :: r) = (c :: l) ++ 10 :: r := rfl
    rw [List.cons_append, pW_cons, pW_cons w c l, ef]
    by_cases h35 : c = 35
    · rw [if_pos h35] at hc
      rw [if_pos h35, if_pos h35]
      by_cases hin : (10 : UInt8) ∈ l
      · have hu := utl_le 10 l
        rw [utl_in 10 r hin, List.take_append_of_le_length hu, List.drop_append_of_le_length hu, pW_nl n _ false r (by rw [List.length_drop]; omega) hc]
        simp
      · obtain ⟨h1, h2⟩ := utl_out r hin
        rw [h1, h2, List.take_length, List.drop_length]
        have e1 : (l ++ 10 :: r).take (l.length + 1) = l ++ [10] := by rw [List.take_append, List.take_of_length_le (by omega)]; simp
        have e2 : (l ++ 10 :: r).drop (l.length + 1) = r := by rw [List.drop_append]; simp
        rw [e1, e2, pW_nil]; simp
    rw [if_neg h35] at hc
    rw [if_neg h35, if_neg h35]
    by_cases h34 : c = 34
    · rw [if_pos h34, Bool.and_eq_true, decide_eq_true_eq] at hc
      rw [if_pos h34, if_pos h34]
      have hu := utl_le 34 l
      rw [utl_in 10 r hc.1, List.take_append_of_le_length hu, List.drop_append_of_le_length hu, pW_nl n _ false r (by rw [List.length_drop]; omega) hc.2]
      simp
    rw [if_neg h34] at hc
    rw [if_neg h34, if_neg h34]
    by_cases hd : digitB c.toNat = true ∧ w = false
    · rw [if_pos hd] at hc
      rw [if_pos hd, if_pos hd]
      cases hf : frL (c :: l) with
      | none =>
        rw [hf] at hc
        simp only at hc ⊢
        rw [pW_nl n l true r (by omega) hc]; simp
      | some p =>
        obtain ⟨d, k⟩ := p
        obtain ⟨h1, h2, h3⟩ := frL_len hf
        rw [List.length_cons] at h2
        rw [hf] at hc
        simp only at hc ⊢
        rw [et, List.take_append_of_le_length (by rw [List.length_cons]; omega), List.drop_append_of_le_length (by rw [List.length_cons]; omega), pW_nl n _ false r (by rw [List.length_drop, List.length_cons]; omega) hc]
        simp
    · rw [if_neg hd] at hc
      rw [if_neg hd, if_neg hd, pW_nl n l _ r (by omega) hc]; simp
end Go.Proofs.YtfphceknmgadgaaDoor
namespace Go.Proofs.YtfphceknmgadgaaDoor
open Go.Vm
set_option maxHeartbeats 2000000
set_option maxRecDepth 20000
theorem blank_not : ∀ c, c < 256 → blankB c = true → digitB c = false ∧ wordB c = false ∧ c ≠ 35 ∧ c ≠ 34 := by decide +kernel
theorem markw : ∀ c, c < 256 → markB c = true → digitB c = false ∧ wordB c = false ∧ c ≠ 35 ∧ c ≠ 34 := by decide +kernel
theorem word_not : ∀ c, c < 256 → wordB c = true → c ≠ 35 ∧ c ≠ 34 ∧ c ≠ 10 ∧ blankB c = false := by decide +kernel
theorem u8_ne {c : UInt8} {n : Nat} (h : c.toNat ≠ n) (hn : n < 256) : c ≠ UInt8.ofNat n := fun e => h (by rw [e]; simp; omega)
theorem pW_plain {w : Bool} {c : UInt8} (r : List UInt8) (h35 : c.toNat ≠ 35) (h34 : c.toNat ≠ 34) (hd : ¬ (digitB c.toNat = true ∧ w = false)) : pW w (c :: r) = c :: pW (wordB c.toNat) r := by
  have h1 : c ≠ 35 := u8_ne h35 (by decide)
  have h2 : c ≠ 34 := u8_ne h34 (by decide)
  rw [pW_cons, if_neg h1, if_neg h2, if_neg hd]
theorem cW_plain {w : Bool} {c : UInt8} (r : List UInt8) (h35 : c.toNat ≠ 35) (h34 : c.toNat ≠ 34) (hd : ¬ (digitB c.toNat = true ∧ w = false)) : cW w (c :: r) = cW (wordB c.toNat) r := by
  have h1 : c ≠ 35 := u8_ne h35 (by decide)
  have h2 : c ≠ 34 := u8_ne h34 (by decide)
  rw [cW_cons, if_neg h1, if_neg h2, if_neg hd]
theorem skN_rem' (Y : List UInt8) : ∀ r : List UInt8, (10 ∈ r ∨ Y = []) → skN true (r.take (utl 10 r) ++ Y) = utl 10 r + skN false Y
  | [], h => by
    rcases h with h | h
    · cases h
    · subst h; simp [utl, skN]
  | c :: r, h => by
    by_cases hc : c = 10
    · subst hc
      simp [utl, skN]; omega
    · have hn : c.toNat ≠ 10 := fun e => hc (by rw [← UInt8.toNat_inj]; exact e)
      have ih := skN_rem' Y r (by
        rcases h with h | h
        · exact .inl ((List.mem_cons.1 h).resolve_left fun e => hc e.symm)
        · exact .inr h)
      simp only [utl, if_neg hc, List.take_succ_cons, List.cons_append, skN, Bool.true_or, if_true, hn, decide_false, Bool.not_false, Bool.and_true]
      rw [ih]; omega
theorem sk_pW : ∀ (n : Nat) (l : List UInt8) (w : Bool), l.length ≤ n → ∃ w', (pW w l).drop (skN false (pW w l)) = pW w' (l.drop (skN false (pW w l))) ∧ cW w l = cW w' (l.drop (skN false (pW w l))) ∧ (skN false (pW w l) = 0 → w' = w)
  | _, [], w, _ => ⟨w, by simp [pW_nil], by simp [pW_nil], fun _ => rfl⟩
  | 0, c :: l, w, h => by simp at h
  | n + 1, c :: r, w, hn => by
    simp only [List.length_cons] at hn
    have hc := u8_lt c
    by_cases hb : blankB c.toNat = true
    · obtain ⟨b1, b2, b3, b4⟩ := blank_not _ hc hb
      have e1 := pW_plain (w := w) r b3 b4 (by rw [b1]; simp)
      have e2 := cW_plain (w := w) r b3 b4 (by rw [b1]; simp)
      rw [b2] at e1 e2
      have hk : skN false (c :: pW false r) = skN false (pW false r) + 1 := by simp [skN, hb, b3]
      obtain ⟨w', h1, h2, _⟩ := sk_pW n r false (by omega)
      rw [e1, e2, hk]
      exact ⟨w', by rw [List.drop_succ_cons, List.drop_succ_cons, h1], by rw [List.drop_succ_cons, h2], fun h => by omega⟩
    by_cases h35 : c = 35
    · subst h35
      have hu := utl_le 10 r
      have e1 : pW w (35 :: r) = 35 :: (r.take (utl 10 r) ++ pW false (r.drop (utl 10 r))) := by rw [pW_cons, if_pos rfl]
      have e2 : cW w (35 :: r) = cW false (r.drop (utl 10 r)) := by rw [cW_cons, if_pos rfl]
      have hs : skN true (r.take (utl 10 r) ++ pW false (r.drop (utl 10 r))) = utl 10 r + skN false (pW false (r.drop (utl 10 r))) := by
        refine skN_rem' _ r ?_
        by_cases hin : (10 : UInt8) ∈ r
        · exact .inl hin
        · refine .inr ?_
          rw [(utl_out [] hin).2, List.drop_length, pW_nil]
      have hk : skN false (35 :: (r.take (utl 10 r) ++ pW false (r.drop (utl 10 r)))) = utl 10 r + skN false (pW false (r.drop (utl 10 r))) + 1 := by
        rw [← hs]; simp [skN]
      obtain ⟨w', h1, h2, _⟩ := sk_pW n (r.drop (utl 10 r)) false (by rw [List.length_drop]; omega)
      rw [e1, e2, hk]
      refine ⟨w', ?_, ?_, fun h => by omega⟩
      · rw [List.drop_succ_cons, List.drop_succ_cons, List.drop_append, List.drop_eq_nil_of_le (by rw [List.length_take]; omega), List.nil_append, List.length_take, Nat.min_eq_left hu, Nat.add_sub_cancel_left, h1, List.drop_drop]
      · rw [List.drop_succ_cons, h2, List.drop_drop]
    · have hn35 : c.toNat ≠ 35 := fun e => h35 (by rw [← UInt8.toNat_inj]; exact e)
      have hz : ∀ X, skN false (c :: X) = 0 := fun X => by simp [skN, hb, hn35]
      have hh : ∃ X, pW w (c :: r) = c :: X := by
        rw [pW_cons, if_neg h35]
        split
        · exact ⟨_, rfl⟩
        split
        · rename_i hdig
          split
          · rename_i d k hf
            have hd := (frL_len hf).1
            have : dlen (c :: r) = dlen r + 1 := by simp only [dlen, hdig.1, if_true]
            rw [hd, this, List.take_succ_cons]
            exact ⟨_, rfl⟩
          · exact ⟨_, rfl⟩
        · exact ⟨_, rfl⟩
      obtain ⟨X, hX⟩ := hh
      have h0 : skN false (pW w (c :: r)) = 0 := by rw [hX]; exact hz X
      rw [h0]
      exact ⟨w, by simp, by simp, fun _ => rfl⟩
theorem wl_pW : ∀ r : List UInt8, ∃ w', wlen (pW true r) = wlen r ∧ (pW true r).drop (wlen r) = pW w' (r.drop (wlen r)) ∧ cW true r = cW w' (r.drop (wlen r))
  | [] => ⟨true, rfl, by simp [wlen], by simp [wlen]⟩
  | x :: y => by
    have hc := u8_lt x
    by_cases hx : wordB x.toNat = true
    · obtain ⟨a1, a2, _, _⟩ := word_not _ hc hx
      have e1 := pW_plain (w := true) y a1 a2 (by simp)
      have e2 := cW_plain (w := true) y a1 a2 (by simp)
      rw [hx] at e1 e2
      obtain ⟨w', h1, h2, h3⟩ := wl_pW y
      have hw : wlen (x :: y) = wlen y + 1 := by simp only [wlen, hx, if_true]
      rw [e1, e2, hw]
      refine ⟨w', ?_, ?_, ?_⟩
      · simp only [wlen, hx, if_true, h1]
      · rw [List.drop_succ_cons, List.drop_succ_cons, h2]
      · rw [List.drop_succ_cons, h3]
    · have hw : wlen (x :: y) = 0 := by simp only [wlen, hx, if_false]; simp
      have hh : ∃ X, pW true (x :: y) = x :: X := by
        rw [pW_cons]
        split
        · exact ⟨_, rfl⟩
        split
        · exact ⟨_, rfl⟩
        rw [if_neg (by simp)]
        exact ⟨_, rfl⟩
      obtain ⟨X, hX⟩ := hh
      refine ⟨true, ?_, by rw [hw]; rfl, by rw [hw]; rfl⟩
      rw [hX, hw]; simp only [wlen, hx, if_false]; simp
theorem litR_mem : ∀ {l : List UInt8} {k : Nat}, litR l = some k → (34 : UInt8) ∈ l ∧ utl 34 l = k + 1
  | [], k, h => by simp [litR] at h
  | c :: l, k, h => by
    simp only [litR] at h
    by_cases hc : c.toNat = 34
    · rw [if_pos hc] at h
      have : c = 34 := by rw [← UInt8.toNat_inj]; exact hc
      cases h
      exact ⟨by rw [this]; exact List.mem_cons_self .., by simp [utl, this]⟩
    · rw [if_neg hc] at h
      have hne : c ≠ 34 := fun e => hc (by rw [e]; rfl)
      split at h
      · cases h
      · split at h
        · rename_i q hq
          cases h
          obtain ⟨h1, h2⟩ := litR_mem hq
          exact ⟨List.mem_cons_of_mem _ h1, by simp only [utl, if_neg hne, h2]⟩
        · cases h
theorem utl_take {c : UInt8} (Y : List UInt8) : ∀ {r : List UInt8}, c ∈ r → utl c (r.take (utl c r) ++ Y) = utl c r
  | [], h => by cases h
  | x :: r, h => by
    by_cases hx : x = c
    · simp [utl, hx]
    · have := utl_take Y (r := r) ((List.mem_cons.1 h).resolve_left fun e => hx e.symm)
      simp only [utl, if_neg hx, List.take_succ_cons, List.cons_append, this]
theorem wlen_dig' : ∀ (l : List UInt8) (Y : List UInt8), wlen (l.take (dlen l) ++ 32 :: Y) = dlen l
  | [], Y => by simp [dlen, wlen, wordB, letterB, digitB]
  | c :: l, Y => by
    by_cases hc : digitB c.toNat = true
    · have hw : wordB c.toNat = true := by simp [wordB, hc]
      have := wlen_dig' l Y
      simp only [dlen, hc, if_true, List.take_succ_cons, List.cons_append, wlen, hw, this]
    · simp only [dlen, hc, if_false, List.take_zero, List.nil_append]
      simp [wlen, wordB, letterB, digitB]
theorem skN_sp (Y : List UInt8) : ∀ k, skN false (List.replicate k 32 ++ Y) = k + skN false Y
  | 0 => by simp
  | k + 1 => by
    rw [List.replicate_succ, List.cons_append]
    have := skN_sp Y k
    simp only [skN]
    simp [blankB, this]; omega
theorem skN_idem : ∀ (b : Bool) (l : List UInt8), skN false (l.drop (skN b l)) = 0
  | _, [] => by simp [skN]
  | b, c :: l => by
    by_cases hb : (b || (blankB c.toNat || decide (c.toNat = 35))) = true
    · simp only [skN, hb, if_true, List.drop_succ_cons]
      exact skN_idem _ l
    · have h2 : (blankB c.toNat || decide (c.toNat = 35)) = false := by
        cases b <;> simp_all
      have e1 : skN b (c :: l) = 0 := by simp only [skN]; rw [if_neg hb]
      rw [e1, List.drop_zero]
      simp only [skN, Bool.false_or, h2]
      simp
theorem pW_head (w : Bool) (c : UInt8) (r : List UInt8) : ∃ X, pW w (c :: r) = c :: X := by
  rw [pW_cons]
  split
  · exact ⟨_, rfl⟩
  split
  · exact ⟨_, rfl⟩
  split
  · rename_i hdig
    split
    · rename_i d k hf
      have hd := (frL_len hf).1
      have : dlen (c :: r) = dlen r + 1 := by simp only [dlen, hdig.1, if_true]
      rw [hd, this, List.take_succ_cons]
      exact ⟨_, rfl⟩
    · exact ⟨_, rfl⟩
  · exact ⟨_, rfl⟩
theorem al_scan {P s : ByteArray} (hsz : P.size = s.size) : ∀ (f i : Nat) (w : Bool), P.size < i + f → i ≤ P.size → P.toList.drop i = pW w (s.toList.drop i) → skN false (P.toList.drop i) = 0 → (scanG P f i).1 = 0 → cW w (s.toList.drop i) = true := by
  intro f
  induction f with
  | zero => intro i w h hi; omega
  | succ f ih =>
    intro i w h hi hP h0 hok
    by_cases hend : P.size ≤ i
    · rw [List.drop_eq_nil_of_le (by rw [size_list]; omega)]; rfl
    by_cases he : (lexR P i).e = 0
    rotate_left
    · rw [scanG_err f hend he] at hok; exact absurd hok he
    rw [scanG_ok f hend he rfl] at hok
    obtain ⟨n1, n2⟩ := lexR_next P i (by omega) he
    have next : ∀ (m : Nat) (w' : Bool), (lexR P i).nx + skN false (P.toList.drop (lexR P i).nx) = m + skN false (P.toList.drop m) → i < m → m ≤ P.size → P.toList.drop m = pW w' (s.toList.drop m) → cW w' (s.toList.drop m) = true := fun m w' hm him hmp hn => by
      obtain ⟨w2, k1, k2, _⟩ := sk_pW (s.toList.drop m).length (s.toList.drop m) w' (Nat.le_refl _)
      rw [← hn] at k1 k2
      rw [k2, List.drop_drop]
      rw [List.drop_drop, List.drop_drop] at k1
      have hle := skN_end P m hmp
      rw [hm] at hok
      refine ih _ w2 (by omega) hle k1 ?_ hok
      rw [← List.drop_drop]
      exact skN_idem _ _
    obtain ⟨c, r, hl⟩ := drop_byte (s := s) (i := i) (by omega)
    have hc := u8_lt c
    have hlen : i + (r.length + 1) = s.size := by
      have := congrArg List.length hl
      rw [List.length_drop, size_list, List.length_cons] at this
      omega
    have hd1 : ∀ k, s.toList.drop (i + k) = (c :: r).drop k := fun k => by rw [← hl, List.drop_drop]
    rw [hl] at hP ⊢
    have hp1 : ∀ k, P.toList.drop (i + k) = (pW w (c :: r)).drop k := fun k => by rw [← hP, List.drop_drop]
    obtain ⟨X, hX⟩ := pW_head w c r
    rw [hP, hX] at h0
    have hnb : blankB c.toNat = false ∧ c.toNat ≠ 35 := by
      simp only [skN] at h0
      by_cases hq : (false || (blankB c.toNat || decide (c.toNat = 35))) = true
      · rw [if_pos hq] at h0; omega
      · simpa using hq
    have hlex : lexR P i = if pre2 (c :: X) = true then ⟨4, P.extract i (i + 2), 0, i, i + 2, 0⟩
      else if letterB c.toNat = true then (if 16 < wlen (c :: X) then bad 3 else ⟨1, P.extract i (i + wlen (c :: X)), 0, i, i + wlen (c :: X), 0⟩)
      else if digitB c.toNat = true then (if (numF (P.extract i (i + wlen (c :: X))).toList).2 ≠ 0 then bad (numF (P.extract i (i + wlen (c :: X))).toList).2 else ⟨2, ⟨#[]⟩, (numF (P.extract i (i + wlen (c :: X))).toList).1, i, i + wlen (c :: X), 0⟩)
      else if c.toNat = 34 then textR P i
      else if markB c.toNat = true then ⟨4, P.extract i (i + 1), 0, i, i + 1, 0⟩ else bad 2 := by
      unfold lexR; rw [hP, hX]
    -- a word
    have word : wordB c.toNat = true → pW w (c :: r) = c :: pW true r → cW w (c :: r) = cW true r → (lexR P i).nx = i + wlen (c :: X) → cW w (c :: r) = true := fun hw e1 e2 hnx => by
      obtain ⟨w', k1, k2, k3⟩ := wl_pW r
      rw [e1] at hX hp1
      have hXe : X = pW true r := by simpa using hX.symm
      subst hXe
      have hwl : wlen (c :: pW true r) = wlen r + 1 := by simp only [wlen, hw, if_true, k1]
      rw [hwl] at hnx
      have hwr := wlen_le r
      have := next (i + (wlen r + 1)) w' (by rw [hnx]) (by omega) (by omega) (by rw [hp1, hd1, List.drop_succ_cons, List.drop_succ_cons, k2])
      rw [hd1, List.drop_succ_cons] at this
      rw [e2, k3, this]
    by_cases hp2 : pre2 (c :: X) = true
    · rw [hlex, if_pos hp2] at n1 n2 next
      simp only at n1 n2 next
      have hcc : (c = 33 ∨ c = 60) ∧ X.head? = some 61 := by
        simp only [pre2, Bool.or_eq_true] at hp2
        rcases hp2 with q | q
        · obtain ⟨a, b, _⟩ := isPre2 _ _ _ _ q; exact ⟨.inl a, b⟩
        · obtain ⟨a, b, _⟩ := isPre2 _ _ _ _ q; exact ⟨.inr a, b⟩
      obtain ⟨hcc, hXh⟩ := hcc
      have hcn : digitB c.toNat = false ∧ wordB c.toNat = false ∧ c.toNat ≠ 35 ∧ c.toNat ≠ 34 := by rcases hcc with rfl | rfl <;> decide
      have e1 := pW_plain (w := w) r hcn.2.2.1 hcn.2.2.2 (by rw [hcn.1]; simp)
      have e2 := cW_plain (w := w) r hcn.2.2.1 hcn.2.2.2 (by rw [hcn.1]; simp)
      rw [hcn.2.1] at e1 e2
      rw [e1] at hX hp1
      have hXe : X = pW false r := by simpa using hX.symm
      subst hXe
      cases r with
      | nil => rw [pW_nil] at hXh; cases hXh
      | cons y r' =>
        obtain ⟨X', hX'⟩ := pW_head false y r'
        rw [hX'] at hXh
        have hy : y = 61 := by simpa using hXh
        subst hy
        have f1 := pW_plain (w := false) (c := 61) r' (by decide) (by decide) (by decide)
        have f2 := cW_plain (w := false) (c := 61) r' (by decide) (by decide) (by decide)
        have hw61 : wordB (61 : UInt8).toNat = false := by decide
        rw [hw61] at f1 f2
        rw [f1] at hp1
        have := next (i + 2) false rfl (by omega) (by simp only [List.length_cons] at hlen; omega) (by rw [hp1, hd1]; rfl)
        rw [hd1] at this
        rw [e2, f2]
        exact this
    rw [if_neg hp2] at hlex
    by_cases hlt : letterB c.toNat = true
    · rw [if_pos hlt] at hlex
      obtain ⟨a1, a2, _, a4, _, _⟩ := letter_not _ hc hlt
      have hw : wordB c.toNat = true := by simp [wordB, hlt]
      have e1 := pW_plain (w := w) r a4 a2 (by rw [a1]; simp)
      have e2 := cW_plain (w := w) r a4 a2 (by rw [a1]; simp)
      rw [hw] at e1 e2
      refine word hw e1 e2 ?_
      rw [hlex] at he ⊢
      split at he
      · simp [bad] at he
      · rename_i hq; rw [if_neg hq]
    rw [if_neg hlt] at hlex
    by_cases hdg : digitB c.toNat = true
    · rw [if_pos hdg] at hlex
      obtain ⟨_, a2, _, a4, _, _, hw⟩ := digit_not _ hc hdg
      have hnx : (lexR P i).nx = i + wlen (c :: X) := by
        rw [hlex] at he ⊢
        split at he
        · rename_i hq; exact absurd he hq
        · rename_i hq; rw [if_neg hq]
      have h35 : c ≠ 35 := u8_ne a4 (by decide)
      have h34 : c ≠ 34 := u8_ne a2 (by decide)
      by_cases hwf : w = false
      · subst hwf
        cases hf : frL (c :: r) with
        | none =>
          refine word hw ?_ ?_ hnx
          · rw [pW_cons, if_neg h35, if_neg h34, if_pos ⟨hdg, rfl⟩, hf]
          · rw [cW_cons, if_neg h35, if_neg h34, if_pos ⟨hdg, rfl⟩, hf]
        | some p =>
          obtain ⟨d, k⟩ := p
          obtain ⟨q1, q2, q3⟩ := frL_len hf
          rw [List.length_cons] at q2
          have e1 : pW false (c :: r) = (c :: r).take d ++ (List.replicate k 32 ++ pW false ((c :: r).drop (d + k))) := by rw [pW_cons, if_neg h35, if_neg h34, if_pos ⟨hdg, rfl⟩, hf]
          have e2 : cW false (c :: r) = cW false ((c :: r).drop (d + k)) := by rw [cW_cons, if_neg h35, if_neg h34, if_pos ⟨hdg, rfl⟩, hf]
          have hwl : wlen (c :: X) = d := by
            rw [← hX, e1, q1]
            obtain ⟨k', rfl⟩ : ∃ k', k = k' + 1 := ⟨k - 1, by omega⟩
            rw [List.replicate_succ, List.cons_append]
            exact wlen_dig' _ _
          rw [hwl] at hnx
          have hlt' : ((c :: r).take d).length = d := by rw [List.length_take, List.length_cons]; omega
          have hd2 : (pW false (c :: r)).drop d = List.replicate k 32 ++ pW false ((c :: r).drop (d + k)) := by rw [e1, List.drop_append, List.drop_eq_nil_of_le (by omega), hlt', Nat.sub_self]; rfl
          have hd3 : (pW false (c :: r)).drop (d + k) = pW false ((c :: r).drop (d + k)) := by rw [← List.drop_drop, hd2, List.drop_append, List.drop_eq_nil_of_le (by simp), List.length_replicate, Nat.sub_self]; rfl
          have hpm : P.toList.drop (i + (d + k)) = pW false ((c :: r).drop (d + k)) := by rw [hp1, hd3]
          have hpd : P.toList.drop (i + d) = List.replicate k 32 ++ pW false ((c :: r).drop (d + k)) := by rw [hp1, hd2]
          have := next (i + (d + k)) false (by rw [hnx, hpd, skN_sp, hpm]; omega) (by omega) (by omega) (by rw [hpm, hd1])
          rw [hd1] at this
          rw [e2, this]
      · have hwt : w = true := by simpa using hwf
        subst hwt
        have e1 := pW_plain (w := true) r a4 a2 (by simp)
        have e2 := cW_plain (w := true) r a4 a2 (by simp)
        rw [hw] at e1 e2
        exact word hw e1 e2 hnx
    rw [if_neg hdg] at hlex
    by_cases h34 : c.toNat = 34
    · rw [if_pos h34] at hlex
      have hce : c = 34 := by rw [← UInt8.toNat_inj]; exact h34
      subst hce
      have e1 : pW w (34 :: r) = 34 :: (r.take (utl 34 r) ++ pW false (r.drop (utl 34 r))) := by rw [pW_cons, if_neg (by decide), if_pos rfl]
      have e2 : cW w (34 :: r) = (decide (34 ∈ r) && cW false (r.drop (utl 34 r))) := by rw [cW_cons, if_neg (by decide), if_pos rfl]
      have hpp : P.toList.drop (i + 1) = r.take (utl 34 r) ++ pW false (r.drop (utl 34 r)) := by rw [hp1, e1]; rfl
      unfold textR at hlex
      rw [hpp] at hlex
      cases hq : litR (r.take (utl 34 r) ++ pW false (r.drop (utl 34 r))) with
      | none => rw [hq] at hlex; rw [hlex] at he; simp [bad] at he
      | some k =>
        rw [hq] at hlex
        simp only at hlex
        by_cases h100 : 100 < k
        · rw [if_pos h100] at hlex; rw [hlex] at he; simp [bad] at he
        rw [if_neg h100] at hlex
        obtain ⟨m1, m2⟩ := litR_mem hq
        have hin : (34 : UInt8) ∈ r := by
          refine Classical.byContradiction fun hno => ?_
          rw [(utl_out [] hno).2, List.take_length, List.drop_length, pW_nil, List.append_nil] at m1
          exact hno m1
        rw [utl_take _ hin] at m2
        have hu := utl_le 34 r
        have hnx : (lexR P i).nx = i + (utl 34 r + 1) := by rw [hlex]; simp only; omega
        have hlt' : (r.take (utl 34 r)).length = utl 34 r := by rw [List.length_take]; omega
        have := next (i + (utl 34 r + 1)) false (by rw [hnx]) (by omega) (by omega) (by rw [hp1, hd1, e1, List.drop_succ_cons, List.drop_succ_cons, List.drop_append, List.drop_eq_nil_of_le (by omega), hlt', Nat.sub_self]; rfl)
        rw [hd1, List.drop_succ_cons] at this
        rw [e2, this]; simp [hin]
    rw [if_neg h34] at hlex
    by_cases hm : markB c.toNat = true
    · rw [if_pos hm] at hlex
      obtain ⟨a1, a2, a3, a4⟩ := markw _ hc hm
      have e1 := pW_plain (w := w) r a3 a4 (by rw [a1]; simp)
      have e2 := cW_plain (w := w) r a3 a4 (by rw [a1]; simp)
      rw [a2] at e1 e2
      have hnx : (lexR P i).nx = i + 1 := by rw [hlex]
      have := next (i + 1) false (by rw [hnx]) (by omega) (by omega) (by rw [hp1, hd1, e1]; rfl)
      rw [hd1] at this
      rw [e2]
      exact this
    · rw [if_neg hm] at hlex
      rw [hlex] at he
      simp [bad] at he
theorem closed_of {s : ByteArray} (h : (scanF (bs (plT s.toList))).1 = 0) : cW false s.toList = true := by
  have hz : (bs (plT s.toList)).size = s.size := by rw [bs_size, plT_len, size_list]
  unfold scanF at h
  split at h
  · cases h
  obtain ⟨w2, k1, k2, _⟩ := sk_pW s.toList.length s.toList false (Nat.le_refl _)
  rw [bs_list] at h
  rw [plT_pW] at h hz
  have hsk := skN_le false (pW false s.toList)
  rw [pW_len, size_list] at hsk
  rw [k2]
  refine al_scan (P := bs (pW false s.toList)) hz _ _ w2 (by omega) (by omega) (by rw [bs_list]; exact k1) (by rw [bs_list]; exact skN_idem _ _) h
end Go.Proofs.YtfphceknmgadgaaDoor
namespace Go.Proofs.YtfphceknmgadgaaDoor
open Go.Vm
set_option maxHeartbeats 2000000
set_option maxRecDepth 20000
theorem skN_nl (r : List UInt8) : ∀ (b : Bool) (l : List UInt8), skN b (l ++ 10 :: r) = if skN b l = l.length then l.length + (1 + skN false r) else skN b l
  | b, [] => by
    simp only [List.nil_append, skN, List.length_nil, if_true]
    cases b <;> simp [blankB] <;> omega
  | b, c :: l => by
    simp only [List.cons_append, skN, List.length_cons]
    by_cases hc : (b || (blankB c.toNat || decide (c.toNat = 35))) = true
    · simp only [hc, if_true]
      rw [skN_nl r _ l]
      by_cases hh : skN ((b || decide (c.toNat = 35)) && !decide (c.toNat = 10)) l = l.length
      · rw [if_pos hh, if_pos (by omega)]; omega
      · rw [if_neg hh, if_neg (by omega)]
    · simp only [hc, if_false]
      rw [if_neg (by simp)]
      simp
theorem scanG_nl {P Q R : ByteArray} (h : R.toList = P.toList ++ 10 :: Q.toList) : ∀ (n' n i i' : Nat), P.size < i + n → R.size < i' + n' → i ≤ P.size → i' = (if i = P.size then P.size + (1 + skN false Q.toList) else i) → (scanG P n i).1 = 0 →
    ∃ K, (scanG P n i).2.2 = K ++ [endR P] ∧ (scanG R n' i').1 = (scanG Q (Q.size + 1) (skN false Q.toList)).1 ∧ ((scanG R n' i').1 = 0 → (scanG R n' i').2.2.map (kaX 0) = K.map (kaX 0) ++ (scanG Q (Q.size + 1) (skN false Q.toList)).2.2.map (kaX (P.size + 1))) := by
  have hz : R.size = P.size + (1 + Q.size) := by rw [← size_list, h, List.length_append, List.length_cons, size_list, size_list]; omega
  have hd : ∀ k, k ≤ P.size → R.toList.drop k = P.toList.drop k ++ 10 :: Q.toList := fun k hk => by rw [h, List.drop_append_of_le_length (by rw [size_list]; exact hk)]
  have hq : R.toList = (P.toList ++ [10]) ++ Q.toList := by rw [h]; simp
  have hql : (P.toList ++ [10]).length = P.size + 1 := by rw [List.length_append, size_list]; rfl
  have hkq := skN_le false Q.toList
  rw [size_list] at hkq
  intro n'
  induction n' with
  | zero => intro n i i' h1 h2 h3 h4; split at h4 <;> omega
  | succ n' ih =>
    intro n i i' h1 h2 h3 h4 hok
    cases n with
    | zero => omega
    | succ n =>
      by_cases hi : i = P.size
      · rw [if_pos hi] at h4
        obtain ⟨g1, g2, g3⟩ := scanG_pre hq (n' + 1) (Q.size + 1) (skN false Q.toList) (by omega) (by omega) hkq
        rw [hql, show skN false Q.toList + (P.size + 1) = i' by omega] at g1 g3
        refine ⟨[], by rw [scanG_end n (by omega)]; rfl, g1, fun _ => by rw [g3]; rfl⟩
      · rw [if_neg hi] at h4
        subst h4
        have hl := lexR_suf h i' (by omega)
        by_cases he : (lexR P i').e = 0
        rotate_left
        · rw [scanG_err n (by omega) he] at hok; exact absurd hok he
        obtain ⟨g1, g2⟩ := lexR_next P i' (by omega) he
        have hk := skN_le false (P.toList.drop (lexR P i').nx)
        rw [List.length_drop, size_list] at hk
        rw [scanG_ok n (by omega) he rfl] at hok ⊢
        have hok' : (scanG P n ((lexR P i').nx + skN false (P.toList.drop (lexR P i').nx))).1 = 0 := hok
        have hsk : skN false (R.toList.drop (lexR P i').nx) = if skN false (P.toList.drop (lexR P i').nx) = P.size - (lexR P i').nx then P.size - (lexR P i').nx + (1 + skN false Q.toList) else skN false (P.toList.drop (lexR P i').nx) := by
          rw [hd _ g2, skN_nl, List.length_drop, size_list]
        obtain ⟨K, k1, k2, k3⟩ := ih n ((lexR P i').nx + skN false (P.toList.drop (lexR P i').nx)) ((lexR P i').nx + skN false (R.toList.drop (lexR P i').nx)) (by omega) (by
          rw [hsk]; split <;> omega) (by omega) (by
          rw [hsk]
          by_cases hh : skN false (P.toList.drop (lexR P i').nx) = P.size - (lexR P i').nx
          · rw [if_pos hh, if_pos (by omega)]; omega
          · rw [if_neg hh, if_neg (by omega)]) hok'
        rw [scanG_ok n' (by omega) (by rw [hl]; exact he) (j := (lexR P i').nx + skN false (R.toList.drop (lexR P i').nx)) (by rw [hl]), hl]
        refine ⟨lexR P i' :: K, ?_, k2, fun h0 => ?_⟩
        · simp only [hok', if_true, k1]; rfl
        · have h0' : (scanG R n' ((lexR P i').nx + skN false (R.toList.drop (lexR P i').nx))).1 = 0 := h0
          simp only [h0', if_true, List.map_cons, List.cons_append, k3 h0']
theorem scanF_nl {P Q R : ByteArray} (h : R.toList = P.toList ++ 10 :: Q.toList) (hz : R.size ≤ 4000) (hP : (scanF P).1 = 0) :
    ∃ K, (scanF P).2.2 = K ++ [endR P] ∧ (scanF R).1 = (scanF Q).1 ∧ ((scanF R).1 = 0 → (scanF R).2.2.map (kaX 0) = K.map (kaX 0) ++ (scanF Q).2.2.map (kaX (P.size + 1))) := by
  have hz' : R.size = P.size + (1 + Q.size) := by rw [← size_list, h, List.length_append, List.length_cons, size_list, size_list]; omega
  have hk := skN_le false P.toList
  rw [size_list] at hk
  unfold scanF at hP ⊢
  rw [if_neg (by omega)] at hP
  rw [if_neg (by omega), if_neg (by omega), if_neg (by omega)]
  have hsk : skN false R.toList = if skN false P.toList = P.size then P.size + (1 + skN false Q.toList) else skN false P.toList := by
    rw [h, skN_nl, size_list]
  have hkq := skN_le false Q.toList
  rw [size_list] at hkq
  exact scanG_nl h (R.size + 1) (P.size + 1) (skN false P.toList) (skN false R.toList) (by omega) (by rw [hsk]; split <;> omega) hk hsk hP
end Go.Proofs.YtfphceknmgadgaaDoor
namespace Go.Proofs.YtfphceknmgadgaaDoor
open Go.Vm
set_option maxHeartbeats 2000000
set_option maxRecDepth 20000
structure Fu where
  nm : ByteArray
  w : Xs
  bps : Int
  fx : Int
  mn : Int
  mx : Int
def feeB : ByteArray := ⟨#[102, 101, 101]⟩
def minB : ByteArray := ⟨#[109, 105, 110]⟩
def maxB : ByteArray := ⟨#[109, 97, 120]⟩
def reF (s : ByteArray) : Bool := resB s || decide (s.toList = feeB.toList) || decide (s.toList = minB.toList) || decide (s.toList = maxB.toList)
def fnB (x : LR) : Bool := decide (x.k = 1) && !(reF x.t)
def hasF_ (nm : ByteArray) (l : List Fu) : Bool := l.any fun u => decide (u.nm.toList = nm.toList)
def aldB (l : List UInt8) : Bool := !l.isEmpty && l.all fun c => digitB c.toNat
def valD (l : List UInt8) : Nat := decV l 0
def ppW (w : List UInt8) : Bool := aldB w && !(decide (1 < w.length) && decide (w.head? = some 48))
def ppR (s : List UInt8) : Int × Int :=
  if s = [] then (0, 1)
  else if s.getLast? ≠ some 37 then (0, 2)
  else if ppW (s.dropLast.take (dlen s.dropLast)) = false then (0, 2)
  else match s.dropLast.drop (dlen s.dropLast) with
    | [] => if 3 < dlen s.dropLast then (0, 4) else if 10000 < valD (s.dropLast.take (dlen s.dropLast)) * 100 then (0, 4) else ((valD (s.dropLast.take (dlen s.dropLast)) * 100 : Nat), 0)
    | c :: f => if c ≠ 46 ∨ 2 < f.length ∨ aldB f = false ∨ f.getLast? = some 48 then (0, 2)
      else if 3 < dlen s.dropLast then (0, 4)
      else if 10000 < valD (s.dropLast.take (dlen s.dropLast)) * 100 + (if f.length = 2 then valD f else valD f * 10) then (0, 4)
      else ((valD (s.dropLast.take (dlen s.dropLast)) * 100 + (if f.length = 2 then valD f else valD f * 10) : Nat), 0)
def ppF (s : List UInt8) : Option Int := if (ppR s).2 = 0 then some (ppR s).1 else none
def atA (L : List LR) (i : Nat) : Nat := (lxA L i).a
def colB (x : LR) : Bool := isL x 4 ⟨#[58]⟩
def exE (L : List LR) : Nat → Nat → Nat
  | 0, i => i
  | f + 1, i => if (lxA L i).k = 0 ∨ colB (lxA L i) = true then i else exE L f (i + 1)
def exJ (L : List LR) (i : Nat) : Nat := exE L (L.length - i) i
def opN (L : List LR) (k : Int) (w : ByteArray) (i : Nat) : Except Nat (Int × Nat) :=
  if isL (lxA L i) k w = true then (if (lxA L (i + 1)).k = 2 then .ok ((lxA L (i + 1)).n, i + 2) else .error (i + 1)) else .ok (0, i)
def fuH (L : List LR) (us : List Fu) (i : Nat) : Option (Int × Nat) :=
  if 64 ≤ us.length ∧ isL (lxA L i) 1 feeB = true then some (3, i)
  else if isL (lxA L i) 1 feeB = false then some (2, i)
  else if fnB (lxA L (i + 1)) = false then some (2, i + 1)
  else if hasF_ (lxA L (i + 1)).t us = true then some (7, i + 1)
  else if isL (lxA L (i + 2)) 1 ⟨#[119, 104, 101, 110]⟩ = false then some (2, i + 2) else none
def fuT (s : ByteArray) (L : List LR) (j : Nat) : Except Nat ((Int × Int × Int × Int) × Nat) :=
  if colB (lxA L j) = false then .error j
  else if (lxA L (j + 1)).k ≠ 2 then .error (j + 1)
  else if isL (lxA L (j + 2)) 4 ⟨#[37]⟩ = false then .error (j + 2)
  else match ppF (s.extract (atA L (j + 1)) (atA L (j + 2) + 1)).toList with
    | none => .error (j + 1)
    | some b => match opN L 4 ⟨#[43]⟩ (j + 3) with
      | .error e => .error e
      | .ok (fx, k) => match opN L 1 minB k with
        | .error e => .error e
        | .ok (mn, k2) => match opN L 1 maxB k2 with
          | .error e => .error e
          | .ok (mx, k3) => if isL (lxA L k3) 4 ⟨#[59]⟩ = false then .error k3 else .ok ((b, fx, mn, mx), k3 + 1)
def exS (pl : ByteArray) (L : List LR) (i : Nat) : ByteArray := pl.extract (atA L (i + 3)) (atA L (exJ L (i + 3)))
inductive FuE (s pl : ByteArray) (L : List LR) (us : List Fu) (i : Nat) : Int → Nat → Prop
  | h {e : Int} {j : Nat} : fuH L us i = some (e, j) → FuE s pl L us i e (atA L j)
  | x {e : Int} {a : Nat} {t : Xs} : fuH L us i = none → PxO (exS pl L i) e a t → e ≠ 0 → FuE s pl L us i e (atA L (i + 3) + a)
  | t {t : Xs} {k : Nat} : fuH L us i = none → PxO (exS pl L i) 0 0 t → fuT s L (exJ L (i + 3)) = .error k → FuE s pl L us i 2 (atA L k)
inductive FuO (s pl : ByteArray) (L : List LR) (us : List Fu) (i : Nat) : Fu → Nat → Prop
  | ok {t : Xs} {b fx mn mx : Int} {k : Nat} : fuH L us i = none → PxO (exS pl L i) 0 0 t → fuT s L (exJ L (i + 3)) = .ok ((b, fx, mn, mx), k) → FuO s pl L us i ⟨(lxA L (i + 1)).t, t, b, fx, mn, mx⟩ k
inductive FlO (s pl : ByteArray) (L : List LR) : List Fu → Nat → List Fu → Nat → Prop
  | fin {us : List Fu} {i : Nat} : (lxA L i).k = 0 → FlO s pl L us i us i
  | step {us vs : List Fu} {u : Fu} {i j k : Nat} : (lxA L i).k ≠ 0 → FuO s pl L us i u j → FlO s pl L (us ++ [u]) j vs k → FlO s pl L us i vs k
inductive FlE (s pl : ByteArray) (L : List LR) : List Fu → Nat → Int → Nat → Prop
  | err {us : List Fu} {e : Int} {i a : Nat} : (lxA L i).k ≠ 0 → FuE s pl L us i e a → FlE s pl L us i e a
  | step {us : List Fu} {u : Fu} {e : Int} {i j a : Nat} : (lxA L i).k ≠ 0 → FuO s pl L us i u j → FlE s pl L (us ++ [u]) j e a → FlE s pl L us i e a
def plB (s : ByteArray) : ByteArray := bs (plT s.toList)
inductive PfO (s : ByteArray) : Int → Nat → List Fu → Prop
  | scan : (scanF (plB s)).1 ≠ 0 → PfO s (scanF (plB s)).1 (scanF (plB s)).2.1 []
  | er {e : Int} {a : Nat} : (scanF (plB s)).1 = 0 → FlE s (plB s) (scanF (plB s)).2.2 [] 0 e a → PfO s e a []
  | ok {us : List Fu} {j : Nat} : (scanF (plB s)).1 = 0 → FlO s (plB s) (scanF (plB s)).2.2 [] 0 us j → PfO s 0 0 us
section
variable {s pl : ByteArray} {L : List LR}
theorem FuE.ne {us : List Fu} {i a : Nat} {e : Int} (h : FuE s pl L us i e a) : e ≠ 0 := by
  cases h with
  | h h1 =>
    unfold fuH at h1
    repeat' split at h1
    all_goals first | (cases h1; done) | (cases h1; decide)
  | x _ _ h => exact h
  | t => decide
theorem FuE.det {us : List Fu} {i a a' : Nat} {e e' : Int} (h : FuE s pl L us i e a) (h' : FuE s pl L us i e' a') : e = e' ∧ a = a' := by
  cases h with
  | h h1 => cases h' with
    | h g1 => rw [h1] at g1; cases g1; exact ⟨rfl, rfl⟩
    | x g1 => rw [h1] at g1; cases g1
    | t g1 => rw [h1] at g1; cases g1
  | x h1 h2 h3 => cases h' with
    | h g1 => rw [h1] at g1; cases g1
    | x g1 g2 => obtain ⟨rfl, rfl, rfl⟩ := h2.det g2; exact ⟨rfl, rfl⟩
    | t g1 g2 => obtain ⟨rfl, _⟩ := h2.det g2; exact absurd rfl h3
  | t h1 h2 h3 => cases h' with
    | h g1 => rw [h1] at g1; cases g1
    | x g1 g2 g3 => obtain ⟨rfl, _⟩ := h2.det g2; exact absurd rfl g3
    | t g1 g2 g3 => rw [h3] at g3; cases g3; exact ⟨rfl, rfl⟩
theorem FuE.not {us : List Fu} {i j a : Nat} {e : Int} {u : Fu} (h : FuE s pl L us i e a) (h' : FuO s pl L us i u j) : False := by
  cases h' with
  | ok g1 g2 g3 => cases h with
    | h h1 => rw [g1] at h1; cases h1
    | x h1 h2 h3 => obtain ⟨rfl, _⟩ := h2.det g2; exact h3 rfl
    | t h1 h2 h3 => rw [g3] at h3; cases h3
theorem FuO.det {us : List Fu} {i j j' : Nat} {u u' : Fu} (h : FuO s pl L us i u j) (h' : FuO s pl L us i u' j') : u = u' ∧ j = j' := by
  cases h with
  | ok h1 h2 h3 => cases h' with
    | ok g1 g2 g3 => obtain ⟨_, _, rfl⟩ := h2.det g2; rw [h3] at g3; cases g3; exact ⟨rfl, rfl⟩
theorem FlO.det {us vs : List Fu} {i j : Nat} (h : FlO s pl L us i vs j) : ∀ {vs' : List Fu} {j' : Nat}, FlO s pl L us i vs' j' → vs = vs' ∧ j = j' := by
  induction h with
  | fin h => intro vs' j' h'; cases h' with
    | fin => exact ⟨rfl, rfl⟩
    | step g => exact absurd h g
  | step h1 h2 h3 ih => intro vs' j' h'; cases h' with
    | fin g => exact absurd g h1
    | step g1 g2 g3 =>
      obtain ⟨rfl, rfl⟩ := h2.det g2
      exact ih g3
theorem FlE.det {us : List Fu} {i a : Nat} {e : Int} (h : FlE s pl L us i e a) : ∀ {e' : Int} {a' : Nat}, FlE s pl L us i e' a' → e = e' ∧ a = a' := by
  induction h with
  | err h1 h2 => intro e' j' h'; cases h' with
    | err g1 g2 => exact h2.det g2
    | step g1 g2 g3 => exact absurd g2 fun g => h2.not g
  | step h1 h2 h3 ih => intro e' j' h'; cases h' with
    | err g1 g2 => exact absurd h2 fun g => g2.not g
    | step g1 g2 g3 =>
      obtain ⟨rfl, rfl⟩ := h2.det g2
      exact ih g3
theorem FlE.not {us : List Fu} {i a : Nat} {e : Int} (h : FlE s pl L us i e a) : ∀ {vs : List Fu} {j' : Nat}, FlO s pl L us i vs j' → False := by
  induction h with
  | err h1 h2 => intro vs j' h'; cases h' with
    | fin g => exact h1 g
    | step g1 g2 g3 => exact h2.not g2
  | step h1 h2 h3 ih => intro vs j' h'; cases h' with
    | fin g => exact h1 g
    | step g1 g2 g3 =>
      obtain ⟨rfl, rfl⟩ := h2.det g2
      exact ih g3
end
theorem PfO.det {s : ByteArray} {e e' : Int} {a a' : Nat} {us us' : List Fu} (h : PfO s e a us) (h' : PfO s e' a' us') : e = e' ∧ a = a' ∧ us = us' := by
  cases h with
  | scan h0 => cases h' with
    | scan => exact ⟨rfl, rfl, rfl⟩
    | er g0 => exact absurd g0 h0
    | ok g0 => exact absurd g0 h0
  | er h0 h1 => cases h' with
    | scan g0 => exact absurd h0 g0
    | er g0 g1 => obtain ⟨rfl, rfl⟩ := h1.det g1; exact ⟨rfl, rfl, rfl⟩
    | ok g0 g1 => exact absurd g1 fun g => h1.not g
  | ok h0 h1 => cases h' with
    | scan g0 => exact absurd h0 g0
    | er g0 g1 => exact absurd h1 fun g => g1.not g
    | ok g0 g1 => obtain ⟨rfl, rfl⟩ := h1.det g1; exact ⟨rfl, rfl, rfl⟩
end Go.Proofs.YtfphceknmgadgaaDoor
namespace Go.Proofs.YtfphceknmgadgaaDoor
open Go.Vm
set_option maxHeartbeats 2000000
set_option maxRecDepth 20000
section
variable {x y : LR} (h : keyX x = keyX y)
include h
theorem kk_is (k : Int) (t : ByteArray) : isL x k t = isL y k t := by unfold isL; rw [(key_lx h).1, (key_lx h).2.1]
theorem kk_fn : fnB x = fnB y := by unfold fnB; rw [(key_lx h).1, (key_lx h).2.1]
theorem kk_col : colB x = colB y := kk_is h _ _
end
structure Seg (s pl : ByteArray) (L : List LR) (n : Nat) (s' pl' : ByteArray) (L' : List LR) (d sg : Nat) : Prop where
  key : ∀ i, i < n → keyX (lxA L' (i + d)) = keyX (lxA L i)
  pos : ∀ i, i < n → atA L' (i + d) = atA L i + sg
  pe : ∀ a b, pl'.extract (a + sg) (b + sg) = pl.extract a b ∨ pl.size < b
  tx : ∀ a b, s'.extract (a + sg) (b + sg) = s.extract a b ∨ s.size < b
  lt : ∀ i, i < n → atA L i + 1 ≤ s.size ∧ atA L i ≤ pl.size
  nz : ∀ i, (lxA L i).k ≠ 0 → i < n
  nk : ∀ {i}, i < n → (lxA L i).k ≠ 0
  n0 : (lxA L n).k = 0
  len : n < L.length
  len' : n + d ≤ L'.length
theorem isL_nz {x : LR} {k : Int} {t : ByteArray} (h : isL x k t = true) (hk : k ≠ 0) : x.k ≠ 0 := by rw [isL_k h]; exact hk
theorem exE_spec {L : List LR} : ∀ (f i j : Nat), i ≤ j → j ≤ i + f → (∀ m, i ≤ m → m < j → (lxA L m).k ≠ 0 ∧ colB (lxA L m) = false) → ((lxA L j).k = 0 ∨ colB (lxA L j) = true) → exE L f i = j
  | 0, i, j, h1, h2, _, _ => by simp only [exE]; omega
  | f + 1, i, j, h1, h2, h3, h4 => by
    simp only [exE]
    by_cases e : i = j
    · subst e; rw [if_pos h4]
    · obtain ⟨a, b⟩ := h3 i (Nat.le_refl _) (by omega)
      rw [if_neg (by rw [b]; simp [a]), exE_spec f (i + 1) j (by omega) (by omega) (fun m h5 h6 => h3 m (by omega) h6) h4]
theorem exE_out {L : List LR} : ∀ (f i : Nat), i ≤ exE L f i ∧ exE L f i ≤ i + f ∧ (∀ m, i ≤ m → m < exE L f i → (lxA L m).k ≠ 0 ∧ colB (lxA L m) = false)
  | 0, i => ⟨Nat.le_refl _, Nat.le_refl _, fun m h1 h2 => by simp only [exE] at h2; omega⟩
  | f + 1, i => by
    simp only [exE]
    by_cases h : (lxA L i).k = 0 ∨ colB (lxA L i) = true
    · rw [if_pos h]; exact ⟨Nat.le_refl _, by omega, fun m h1 h2 => by omega⟩
    · rw [if_neg h]
      obtain ⟨a, b, c⟩ := exE_out (L := L) f (i + 1)
      refine ⟨by omega, by omega, fun m h1 h2 => ?_⟩
      by_cases e : m = i
      · subst e; exact ⟨fun h3 => h (.inl h3), by cases h4 : colB (lxA L m) with | true => exact absurd (.inr h4) h | false => rfl⟩
      · exact c m (by omega) h2
section
variable {s pl s' pl' : ByteArray} {L L' : List LR} {n d sg : Nat} (H : Seg s pl L n s' pl' L' d sg)
include H
theorem Seg.opN {k : Int} {w : ByteArray} {i i2 : Nat} {v : Int} (h : opN L k w i = .ok (v, i2)) (hi : i2 < n) (hk : k ≠ 0) : i ≤ i2 ∧ opN L' k w (i + d) = .ok (v, i2 + d) := by
  unfold Go.Proofs.YtfphceknmgadgaaDoor.opN at h ⊢
  split at h
  · rename_i h1
    split at h
    · rename_i h2
      cases h
      have e1 := H.key i (by omega)
      have e2 := H.key (i + 1) (by omega)
      rw [show i + d + 1 = i + 1 + d by omega, kk_is e1, if_pos h1, (key_lx e2).1, if_pos h2, (key_lx e2).2.2]
      exact ⟨by omega, by rw [show i + d + 2 = i + 2 + d by omega]⟩
    · cases h
  · rename_i h1
    cases h
    have e1 := H.key i hi
    rw [kk_is e1, if_neg h1]
    exact ⟨Nat.le_refl _, rfl⟩
theorem Seg.fuT {j k : Nat} {q : Int × Int × Int × Int} (h : fuT s L j = .ok (q, k)) : j < n ∧ k ≤ n ∧ j < k ∧ colB (lxA L j) = true ∧ fuT s' L' (j + d) = .ok (q, k + d) := by
  unfold Go.Proofs.YtfphceknmgadgaaDoor.fuT at h ⊢
  split at h
  · cases h
  rename_i h1
  have h1' : colB (lxA L j) = true := by simpa using h1
  split at h
  · cases h
  rename_i h2
  have h2' : (lxA L (j + 1)).k = 2 := by simpa using h2
  split at h
  · cases h
  rename_i h3
  have h3' : isL (lxA L (j + 2)) 4 ⟨#[37]⟩ = true := by simpa using h3
  have n0 := H.nz j (isL_nz h1' (by decide))
  have n1 := H.nz (j + 1) (by rw [h2']; decide)
  have n2 := H.nz (j + 2) (isL_nz h3' (by decide))
  split at h
  · cases h
  rename_i b hb
  split at h
  · cases h
  rename_i fx k1 hk1
  split at h
  · cases h
  rename_i mn k2 hk2
  split at h
  · cases h
  rename_i mx k3 hk3
  split at h
  · cases h
  rename_i h4
  have h4' : isL (lxA L k3) 4 ⟨#[59]⟩ = true := by simpa using h4
  have n3 := H.nz k3 (isL_nz h4' (by decide))
  cases h
  have m3 : k2 ≤ k3 := by
    unfold Go.Proofs.YtfphceknmgadgaaDoor.opN at hk3
    split at hk3
    · split at hk3
      · cases hk3; omega
      · cases hk3
    · cases hk3; omega
  have m2 : k1 ≤ k2 := by
    unfold Go.Proofs.YtfphceknmgadgaaDoor.opN at hk2
    split at hk2
    · split at hk2
      · cases hk2; omega
      · cases hk2
    · cases hk2; omega
  obtain ⟨_, o3⟩ := H.opN hk3 n3 (by decide)
  obtain ⟨_, o2⟩ := H.opN hk2 (by omega) (by decide)
  obtain ⟨m1, o1⟩ := H.opN hk1 (by omega) (by decide)
  have e0 := H.key j n0
  have e1 := H.key (j + 1) n1
  have e2 := H.key (j + 2) n2
  have e3 := H.key k3 n3
  have p1 := H.pos (j + 1) n1
  have p2 := H.pos (j + 2) n2
  have ht : s'.extract (atA L (j + 1) + sg) (atA L (j + 2) + sg + 1) = s.extract (atA L (j + 1)) (atA L (j + 2) + 1) := by
    rcases H.tx (atA L (j + 1)) (atA L (j + 2) + 1) with h | h
    · rw [← h]; congr 1; omega
    · have := (H.lt (j + 2) n2).1; omega
  refine ⟨n0, by omega, by omega, h1', ?_⟩
  rw [show j + d + 1 = j + 1 + d by omega, show j + d + 2 = j + 2 + d by omega, show j + d + 3 = j + 3 + d by omega, kk_col e0, if_neg h1, (key_lx e1).1, if_neg h2, kk_is e2, if_neg h3, p1, p2, ht, hb]
  simp only [o1, o2, o3]
  rw [kk_is e3, if_neg h4]
  simp only [Except.ok.injEq, Prod.mk.injEq, true_and]
  omega
theorem Seg.exJ {i j : Nat} (hi : i ≤ n) (hj : exJ L i = j) (hc : colB (lxA L j) = true) : i ≤ j ∧ j < n ∧ Go.Proofs.YtfphceknmgadgaaDoor.exJ L' (i + d) = j + d := by
  have nj := H.nz j (isL_nz hc (by decide))
  unfold Go.Proofs.YtfphceknmgadgaaDoor.exJ at hj ⊢
  obtain ⟨a, b, c⟩ := exE_out (L := L) (L.length - i) i
  rw [hj] at a b c
  refine ⟨a, nj, exE_spec _ _ _ (by omega) (by have := H.len'; omega) (fun m h1 h2 => ?_) (.inr ?_)⟩
  · obtain ⟨q1, q2⟩ := c (m - d) (by omega) (by omega)
    have e := H.key (m - d) (by omega)
    rw [show m - d + d = m by omega] at e
    rw [(key_lx e).1, kk_col e]; exact ⟨q1, q2⟩
  · rw [kk_col (H.key j nj)]; exact hc
theorem Seg.rule {us : List Fu} {i k : Nat} {u : Fu} (h : FuO s pl L us i u k) : i < k ∧ k ≤ n ∧ us.length < 64 ∧ hasF_ u.nm us = false ∧ (lxA L i).k ≠ 0 ∧ ∀ vs : List Fu,
    (64 ≤ vs.length → FuE s' pl' L' vs (i + d) 3 (atA L' (i + d))) ∧ (vs.length < 64 → hasF_ u.nm vs = true → FuE s' pl' L' vs (i + d) 7 (atA L' (i + 1 + d))) ∧ (vs.length < 64 → hasF_ u.nm vs = false → FuO s' pl' L' vs (i + d) u (k + d)) := by
  cases h with
  | @ok t b fx mn mx k h1 h2 h3 =>
    obtain ⟨t1, t2, t3, t4, t5⟩ := H.fuT h3
    unfold Go.Proofs.YtfphceknmgadgaaDoor.fuH at h1
    split at h1
    · cases h1
    rename_i q1
    split at h1
    · cases h1
    rename_i q2
    split at h1
    · cases h1
    rename_i q3
    split at h1
    · cases h1
    rename_i q4
    split at h1
    · cases h1
    rename_i q5
    have q2' : isL (lxA L i) 1 feeB = true := by simpa using q2
    have q3' : fnB (lxA L (i + 1)) = true := by simpa using q3
    have q5' : isL (lxA L (i + 2)) 1 ⟨#[119, 104, 101, 110]⟩ = true := by simpa using q5
    have q4' : hasF_ (lxA L (i + 1)).t us = false := by simpa using q4
    have n0 := H.nz i (isL_nz q2' (by decide))
    have n1 := H.nz (i + 1) (by unfold fnB at q3'; simp only [Bool.and_eq_true, decide_eq_true_eq] at q3'; rw [q3'.1]; decide)
    have n2 := H.nz (i + 2) (isL_nz q5' (by decide))
    obtain ⟨x1, x2, x3⟩ := H.exJ (i := i + 3) (by omega) rfl t4
    have e0 := H.key i n0
    have e1 := H.key (i + 1) n1
    have e2 := H.key (i + 2) n2
    have hlen : us.length < 64 := by
      rcases Nat.lt_or_ge us.length 64 with h | h
      · exact h
      · exact absurd ⟨h, q2'⟩ q1
    refine ⟨by omega, t2, hlen, q4', isL_nz q2' (by decide), fun vs => ⟨fun hv => ?_, fun hv hh => ?_, fun hv hh => ?_⟩⟩
    · exact .h (by unfold Go.Proofs.YtfphceknmgadgaaDoor.fuH; rw [kk_is e0, if_pos ⟨hv, q2'⟩])
    · refine .h ?_
      unfold Go.Proofs.YtfphceknmgadgaaDoor.fuH
      rw [show i + d + 1 = i + 1 + d by omega, show i + d + 2 = i + 2 + d by omega, kk_is e0, if_neg (fun h => by omega), if_neg q2, kk_fn e1, if_neg q3, (key_lx e1).2.1, if_pos hh]
    · have hH : fuH L' vs (i + d) = none := by
        unfold Go.Proofs.YtfphceknmgadgaaDoor.fuH
        rw [show i + d + 1 = i + 1 + d by omega, show i + d + 2 = i + 2 + d by omega, kk_is e0, if_neg (fun h => by omega), if_neg q2, kk_fn e1, if_neg q3, (key_lx e1).2.1, if_neg (by rw [hh]; simp), kk_is e2, if_neg q5]
      have p3 := H.pos (i + 3) (by omega)
      have pj := H.pos _ x2
      have hS : exS pl' L' (i + d) = exS pl L i := by
        unfold exS
        rw [show i + d + 3 = i + 3 + d by omega, x3, p3, pj]
        rcases H.pe (atA L (i + 3)) (atA L (Go.Proofs.YtfphceknmgadgaaDoor.exJ L (i + 3))) with h | h
        · exact h
        · have := (H.lt _ x2).2; omega
      have := FuO.ok (s := s') (pl := pl') (L := L') (us := vs) (i := i + d) (t := t) (b := b) (fx := fx) (mn := mn) (mx := mx) (k := k + d) hH (by rw [hS]; exact h2) (by rw [show i + d + 3 = i + 3 + d by omega, x3]; exact t5)
      rw [show i + d + 1 = i + 1 + d by omega, (key_lx e1).2.1] at this
      exact this
end
def runU (us : List Fu) : List Fu → Except Int (List Fu)
  | [] => .ok us
  | v :: vs => if 64 ≤ us.length then .error 3 else if hasF_ v.nm us = true then .error 7 else runU (us ++ [v]) vs
theorem runU_ok : ∀ (vs us ws : List Fu), runU us vs = .ok ws → ws = us ++ vs
  | [], us, ws, h => by simp only [runU] at h; cases h; simp
  | v :: vs, us, ws, h => by
    simp only [runU] at h
    split at h
    · cases h
    split at h
    · cases h
    rw [runU_ok vs _ _ h]; simp
theorem Seg.run {s pl s' pl' : ByteArray} {L L' : List LR} {n d sg : Nat} (H : Seg s pl L n s' pl' L' d sg) {us vs : List Fu} {i k : Nat} (h : FlO s pl L us i vs k) : i ≤ n → ∃ added, vs = us ++ added ∧ runU us added = .ok vs ∧ ∀ us1,
    (∀ ws, runU us1 added = .ok ws → (∀ vs' k', FlO s' pl' L' ws (n + d) vs' k' → FlO s' pl' L' us1 (i + d) vs' k') ∧ (∀ e a, FlE s' pl' L' ws (n + d) e a → FlE s' pl' L' us1 (i + d) e a)) ∧
    (∀ e, runU us1 added = .error e → ∃ a, FlE s' pl' L' us1 (i + d) e a) := by
  induction h with
  | @fin us i h0 =>
    intro hi
    have hin : i = n := by
      rcases Nat.lt_or_ge i n with h | h
      · exact absurd h0 (H.nk h)
      · omega
    subst hin
    refine ⟨[], by simp, rfl, fun us1 => ⟨fun ws hw => ?_, fun e he => ?_⟩⟩
    · simp only [runU] at hw; cases hw; exact ⟨fun _ _ h => h, fun _ _ h => h⟩
    · simp only [runU] at he; cases he
  | @step us vs u i j k h0 h1 h2 ih =>
    intro hi
    obtain ⟨r1, r2, r3, r4, r5, r6⟩ := H.rule h1
    obtain ⟨added, q1, q2, q3⟩ := ih r2
    have hk' : (lxA L' (i + d)).k ≠ 0 := by rw [(key_lx (H.key i (H.nz i h0))).1]; exact h0
    refine ⟨u :: added, by rw [q1]; simp, ?_, fun us1 => ?_⟩
    · simp only [runU]
      rw [if_neg (by omega), if_neg (by rw [r4]; simp), q2]
    obtain ⟨c1, c2, c3⟩ := r6 us1
    obtain ⟨p1, p2⟩ := q3 (us1 ++ [u])
    refine ⟨fun ws hw => ?_, fun e he => ?_⟩
    · simp only [runU] at hw
      split at hw
      · cases hw
      rename_i hl
      split at hw
      · cases hw
      rename_i hh
      have hO := c3 (by omega) (by simpa using hh)
      obtain ⟨z1, z2⟩ := p1 ws hw
      exact ⟨fun vs' k' hv => .step hk' hO (z1 _ _ hv), fun e a hv => .step hk' hO (z2 _ _ hv)⟩
    · simp only [runU] at he
      split at he
      · rename_i hl; cases he; exact ⟨_, .err hk' (c1 hl)⟩
      rename_i hl
      split at he
      · rename_i hh; cases he; exact ⟨_, .err hk' (c2 (by omega) hh)⟩
      rename_i hh
      have hO := c3 (by omega) (by simpa using hh)
      obtain ⟨a, ha⟩ := p2 e he
      exact ⟨a, .step hk' hO ha⟩
end Go.Proofs.YtfphceknmgadgaaDoor
namespace Go.Proofs.YtfphceknmgadgaaDoor
open Go.Vm
set_option maxHeartbeats 2000000
set_option maxRecDepth 20000
theorem lexR_a {s : ByteArray} {i : Nat} (h : (lexR s i).e = 0) : (lexR s i).a = i := by
  revert h
  unfold lexR
  split
  · intro h; simp [bad] at h
  · split
    · intro _; rfl
    split
    · split
      · intro h; simp [bad] at h
      · intro _; rfl
    split
    · split
      · rename_i h1; intro h; exact absurd h h1
      · intro _; rfl
    split
    · unfold textR
      split
      · intro h; simp [bad] at h
      · split
        · intro h; simp [bad] at h
        · intro _; rfl
    split
    · intro _; rfl
    · intro h; simp [bad] at h
theorem scanG_pos (s : ByteArray) : ∀ f i, (scanG s f i).1 = 0 → ∀ x ∈ (scanG s f i).2.2, x.k ≠ 0 → x.a < s.size := by
  intro f
  induction f with
  | zero => intro i _ x hx; simp [scanG] at hx
  | succ f ih =>
    intro i h0 x hx hk
    by_cases hi : s.size ≤ i
    · rw [scanG_end f hi] at hx
      simp only [List.mem_singleton] at hx
      subst hx
      exact absurd rfl hk
    by_cases he : (lexR s i).e = 0
    rotate_left
    · rw [scanG_err f hi he] at h0; exact absurd h0 he
    rw [scanG_ok f hi he rfl] at h0 hx
    have h0' : (scanG s f ((lexR s i).nx + skN false (s.toList.drop (lexR s i).nx))).1 = 0 := h0
    simp only [h0', if_true, List.mem_cons] at hx
    rcases hx with rfl | hx
    · rw [lexR_a he]; omega
    · exact ih _ h0' x hx hk
theorem scanF_pos {s : ByteArray} (h0 : (scanF s).1 = 0) : ∀ x ∈ (scanF s).2.2, x.k ≠ 0 → x.a < s.size := by
  revert h0
  unfold scanF
  split
  · intro h; cases h
  · exact fun h => scanG_pos s _ _ h
theorem wf_k {x : LR} (h : wfX x) : x.k ≠ 0 := by
  rcases h with h | h | h | h <;> (rw [h.1]; decide)
theorem xt_mid {s s' : ByteArray} {p q : List UInt8} {sg : Nat} (h : s'.toList = p ++ (s.toList ++ q)) (hp : p.length = sg) (a b : Nat) : s'.extract (a + sg) (b + sg) = s.extract a b ∨ s.size < b := by
  rcases Nat.lt_or_ge s.size b with hb | hb
  · exact .inr hb
  · left
    apply ba_list
    rw [xt_list, xt_list, h, List.take_append, List.take_of_length_le (by omega), hp, Nat.add_sub_cancel, List.take_append_of_le_length (by rw [size_list]; exact hb), List.drop_append, List.drop_eq_nil_of_le (by omega), hp, Nat.add_sub_cancel, List.nil_append]
theorem seg_of {s pl s' pl' : ByteArray} {K L' : List LR} {X : LR} {M N : List ((Int × ByteArray × Int) × Nat)} {d sg : Nat} (hX : X.k = 0) (hK : ∀ x ∈ K, x.k ≠ 0 ∧ x.a + 1 ≤ s.size) (hm : L'.map (kaX 0) = M ++ (K.map (kaX sg) ++ N)) (hd : M.length = d) (hz : pl.size = s.size)
    {p q p2 q2 : List UInt8} (h1 : s'.toList = p ++ (s.toList ++ q)) (l1 : p.length = sg) (h2 : pl'.toList = p2 ++ (pl.toList ++ q2)) (l2 : p2.length = sg) : Seg s pl (K ++ [X]) K.length s' pl' L' d sg := by
  have hlen : L'.length = d + (K.length + N.length) := by
    have := congrArg List.length hm
    simpa [hd] using this
  have hin : ∀ i, i < K.length → lxA (K ++ [X]) i = lxA K i := fun i hi => by
    unfold lxA; rw [List.getD_eq_getElem?_getD, List.getD_eq_getElem?_getD, List.getElem?_append_left hi]
  have hget : ∀ i (hi : i < K.length), lxA K i = K[i] := fun i hi => lxA_of (List.getElem?_eq_getElem hi)
  have hmap : ∀ i, i < K.length → kaX 0 (lxA L' (i + d)) = kaX sg (lxA K i) := fun i hi => by
    have h3 : (L'.map (kaX 0))[i + d]? = some (kaX sg (lxA K i)) := by
      rw [hm, List.getElem?_append_right (by omega), show i + d - M.length = i by omega, List.getElem?_append_left (by simpa using hi), List.getElem?_map, List.getElem?_eq_getElem hi, hget i hi]
      rfl
    have hb : i + d < L'.length := by omega
    rw [List.getElem?_map, List.getElem?_eq_getElem hb] at h3
    rw [lxA_of (List.getElem?_eq_getElem hb)]
    simpa using h3
  have hend : lxA (K ++ [X]) K.length = X := lxA_of (by simp)
  refine ⟨fun i hi => ?_, fun i hi => ?_, fun a b => xt_mid h2 l2 a b, fun a b => xt_mid h1 l1 a b, fun i hi => ?_, fun i hk => ?_, fun hi => ?_, ?_, by simp, by omega⟩
  · have := hmap i hi
    rw [hin i hi]
    simp only [kaX, Prod.mk.injEq] at this
    exact this.1
  · have := hmap i hi
    unfold atA
    rw [hin i hi]
    simp only [kaX, Prod.mk.injEq, Nat.add_zero] at this
    exact this.2
  · unfold atA
    rw [hin i hi, hget i hi, hz]
    have := (hK _ (List.getElem_mem hi)).2
    omega
  · rcases Nat.lt_or_ge i K.length with h | h
    · exact h
    · exfalso
      by_cases e : i = K.length
      · subst e; rw [hend] at hk; exact hk hX
      · apply hk
        unfold lxA
        rw [List.getD_eq_getElem?_getD, List.getElem?_eq_none (by simp; omega)]
        rfl
  · rw [hin _ hi, hget _ hi]
    exact (hK _ (List.getElem_mem hi)).1
  · rw [hend]; exact hX
theorem plB_size (s : ByteArray) : (plB s).size = s.size := by unfold plB; rw [bs_size, plT_len, size_list]
theorem plB_list (s : ByteArray) : (plB s).toList = pW false s.toList := by unfold plB; rw [bs_list]; rfl
theorem scan_K {P : ByteArray} (h0 : (scanF P).1 = 0) : ∃ K, (scanF P).2.2 = K ++ [endR P] ∧ ∀ x ∈ K, x.k ≠ 0 ∧ x.a + 1 ≤ P.size := by
  obtain ⟨K, hS, hw, _⟩ := scan_out h0
  refine ⟨K, hS, fun x hx => ⟨wf_k (hw x hx), ?_⟩⟩
  exact scanF_pos h0 x (by rw [hS]; exact List.mem_append_left _ hx) (wf_k (hw x hx))
theorem PfO.ok_inv {s : ByteArray} {a : Nat} {us : List Fu} (h : PfO s 0 a us) : (scanF (plB s)).1 = 0 ∧ a = 0 ∧ ∃ j, FlO s (plB s) (scanF (plB s)).2.2 [] 0 us j := by
  generalize he : (0 : Int) = e at h
  cases h with
  | scan h0 => exact absurd he.symm h0
  | er h0 h1 =>
    subst he
    exfalso
    have : ∀ {us : List Fu} {e : Int} {i a : Nat}, FlE s (plB s) (scanF (plB s)).2.2 us i e a → e ≠ 0 := fun h => by
      induction h with
      | err _ h => exact h.ne
      | step _ _ _ ih => exact ih
    exact this h1 rfl
  | ok h0 h1 => exact ⟨h0, rfl, _, h1⟩
theorem pf_nl {s t r : ByteArray} {us vs : List Fu} {a b : Nat} (h : r.toList = s.toList ++ 10 :: t.toList) (hz : r.size ≤ 4000) (h1 : PfO s 0 a us) (h2 : PfO t 0 b vs) : (∀ ws, runU us vs = .ok ws → PfO r 0 0 ws) ∧ (∀ e, runU us vs = .error e → ∃ a, PfO r e a []) := by
  obtain ⟨s0, _, js, f1⟩ := h1.ok_inv
  obtain ⟨t0, _, jt, f2⟩ := h2.ok_inv
  have hc : cW false s.toList = true := closed_of s0
  have hR : (plB r).toList = (plB s).toList ++ 10 :: (plB t).toList := by
    rw [plB_list, plB_list, plB_list, h, pW_nl s.toList.length s.toList false t.toList (Nat.le_refl _) hc]
  obtain ⟨K0, hK0, r0, hmap⟩ := scanF_nl hR (by rw [plB_size]; exact hz) s0
  have r0 : (scanF (plB r)).1 = 0 := by rw [r0, t0]
  have hmap := hmap r0
  obtain ⟨K1, hK1, p1⟩ := scan_K s0
  obtain ⟨K2, hK2, p2⟩ := scan_K t0
  have hKK : K0 = K1 := by
    rw [hK1] at hK0
    exact (List.append_inj' hK0 rfl).1.symm
  subst hKK
  have S1 : Seg s (plB s) (K0 ++ [endR (plB s)]) K0.length r (plB r) (scanF (plB r)).2.2 0 0 :=
    seg_of (M := []) (N := (scanF (plB t)).2.2.map (kaX ((plB s).size + 1))) rfl (fun x hx => by have := p1 x hx; rw [plB_size] at this; exact this) hmap rfl (plB_size s) (p := []) (q := 10 :: t.toList) h rfl (p2 := []) (q2 := 10 :: (plB t).toList) hR rfl
  have S2 : Seg t (plB t) (K2 ++ [endR (plB t)]) K2.length r (plB r) (scanF (plB r)).2.2 K0.length (s.size + 1) := by
    refine seg_of (M := K0.map (kaX 0)) (N := [kaX (s.size + 1) (endR (plB t))]) rfl (fun x hx => by have := p2 x hx; rw [plB_size] at this; exact this) ?_ (by simp) (plB_size t) (p := s.toList ++ [10]) (q := []) (by rw [h]; simp) (by rw [List.length_append, size_list]; rfl) (p2 := (plB s).toList ++ [10]) (q2 := []) (by rw [hR]; simp) (by rw [List.length_append, size_list, plB_size]; rfl)
    rw [hmap, hK2, plB_size, List.map_append]; rfl
  rw [hK1] at f1
  rw [hK2] at f2
  obtain ⟨ad1, q1, q2, q3⟩ := S1.run f1 (Nat.zero_le _)
  obtain ⟨ad2, w1, w2, w3⟩ := S2.run f2 (Nat.zero_le _)
  have e1 : us = ad1 := by simpa using q1
  have e2 : vs = ad2 := by simpa using w1
  subst e1
  subst e2
  obtain ⟨y1, y2⟩ := (q3 []).1 us q2
  obtain ⟨z1, z2⟩ := w3 us
  have hfin : (lxA (scanF (plB r)).2.2 (K2.length + K0.length)).k = 0 := by
    have h3 : ((scanF (plB r)).2.2.map (kaX 0))[K2.length + K0.length]? = some (kaX (s.size + 1) (endR (plB t))) := by
      rw [hmap, hK2, plB_size, List.getElem?_append_right (by simp), List.length_map, Nat.add_sub_cancel, List.getElem?_map]
      simp
    rw [List.getElem?_map] at h3
    cases hx : (scanF (plB r)).2.2[K2.length + K0.length]? with
    | none => rw [hx] at h3; cases h3
    | some x =>
      rw [hx] at h3
      rw [lxA_of hx]
      simp only [Option.map_some, Option.some.injEq, kaX, keyX, Prod.mk.injEq] at h3
      rw [h3.1.1]; rfl
  rw [Nat.zero_add, Nat.add_zero] at y1 y2
  rw [Nat.zero_add] at z1 z2
  refine ⟨fun ws hw => ?_, fun e he => ?_⟩
  · exact .ok r0 (y1 _ _ ((z1 ws hw).1 _ _ (.fin hfin)))
  · obtain ⟨a, ha⟩ := z2 e he
    exact ⟨a, .er r0 (y2 _ _ ha)⟩
theorem pf_sp {s r : ByteArray} {us : List Fu} {a : Nat} (h : r.toList = 32 :: s.toList) (hz : r.size ≤ 4000) (h1 : PfO s 0 a us) : PfO r 0 0 us := by
  obtain ⟨s0, _, js, f1⟩ := h1.ok_inv
  have hR : (plB r).toList = [32] ++ (plB s).toList := by
    rw [plB_list, plB_list, h, pW_cons, if_neg (by decide), if_neg (by decide), if_neg (by decide)]
    rfl
  obtain ⟨g1, _, g3⟩ := scanF_pre (f := [32]) hR (fun l => by simp [skN, blankB]; omega) (by rw [plB_size]; exact hz)
  have r0 : (scanF (plB r)).1 = 0 := by rw [g1, s0]
  obtain ⟨K1, hK1, p1⟩ := scan_K s0
  have S1 : Seg s (plB s) (K1 ++ [endR (plB s)]) K1.length r (plB r) (scanF (plB r)).2.2 0 1 := by
    refine seg_of (M := []) (N := [kaX 1 (endR (plB s))]) rfl (fun x hx => by have := p1 x hx; rw [plB_size] at this; exact this) ?_ rfl (plB_size s) (p := [32]) (q := []) (by rw [h]; simp) rfl (p2 := [32]) (q2 := []) (by rw [hR]; simp) rfl
    rw [g3, hK1, List.map_append]; rfl
  rw [hK1] at f1
  obtain ⟨ad1, q1, q2, q3⟩ := S1.run f1 (Nat.zero_le _)
  have e1 : us = ad1 := by simpa using q1
  subst e1
  obtain ⟨y1, y2⟩ := (q3 []).1 us q2
  have hfin : (lxA (scanF (plB r)).2.2 K1.length).k = 0 := by
    have h3 : ((scanF (plB r)).2.2.map (kaX 0))[K1.length]? = some (kaX 1 (endR (plB s))) := by
      rw [g3, hK1, List.getElem?_map]
      simp
    rw [List.getElem?_map] at h3
    cases hx : (scanF (plB r)).2.2[K1.length]? with
    | none => rw [hx] at h3; cases h3
    | some x =>
      rw [hx] at h3
      rw [lxA_of hx]
      simp only [Option.map_some, Option.some.injEq, kaX, keyX, Prod.mk.injEq] at h3
      rw [h3.1.1]; rfl
  rw [Nat.zero_add, Nat.add_zero] at y1
  exact .ok r0 (y1 _ _ (.fin hfin))
theorem pf_blank {b : List UInt8} (hp : pW false b = b) (hs : skN false b = b.length) (hl : b.length ≤ 4000) : PfO (bs b) 0 0 [] := by
  have hP : plB (bs b) = bs b := by unfold plB; rw [bs_list, plT_pW, hp]
  have hS : scanF (bs b) = (0, 0, [endR (bs b)]) := by
    unfold scanF
    rw [bs_size, if_neg (by omega), bs_list, hs, scanG_end _ (by rw [bs_size]; omega)]
  exact .ok (j := 0) (by rw [hP, hS]) (by rw [hP, hS]; exact .fin rfl)
def spB : List (List UInt8) := [[32], [10], [9, 32, 10], [35, 32, 49, 46, 53, 37, 32, 97, 32, 114, 101, 109, 97, 114, 107, 59, 32, 10], [10, 35, 10]]
theorem pf_front {b : List UInt8} (hb : b ∈ spB) {s r : ByteArray} {us : List Fu} {a : Nat} (h : r.toList = b ++ s.toList) (hz : r.size ≤ 4000) (h1 : PfO s 0 a us) (h64 : us.length ≤ 64) (hr : runU [] us = .ok us) : PfO r 0 0 us := by
  have go : ∀ c : List UInt8, pW false c = c → skN false c = c.length → c.length ≤ 4000 → b = c ++ [10] → PfO r 0 0 us := fun c c1 c2 c3 c4 =>
    (pf_nl (s := bs c) (t := s) (by rw [h, c4, bs_list]; simp) hz (pf_blank c1 c2 c3) h1).1 us hr
  simp only [spB, List.mem_cons, List.not_mem_nil, or_false] at hb
  rcases hb with rfl | rfl | rfl | rfl | rfl
  · exact pf_sp h hz h1
  · exact go [] (by decide) (by decide) (by decide) rfl
  · exact go [9, 32] (by decide) (by decide) (by decide) rfl
  · exact go [35, 32, 49, 46, 53, 37, 32, 97, 32, 114, 101, 109, 97, 114, 107, 59, 32] (by decide +kernel) (by decide +kernel) (by decide) rfl
  · exact go [10, 35] (by decide) (by decide) (by decide) rfl
theorem spB_blank {b : List UInt8} (hb : b ∈ spB) : PfO (bs b) 0 0 [] ∧ b.length ≤ 18 := by
  simp only [spB, List.mem_cons, List.not_mem_nil, or_false] at hb
  rcases hb with rfl | rfl | rfl | rfl | rfl
  all_goals exact ⟨pf_blank (by decide +kernel) (by decide +kernel) (by decide), by decide⟩
theorem pf_runs {s : ByteArray} {us : List Fu} {a : Nat} (h1 : PfO s 0 a us) : runU [] us = .ok us ∧ us.length ≤ 64 := by
  obtain ⟨s0, _, js, f1⟩ := h1.ok_inv
  obtain ⟨K1, hK1, p1⟩ := scan_K s0
  have S1 : Seg s (plB s) (K1 ++ [endR (plB s)]) K1.length s (plB s) (scanF (plB s)).2.2 0 0 := by
    refine seg_of (M := []) (N := [kaX 0 (endR (plB s))]) rfl (fun x hx => by have := p1 x hx; rw [plB_size] at this; exact this) ?_ rfl (plB_size s) (p := []) (q := []) (by simp) rfl (p2 := []) (q2 := []) (by simp) rfl
    rw [hK1, List.map_append]; rfl
  rw [hK1] at f1
  obtain ⟨ad1, q1, q2, q3⟩ := S1.run f1 (Nat.zero_le _)
  have e1 : us = ad1 := by simpa using q1
  subst e1
  refine ⟨q2, ?_⟩
  have len : ∀ (vs us ws : List Fu), us.length ≤ 64 → runU us vs = .ok ws → ws.length ≤ 64 := by
    intro vs
    induction vs with
    | nil => intro us ws h hr; simp only [runU] at hr; cases hr; exact h
    | cons v vs ih =>
      intro us ws h hr
      simp only [runU] at hr
      split at hr
      · cases hr
      split at hr
      · cases hr
      exact ih _ _ (by simp; omega) hr
  exact len us [] us (by simp) q2
theorem spaces_law {s t c d : ByteArray} {us vs ws ws' : List Fu} {b : List UInt8} {a1 a2 a a' : Nat} {e e' : Int} (hb : b ∈ spB) (hs : PfO s 0 a1 us) (ht : PfO t 0 a2 vs) (hc : c.toList = s.toList ++ 10 :: t.toList) (hd : d.toList = b ++ (s.toList ++ 10 :: (b ++ (t.toList ++ 10 :: b))))
    (hz : s.size + t.size ≤ 3900) (h1 : PfO c e a ws) (h2 : PfO d e' a' ws') : e = e' ∧ ws = ws' ∧ (e = 0 → ws = us ++ vs) := by
  obtain ⟨b1, b2⟩ := spB_blank hb
  obtain ⟨ru, lu⟩ := pf_runs hs
  obtain ⟨rv, lv⟩ := pf_runs ht
  have zc : c.size = s.size + (t.size + 1) := by rw [← size_list, hc, List.length_append, List.length_cons, size_list, size_list]
  have z1 : (bs (b ++ s.toList)).size = b.length + s.size := by rw [bs_size, List.length_append, size_list]
  have z2 : (bs (t.toList ++ 10 :: b)).size = t.size + (b.length + 1) := by rw [bs_size, List.length_append, List.length_cons, size_list]
  have z3 : (bs (b ++ (t.toList ++ 10 :: b))).size = b.length + (t.size + (b.length + 1)) := by rw [bs_size, List.length_append, List.length_append, List.length_cons, size_list]
  have zd : d.size = b.length + (s.size + (b.length + (t.size + (b.length + 1)) + 1)) := by
    rw [← size_list, hd]; simp only [List.length_append, List.length_cons, size_list]
  have k1 : PfO (bs (b ++ s.toList)) 0 0 us := pf_front hb (bs_list _) (by omega) hs lu ru
  have k2 : PfO (bs (t.toList ++ 10 :: b)) 0 0 vs := (pf_nl (s := t) (t := bs b) (by rw [bs_list, bs_list]) (by omega) ht b1).1 vs rfl
  have k3 : PfO (bs (b ++ (t.toList ++ 10 :: b))) 0 0 vs := pf_front hb (s := bs (t.toList ++ 10 :: b)) (by rw [bs_list, bs_list]) (by omega) k2 lv rv
  obtain ⟨c1, c2⟩ := pf_nl hc (by omega) hs ht
  obtain ⟨d1, d2⟩ := pf_nl (s := bs (b ++ s.toList)) (t := bs (b ++ (t.toList ++ 10 :: b))) (r := d) (by rw [bs_list, bs_list, hd]; simp) (by omega) k1 k3
  cases hr : runU us vs with
  | ok w =>
    obtain ⟨rfl, rfl, rfl⟩ := h1.det (c1 w hr)
    obtain ⟨rfl, rfl, rfl⟩ := h2.det (d1 _ hr)
    exact ⟨rfl, rfl, fun _ => runU_ok _ _ _ hr⟩
  | error f =>
    obtain ⟨x, hx⟩ := c2 f hr
    obtain ⟨y, hy⟩ := d2 f hr
    obtain ⟨rfl, rfl, rfl⟩ := h1.det hx
    obtain ⟨rfl, rfl, rfl⟩ := h2.det hy
    refine ⟨rfl, rfl, fun h0 => ?_⟩
    subst h0
    exfalso
    have : ∀ (vs us : List Fu), runU us vs ≠ .error 0 := by
      intro vs
      induction vs with
      | nil => intro us h; simp only [runU] at h; cases h
      | cons v vs ih =>
        intro us h
        simp only [runU] at h
        split at h
        · cases h
        split at h
        · cases h
        exact ih _ h
    exact this vs us hr
end Go.Proofs.YtfphceknmgadgaaDoor
