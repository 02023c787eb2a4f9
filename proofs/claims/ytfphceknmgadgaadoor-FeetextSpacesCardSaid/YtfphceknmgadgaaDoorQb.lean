/-
Names; printed lexemes scanned.
Conditions: none.
-/
import Derived.Test.YtfphceknmgadgaaDoorLexX
import Derived.Test.YtfphceknmgadgaaDoorQa
import Derived.Lib.Join
set_option linter.unusedSimpArgs false
set_option linter.unusedVariables false
namespace Go.Proofs.YtfphceknmgadgaaDoor
open Go.Vm
set_option maxHeartbeats 1000000
set_option maxRecDepth 20000
theorem pbQb : type_of% (An @slIndexByte_p (An @indexByte_p (An @indexRune_p (An @containsRune_p (An @slHasPrefix_p (An @hasPrefix_p (An @classOf_p (An @isWordByte_p (An @wordAt_p (An @skip_p (An @number_p @literal_p))))))))))) := ⟨@slIndexByte_p, @indexByte_p, @indexRune_p, @containsRune_p, @slHasPrefix_p, @hasPrefix_p, @classOf_p, @isWordByte_p, @wordAt_p, @skip_p, @number_p, @literal_p⟩
def nameF (s : ByteArray) : Bool := decide (0 < s.size) && (decide (s.size ≤ 16) && ((match s.toList with | c :: _ => letterB c.toNat | [] => false) && decide (wlen s.toList = s.size)))
theorem toList_nil {s : ByteArray} (h : s.size = 0) : s.toList = [] := by
  have := size_list s
  rw [h] at this
  exact List.eq_nil_of_length_eq_zero this
theorem cls_letter : ∀ c, c < 256 → (clsF c = 2 ∧ letterB c = true) ∨ (clsF c ≠ 2 ∧ letterB c = false) := by decide +kernel
theorem isName_h (s : ByteArray) (h : Heap) : CallsH Tryd.prog 53 #[.string s] h fun r h' => r = .returned (.bool (nameF s)) ∧ h' = h := by
  refine callsH_of_den ⟨Tryd.prog, 53, Tryd.f53, 23, [0, 2], _⟩ (args := [_]) Tryd.func53 rfl Tryd.ntmps53 (by simp) ?_
  by_cases h0 : s.size = 0
  · have e0 : (s.toList = []) = True := by simp [toList_nil h0]
    simp only [evO, ↓vmD, simprocAttr, forall_const, pbQb, e0, toList_nil h0]
    simp [nameF, h0]
  have e0 : (s.toList = []) = False := by simp; intro h; have := size_list s; rw [h] at this; simp at this; omega
  obtain ⟨c, l, hl⟩ := drop_byte (s := s) (i := 0) (by omega)
  obtain ⟨hp, hc, hl', hsl, hb⟩ := byte_at hl
  have hcl := u8_lt c
  have w32 : IntKind.i32.wrap (c.toNat : Int) = c.toNat := w_i32 (by omega) (by omega)
  rw [List.drop_zero] at hl
  have hw := wlen_le s.toList
  rw [size_list] at hw
  have hx := ext_size s 0 (wlen s.toList) (by omega)
  rw [Nat.zero_add] at hx
  by_cases h16 : (16 : Int) < (s.size : Int)
  · simp only [evO, ↓vmD, simprocAttr, forall_const, pbQb, e0, h16]
    have : ¬ s.size ≤ 16 := by omega
    simp [nameF, this]
  have wa : ∀ h Q, CallsX Tryd.prog 41 #[.string s, .int .i64 0] h Q = Q (.returned (.string (s.extract 0 (wlen s.toList)))) h := fun h Q => by
    have e := wordAt_p s 0 (by omega) (by omega) h Q
    simp only [List.drop_zero, Nat.zero_add] at e
    exact e
  rcases cls_letter c.toNat hcl with ⟨k1, k2⟩ | ⟨k1, k2⟩
  · simp only [evO, ↓vmD, simprocAttr, forall_const, pbQb, e0, h16, hb, w32, hcl, k1, wa, hx]
    have h1 : s.size ≤ 16 := by omega
    have h2 : 0 < s.size := by omega
    rw [i_eq]
    simp only [nameF, h1, h2, decide_true, Bool.true_and]
    rw [hl]
    simp only [k2, Bool.true_and]
  · simp only [evO, ↓vmD, simprocAttr, forall_const, pbQb, e0, h16, hb, w32, hcl, k1]
    simp only [nameF]
    rw [hl]
    simp [k2]
theorem isName_v (s : ByteArray) (A_ : AH) : valA Tryd.prog 53 #[.string s] A_ = some (.bool (nameF s)) := pureA_e (by kernel_rfl) (by kernel_rfl) (fun h => isName_h s h)
end Go.Proofs.YtfphceknmgadgaaDoor
namespace Go.Proofs.YtfphceknmgadgaaDoor
open Go.Vm
set_option maxHeartbeats 1000000
set_option maxRecDepth 20000
theorem xt_list (t : ByteArray) (i j : Nat) : (t.extract i j).toList = (t.toList.take j).drop i := by
  rw [ByteArray.toList_eq, ByteArray.toList_eq, ByteArray.data_extract]
  simp [List.extract_eq_take_drop, List.drop_take]
theorem ba_list {a b : ByteArray} (h : a.toList = b.toList) : a = b := by
  rw [ByteArray.toList_eq, ByteArray.toList_eq] at h
  exact ba_ext h
def formX (x : LR) : List UInt8 := if x.k = 1 ∨ x.k = 4 then x.t.toList else if x.k = 2 then Lib.itoa x.n else if x.k = 3 then 34 :: (x.t.toList ++ [34]) else []
def printed (x : LR) : Bool := decide (1 ≤ x.k) && decide (x.k ≤ 4)
def wfX (x : LR) : Prop :=
  (x.k = 1 ∧ x.n = 0 ∧ x.t.toList.length ≤ 16 ∧ wlen x.t.toList = x.t.toList.length ∧ ∃ c l, x.t.toList = c :: l ∧ letterB c.toNat = true) ∨
  (x.k = 2 ∧ x.t = ⟨#[]⟩ ∧ ∃ m : Nat, x.n = m ∧ m ≤ 9007199254740992) ∨
  (x.k = 3 ∧ x.n = 0 ∧ x.t.toList.length ≤ 100 ∧ litR (x.t.toList ++ [34]) = some x.t.toList.length) ∨
  (x.k = 4 ∧ x.n = 0 ∧ (x.t.toList = [33, 61] ∨ x.t.toList = [60, 61] ∨ ∃ c, x.t.toList = [c] ∧ markB c.toNat = true))
def Stop (r : List UInt8) : Prop := r = [] ∨ ∃ l, r = 32 :: l
theorem letter_not : ∀ c, c < 256 → letterB c = true → digitB c = false ∧ c ≠ 34 ∧ blankB c = false ∧ c ≠ 35 ∧ c ≠ 33 ∧ c ≠ 60 := by decide +kernel
theorem digit_not : ∀ c, c < 256 → digitB c = true → letterB c = false ∧ c ≠ 34 ∧ blankB c = false ∧ c ≠ 35 ∧ c ≠ 33 ∧ c ≠ 60 ∧ wordB c = true := by decide +kernel
theorem decV_lt : ∀ (w : List UInt8) (n k : Nat), n < 10 ^ k → allDig w = true → decV w n < 10 ^ (k + w.length)
  | [], n, k, h, _ => by simpa [decV] using h
  | c :: w, n, k, h, hd => by
    rw [allDig_cons, Bool.and_eq_true] at hd
    have hb := dig_bounds hd.1
    have := decV_lt w (10 * n + (c.toNat - 48)) (k + 1) (by rw [Nat.pow_succ]; omega) hd.2
    simp only [decV, List.length_cons]
    rw [show k + (w.length + 1) = k + 1 + w.length by omega]
    exact this
theorem wlen_take : ∀ (l : List UInt8), wlen (l.take (wlen l)) = wlen l
  | [] => rfl
  | c :: l => by
    by_cases hc : wordB c.toNat = true
    · simp only [wlen, hc, if_true, List.take_succ_cons]
      rw [wlen_take l]
    · simp [wlen, hc]
theorem litR_take : ∀ (l : List UInt8) (k : Nat), litR l = some k → litR (l.take k ++ [34]) = some k ∧ k < l.length
  | [], _, h => by simp [litR] at h
  | c :: l, k, h => by
    simp only [litR] at h
    by_cases h1 : c.toNat = 34
    · rw [if_pos h1] at h; cases h; simp [litR]
    · rw [if_neg h1] at h
      by_cases h2 : badC c = true
      · rw [if_pos h2] at h; cases h
      · rw [if_neg h2] at h
        cases h3 : litR l with
        | none => rw [h3] at h; cases h
        | some j =>
          rw [h3] at h
          cases h
          obtain ⟨e1, e2⟩ := litR_take l j h3
          simp only [List.take_succ_cons, List.cons_append, litR, h1, if_false, e1, List.length_cons]
          rw [if_neg h2]
          exact ⟨rfl, by omega⟩
theorem lexR_wf (s : ByteArray) (i : Nat) (hi : i < s.size) (h0 : (lexR s i).e = 0) : wfX (lexR s i) ∧ (formX (lexR s i)).length + i ≤ (lexR s i).nx := by
  obtain ⟨c, l, hl⟩ := drop_byte hi
  obtain ⟨hp, hc, hl', hsl, hb⟩ := byte_at hl
  have hwl := wlen_le (c :: l)
  have hx : ∀ k, k ≤ (c :: l).length → (s.extract i (i + k)).toList = (c :: l).take k := fun k hk => by
    rw [xt_list, List.drop_take, hl]; congr 1; omega
  revert h0
  unfold lexR
  rw [hl]
  simp only
  split
  · rename_i h1
    intro _
    have : 0 < l.length := by
      simp only [pre2, Bool.or_eq_true] at h1
      rcases h1 with h1 | h1 <;> exact (isPre2 _ _ _ _ h1).2.2
    have e := hx 2 (by simp only [List.length_cons]; omega)
    cases l with
    | nil => simp at this
    | cons d l =>
      simp only [List.take_succ_cons, List.take_zero] at e
      refine ⟨.inr (.inr (.inr ⟨rfl, rfl, ?_⟩)), ?_⟩
      · simp only [pre2, List.isPrefixOf, Bool.or_eq_true, Bool.and_eq_true, beq_iff_eq, Bool.and_true, and_true] at h1
        simp only [e]
        rcases h1 with ⟨h1, h2⟩ | ⟨h1, h2⟩
        · exact .inl (by rw [← h1, ← h2])
        · exact .inr (.inl (by rw [← h1, ← h2]))
      · simp only [formX, e]; simp; omega
  split
  · rename_i h1
    split
    · intro h; cases h
    · rename_i h16
      intro _
      have e := hx (wlen (c :: l)) hwl
      have hlen : ((c :: l).take (wlen (c :: l))).length = wlen (c :: l) := by rw [List.length_take]; omega
      have hpos : 0 < wlen (c :: l) := by simp [wlen, wordB, h1]
      refine ⟨.inl ⟨rfl, rfl, ?_, ?_, ?_⟩, ?_⟩
      · simp only [e, hlen]; omega
      · simp only [e]; rw [wlen_take, hlen]
      · simp only [e]
        obtain ⟨j, hj⟩ : ∃ j, wlen (c :: l) = j + 1 := ⟨wlen (c :: l) - 1, by omega⟩
        rw [hj]
        exact ⟨c, _, rfl, h1⟩
      · simp only [formX, e, if_true, true_or]; rw [hlen]; omega
  split
  · rename_i h1
    have e := hx (wlen (c :: l)) hwl
    have hlen : ((c :: l).take (wlen (c :: l))).length = wlen (c :: l) := by rw [List.length_take]; omega
    have hpos : 0 < wlen (c :: l) := by simp [wlen, wordB, h1]
    split
    · intro h; rename_i h2; exact absurd h h2
    · rename_i h2
      intro _
      simp only [ne_eq, Decidable.not_not] at h2
      have hn : ∃ m : Nat, (numF (s.extract i (i + wlen (c :: l))).toList).1 = m ∧ m ≤ 9007199254740992 ∧ m < 10 ^ wlen (c :: l) := by
        revert h2
        unfold numF
        split
        · intro h; cases h
        · rename_i a1
          split
          · intro h; cases h
          · split
            · intro h; cases h
            · rename_i a3
              intro _
              refine ⟨_, rfl, by omega, ?_⟩
              rw [e] at a1 ⊢
              have := decV_lt ((c :: l).take (wlen (c :: l))) 0 0 (by simp) (by simpa using a1)
              rw [hlen] at this
              simpa using this
      obtain ⟨m, hm, hle, hlt⟩ := hn
      refine ⟨.inr (.inl ⟨rfl, rfl, m, hm, hle⟩), ?_⟩
      have h9 := dec_len _ m hpos hlt
      have e : formX ⟨2, ⟨#[]⟩, (numF (s.extract i (i + wlen (c :: l))).toList).1, i, i + wlen (c :: l), 0⟩ = Lib.decDigits m := by simp [formX, hm, Lib.itoa]
      rw [e]
      show (Lib.decDigits m).length + i ≤ i + wlen (c :: l)
      omega
  split
  · rename_i h34
    unfold textR
    rw [hl']
    cases hk : litR l with
    | none => intro h; cases h
    | some k =>
      simp only
      split
      · intro h; cases h
      · rename_i h100
        intro _
        obtain ⟨e1, e2⟩ := litR_take l k hk
        have e : (s.extract (i + 1) (i + 1 + k)).toList = l.take k := by
          rw [xt_list, List.drop_take, hl']; congr 1; omega
        have hlen : (l.take k).length = k := by rw [List.length_take]; omega
        refine ⟨.inr (.inr (.inl ⟨rfl, rfl, ?_, ?_⟩)), ?_⟩
        · simp only [e, hlen]; omega
        · simp only [e, hlen]; exact e1
        · simp only [formX, e]; simp; omega
  split
  · rename_i h5
    intro _
    have e := hx 1 (by simp)
    simp only [List.take_succ_cons, List.take_zero] at e
    refine ⟨.inr (.inr (.inr ⟨rfl, rfl, .inr (.inr ⟨c, e, h5⟩)⟩)), ?_⟩
    simp only [formX, e]; simp; omega
  · intro h; cases h
def keyX (x : LR) : Int × ByteArray × Int := (x.k, x.t, x.n)
def lenX : List LR → Nat
  | [] => 0
  | x :: L => (formX x).length + 1 + lenX L
theorem scanG_wf (s : ByteArray) : ∀ f i, s.size < i + f → i ≤ s.size → (scanG s f i).1 = 0 → ∃ K, (scanG s f i).2.2 = K ++ [endR s] ∧ (∀ x ∈ K, wfX x) ∧ lenX K + 2 * i ≤ 2 * s.size := by
  intro f
  induction f with
  | zero => intro i h hi; omega
  | succ f ih =>
    intro i h hi
    simp only [scanG]
    split
    · intro _; exact ⟨[], rfl, by simp, by simp [lenX]; omega⟩
    · rename_i h1
      split
      · rename_i h2; intro h; exact absurd h h2
      · rename_i h2
        simp only [ne_eq, Decidable.not_not] at h2
        intro h3
        obtain ⟨n1, n2⟩ := lexR_next s i (by omega) h2
        have n3 := skN_end s _ n2
        obtain ⟨K, k1, k2, k3⟩ := ih ((lexR s i).nx + skN false (s.toList.drop (lexR s i).nx)) (by omega) n3 h3
        obtain ⟨w1, w2⟩ := lexR_wf s i (by omega) h2
        simp only at h3
        rw [if_pos h3, k1]
        refine ⟨lexR s i :: K, rfl, ?_, ?_⟩
        · intro x hx
          rcases List.mem_cons.1 hx with e | e
          · rw [e]; exact w1
          · exact k2 x e
        · simp only [lenX]; omega
end Go.Proofs.YtfphceknmgadgaaDoor
