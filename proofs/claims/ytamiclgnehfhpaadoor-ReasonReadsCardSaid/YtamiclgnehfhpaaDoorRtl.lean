/-
Reasons: a table is read back from its text.
Conditions: none.
-/
import Derived.Test.YtamiclgnehfhpaaDoorFmX
namespace Go.Proofs.YtamiclgnehfhpaaDoor
open Go.Vm
set_option linter.unusedSimpArgs false
set_option linter.unusedVariables false
set_option maxHeartbeats 1000000
set_option maxRecDepth 20000
/-! ### Texts made of lexemes and blanks are scanned -/
def Stop2 (r : List UInt8) : Prop := r = [] ∨ ∃ c l, r = c :: l ∧ wordB c.toNat = false
def okS (x : LR) (r : List UInt8) : Prop := (x.k = 1 ∨ x.k = 2 → Stop2 r) ∧ (x.k = 4 → x.t.toList = [60] → r.head? ≠ some 61)
theorem wlen_stop2 {r : List UInt8} (h : Stop2 r) : ∀ w : List UInt8, wlen w = w.length → wlen (w ++ r) = w.length
  | [], _ => by rcases h with rfl | ⟨c, l, rfl, h⟩ <;> simp [wlen, *]
  | c :: w, hw => by
    simp only [wlen, List.length_cons] at hw
    by_cases hc : wordB c.toNat = true
    · rw [if_pos hc] at hw
      simp only [List.cons_append, wlen, hc, if_true, List.length_cons]
      rw [wlen_stop2 h w (by omega)]
    · rw [if_neg hc] at hw; omega
theorem pre2_one {c : UInt8} {r : List UInt8} (hm : markB c.toNat = true) (h : c = 60 → r.head? ≠ some 61) : pre2 (c :: r) = false := by
  have h33 : c ≠ 33 := fun e => by subst e; exact absurd hm (by decide +kernel)
  cases r with
  | nil => simp [pre2, List.isPrefixOf]
  | cons d r =>
    by_cases h60 : c = 60
    · have := h h60
      simp at this
      subst h60
      have h61 : ¬ (61 : UInt8) = d := fun e => this e.symm
      simp [pre2, List.isPrefixOf, h61]
    · have h1 : ¬ (33 : UInt8) = c := fun e => h33 e.symm
      have h2 : ¬ (60 : UInt8) = c := fun e => h60 e.symm
      simp [pre2, List.isPrefixOf, h1, h2]
theorem lex_form2 {x : LR} (hx : wfX x) {s : ByteArray} {i : Nat} {r : List UInt8} (h : s.toList.drop i = formX x ++ r) (hr : okS x r) : lexR s i = ⟨x.k, x.t, x.n, i, i + (formX x).length, 0⟩ := by
  rcases hx with ⟨k, hn, h16, hw, c, l, h1, h2⟩ | ⟨k, ht, m, hm, hle⟩ | ⟨k, hn, h100, hl⟩ | ⟨k, hn, hm⟩
  · have hf : formX x = x.t.toList := by simp [formX, k]
    rw [hf] at h ⊢
    have e1 := wlen_stop2 (hr.1 (.inl k)) _ hw
    have e2 := xt_at h
    obtain ⟨_, _, _, _, n33, n60⟩ := letter_not c.toNat (u8_lt c) h2
    have e3 : s.extract i (i + x.t.toList.length) = x.t := ba_list e2
    rw [h1] at h e1 h16 e3 ⊢
    unfold lexR
    rw [h]
    simp only [List.cons_append] at e1 ⊢
    rw [if_neg (by rw [pre2_no n33 n60]; simp), if_pos h2, e1, if_neg (by omega), e3, k, hn]
  · have hf : formX x = Lib.decDigits m := by simp [formX, k, hm, Lib.itoa]
    rw [hf] at h ⊢
    have e1 := wlen_stop2 (hr.1 (.inr k)) _ (wlen_dig _ (dec_word m))
    have e2 := xt_at h
    have hnum := num_dec hle
    cases hd : Lib.decDigits m with
    | nil => exact absurd hd (dec_ne m)
    | cons c l =>
      have h1 := dec_word m
      rw [hd] at h h1 e1 e2 hnum
      rw [allDig_cons, Bool.and_eq_true] at h1
      obtain ⟨nl, _, _, _, n33, n60, _⟩ := digit_not c.toNat (u8_lt c) h1.1
      unfold lexR
      rw [h]
      simp only [List.cons_append] at e1 ⊢
      rw [if_neg (by rw [pre2_no n33 n60]; simp), if_neg (by rw [nl]; simp), if_pos h1.1, e1, e2, hnum, if_neg (by simp), k, ht, hm]
  · have hf : formX x = 34 :: (x.t.toList ++ [34]) := by simp [formX, k]
    rw [hf] at h ⊢
    have h' : s.toList.drop (i + 1) = x.t.toList ++ 34 :: r := by rw [← List.drop_drop, h]; simp
    have e2 : s.extract (i + 1) (i + 1 + x.t.toList.length) = x.t := ba_list (xt_at h')
    unfold lexR
    rw [h]
    simp only [List.cons_append]
    rw [if_neg (by rw [pre2_no (by decide) (by decide)]; simp), if_neg (by decide), if_neg (by decide), if_pos (by decide)]
    unfold textR
    rw [h', litR_stop _ hl]
    simp only
    rw [if_neg (by omega), e2, k, hn]
    simp only [List.length_cons, List.length_append, List.length_nil, LR.mk.injEq, and_true, true_and]
    omega
  · have hf : formX x = x.t.toList := by simp [formX, k]
    rw [hf] at h ⊢
    have e3 : s.extract i (i + x.t.toList.length) = x.t := ba_list (xt_at h)
    rcases hm with hm | hm | ⟨c, hm, hc⟩
    · rw [hm] at h e3 ⊢
      unfold lexR
      rw [h]
      simp only [List.cons_append, List.nil_append]
      rw [if_pos (by simp [pre2, List.isPrefixOf]), k, hn]
      simp only [List.length_cons, List.length_nil] at e3 ⊢
      rw [e3]
    · rw [hm] at h e3 ⊢
      unfold lexR
      rw [h]
      simp only [List.cons_append, List.nil_append]
      rw [if_pos (by simp [pre2, List.isPrefixOf]), k, hn]
      simp only [List.length_cons, List.length_nil] at e3 ⊢
      rw [e3]
    · have hs := hr.2 k
      rw [hm] at h e3 hs ⊢
      obtain ⟨nl, nd, nq, _⟩ := mark_not c.toNat (u8_lt c) hc
      have hp : pre2 (c :: r) = false := pre2_one hc fun e => hs (by rw [e])
      unfold lexR
      rw [h]
      simp only [List.cons_append, List.nil_append]
      rw [if_neg (by rw [hp]; simp), if_neg (by rw [nl]; simp), if_neg (by rw [nd]; simp), if_neg nq, if_pos hc, k, hn]
      simp only [List.length_cons, List.length_nil] at e3 ⊢
      rw [e3]
/-- Lexemes, each with the blanks behind it. -/
def textQ (L : List (LR × List UInt8)) : List UInt8 := L.flatMap fun p => formX p.1 ++ p.2
def okQ : List (LR × List UInt8) → Prop
  | [] => True
  | p :: L => wfX p.1 ∧ (∀ c ∈ p.2, blankB c.toNat = true) ∧ okS p.1 (p.2 ++ textQ L) ∧ okQ L
theorem skN_blanks : ∀ (b r : List UInt8), (∀ c ∈ b, blankB c.toNat = true) → skN false (b ++ r) = b.length + skN false r
  | [], r, _ => by simp
  | c :: b, r, h => by
    have h1 := h c (by simp)
    have h35 : c.toNat ≠ 35 := fun e => by rw [e] at h1; exact absurd h1 (by decide)
    have := skN_blanks b r fun d hd => h d (by simp [hd])
    simp only [List.cons_append, skN, h1, h35, Bool.or_true, Bool.true_or, decide_false, Bool.or_false, Bool.false_and, if_true, Bool.false_or, List.length_cons]
    rw [this]; omega
theorem skN_text : ∀ {L : List (LR × List UInt8)}, okQ L → skN false (textQ L) = 0
  | [], _ => rfl
  | p :: L, h => by simp only [textQ, List.flatMap_cons, List.append_assoc]; exact sk_form h.1 _
theorem scan_text (s : ByteArray) : ∀ (L : List (LR × List UInt8)) (f i : Nat), s.size < i + f → i ≤ s.size → okQ L → s.toList.drop i = textQ L → ∃ K, scanG s f i = (0, 0, K ++ [endR s]) ∧ K.map keyX = L.map fun p => keyX p.1
  | L, 0, i, h, hi, _, _ => by omega
  | [], f + 1, i, h, hi, _, hd => by
    have : ¬ i < s.size := fun hlt => by
      obtain ⟨c, l, hl⟩ := drop_byte hlt
      rw [hl] at hd
      simp [textQ] at hd
    exact ⟨[], by simp only [scanG]; rw [if_pos (by omega)]; rfl, rfl⟩
  | (x, b) :: L, f + 1, i, h, hi, hw, hd => by
    obtain ⟨wx, wb, ws, wL⟩ := hw
    have hr : s.toList.drop i = formX x ++ (b ++ textQ L) := by rw [hd]; simp [textQ]
    have hlex := lex_form2 wx hr ws
    have hpos : 0 < (formX x).length := by obtain ⟨c, l, e, _⟩ := form_head wx; rw [e]; simp
    have hlen := congrArg List.length hr
    rw [List.length_drop, size_list, List.length_append, List.length_append] at hlen
    have hd2 : s.toList.drop (i + (formX x).length) = b ++ textQ L := by rw [← List.drop_drop, hr]; simp
    have wb' : ∀ c ∈ b, blankB c.toNat = true := wb
    have sk : skN false (b ++ textQ L) = b.length := by rw [skN_blanks b _ wb', skN_text wL, Nat.add_zero]
    have hd3 : s.toList.drop (i + (formX x).length + b.length) = textQ L := by rw [← List.drop_drop, hd2]; simp
    simp only [scanG]
    rw [if_neg (by omega), hlex]
    simp only [ne_eq, not_true_eq_false, if_false, hd2, sk]
    obtain ⟨K, k1, k2⟩ := scan_text s L f (i + (formX x).length + b.length) (by omega) (by omega) wL hd3
    simp only [k1, if_true]
    exact ⟨⟨x.k, x.t, x.n, i, i + (formX x).length, 0⟩ :: K, rfl, by simp only [List.map_cons, k2]; rfl⟩
theorem scan_textF (L : List (LR × List UInt8)) (h : okQ L) (hl : (textQ L).length ≤ 4000) : ∃ K, scanF (bs (textQ L)) = (0, 0, K ++ [endR (bs (textQ L))]) ∧ K.map keyX = L.map fun p => keyX p.1 := by
  have hs := bs_size (textQ L)
  unfold scanF
  rw [if_neg (by omega), bs_list, skN_text h]
  exact scan_text (bs (textQ L)) L _ 0 (by omega) (by omega) h (by rw [bs_list, List.drop_zero])
/-! ### The lexemes of a table -/
def nmX (t : Txt) : LR := ⟨1, bs t, 0, 0, 0, 0⟩
def nuX (n : Int) : LR := ⟨2, ⟨#[]⟩, n, 0, 0, 0⟩
def mkX (t : Txt) : LR := ⟨4, bs t, 0, 0, 0, 0⟩
def jnX : List LR → List (LR × List UInt8)
  | [] => []
  | [x] => [(x, [])]
  | x :: y :: L => (x, [32]) :: jnX (y :: L)
theorem jn_text : ∀ (L : List LR), textQ (jnX L) = Lib.join (L.map formX) [32]
  | [] => by simp [jnX, textQ, Lib.join, List.intercalate]
  | [x] => by simp [jnX, textQ, Lib.join, List.intercalate]
  | x :: y :: L => by
    have := jn_text (y :: L)
    simp only [jnX, textQ, List.flatMap_cons, List.map_cons] at this ⊢
    rw [join_cons, this]
    simp
theorem jn_fst : ∀ (L : List LR), (jnX L).map Prod.fst = L
  | [] => rfl
  | [x] => rfl
  | x :: y :: L => by simp only [jnX, List.map_cons, jn_fst (y :: L)]
theorem text_app (L M : List (LR × List UInt8)) : textQ (L ++ M) = textQ L ++ textQ M := by simp [textQ]
/-- Names and numbers joined by spaces, with something behind that is not of a word. -/
theorem jn_ok (M : List (LR × List UInt8)) (hM : okQ M) (hs : Stop2 (textQ M)) : ∀ (L : List LR), (∀ x ∈ L, wfX x ∧ (x.k = 1 ∨ x.k = 2)) → okQ (jnX L ++ M)
  | [], _ => hM
  | [x], h => by
    obtain ⟨w, k⟩ := h x (by simp)
    exact ⟨w, (fun c hc => by cases hc), ⟨fun _ => by simpa using hs, fun k4 => by have k4 : x.k = 4 := k4; omega⟩, hM⟩
  | x :: y :: L, h => by
    obtain ⟨w, k⟩ := h x (by simp)
    refine ⟨w, (fun c hc => by simp at hc; subst hc; decide), ⟨fun _ => .inr ⟨32, _, rfl, by decide⟩, fun k4 => by have k4 : x.k = 4 := k4; omega⟩, jn_ok M hM hs (y :: L) fun z hz => h z (by simp only [List.mem_cons] at hz ⊢; exact .inr hz)⟩
def wordsX (r : Rn) : List LR := [nmX reasonT, nmX r.code, nuX r.d1, nuX r.d2, nuX r.d3, nuX r.d4] ++ [nmX claimT] ++ r.cl.map nmX ++ [nmX defenceT] ++ r.df.map nmX
def lexsX (r : Rn) : List LR := wordsX r ++ [mkX [59]]
def pieceX (r : Rn) : List (LR × List UInt8) := jnX (wordsX r) ++ [(mkX [59], [10])]
theorem nm_form (t : Txt) : formX (nmX t) = t := by simp [formX, nmX, bs_list]
theorem piece_text (r : Rn) : textQ (pieceX r) = fmtL r := by
  unfold pieceX
  rw [text_app, jn_text]
  have : (wordsX r).map formX = fmtW r := by
    simp only [wordsX, fmtW, List.map_append, List.map_cons, List.map_nil, nm_form, List.map_map]
    have e : formX ∘ nmX = id := by funext t; exact nm_form t
    rw [e]
    simp [formX, nuX]
  rw [this]
  simp [fmtL, textQ, formX, mkX, bs_list]
theorem piece_fst (r : Rn) : (pieceX r).map (fun p => keyX p.1) = (lexsX r).map keyX := by
  unfold pieceX lexsX
  have := congrArg (List.map keyX) (jn_fst (wordsX r))
  rw [List.map_map] at this
  simp only [List.map_append, List.map_cons, List.map_nil]
  rw [← this]
  rfl
theorem wf_nm {t : Txt} (h : nameF (bs t) = true) : wfX (nmX t) ∧ ((nmX t).k = 1 ∨ (nmX t).k = 2) := by
  refine ⟨.inl ⟨rfl, rfl, ?_, ?_, ?_⟩, .inl rfl⟩
  · rw [show (nmX t).t = bs t from rfl, bs_list]; exact (name_len h).2
  · rw [show (nmX t).t = bs t from rfl, bs_list]
    simp only [nameF, Bool.and_eq_true, decide_eq_true_eq, bs_list, bs_size] at h
    exact h.2.2.2
  · rw [show (nmX t).t = bs t from rfl, bs_list]
    simp only [nameF, Bool.and_eq_true, decide_eq_true_eq, bs_list, bs_size] at h
    cases t with
    | nil => simp at h
    | cons c l => exact ⟨c, l, rfl, h.2.2.1⟩
theorem wf_nu {n : Int} (h : okD n = true) : wfX (nuX n) ∧ ((nuX n).k = 1 ∨ (nuX n).k = 2) := by
  simp only [okD, Bool.and_eq_true, decide_eq_true_eq] at h
  exact ⟨.inr (.inl ⟨rfl, rfl, n.toNat, by show n = _; omega, by omega⟩), .inr rfl⟩
theorem kind_name {t : Txt} (h : kindF t = true) : nameF (bs t) = true := by simp only [kindF, Bool.and_eq_true] at h; exact h.1
def OkR (r : Rn) : Prop := nameF (bs r.code) = true ∧ okDs r = true ∧ kindsE r.cl = 0 ∧ kindsE r.df = 0
theorem words_wf {r : Rn} (h : OkR r) : ∀ x ∈ wordsX r, wfX x ∧ (x.k = 1 ∨ x.k = 2) := by
  obtain ⟨h1, h2, h3, h4⟩ := h
  simp only [okDs, Bool.and_eq_true] at h2
  intro x hx
  simp only [wordsX, List.mem_append, List.mem_cons, List.not_mem_nil, or_false, List.mem_map] at hx
  rcases hx with (((hx | hx) | hx) | hx) | hx
  · rcases hx with hx | hx | hx | hx | hx | hx <;> rw [hx]
    · exact wf_nm (by decide +kernel)
    · exact wf_nm h1
    · exact wf_nu h2.1
    · exact wf_nu h2.2.1
    · exact wf_nu h2.2.2.1
    · exact wf_nu h2.2.2.2
  · rw [hx]; exact wf_nm (by decide +kernel)
  · obtain ⟨t, ht, rfl⟩ := hx; exact wf_nm (kind_name ((kindsE_out h3).2 t ht).1)
  · rw [hx]; exact wf_nm (by decide +kernel)
  · obtain ⟨t, ht, rfl⟩ := hx; exact wf_nm (kind_name ((kindsE_out h4).2 t ht).1)
theorem wf_semi : wfX (mkX [59]) := .inr (.inr (.inr ⟨rfl, rfl, .inr (.inr ⟨59, bs_list [59], by decide +kernel⟩)⟩))
theorem pieces_ok : ∀ (F : List Rn), (∀ r ∈ F, OkR r) → okQ (F.flatMap pieceX)
  | [], _ => trivial
  | r :: F, h => by
    have ih := pieces_ok F fun x hx => h x (by simp [hx])
    have hM : okQ ((mkX [59], [10]) :: F.flatMap pieceX) := ⟨wf_semi, (fun c hc => by simp at hc; subst hc; decide), ⟨(fun k => by rcases k with k | k <;> cases k), (fun _ e => by rw [show ((mkX [59], [10]) : LR × List UInt8).1.t = bs [59] from rfl, bs_list] at e; cases e)⟩, ih⟩
    have := jn_ok _ hM (.inr ⟨59, 10 :: textQ (F.flatMap pieceX), by simp [textQ, formX, mkX, bs_list], by decide⟩) (wordsX r) (words_wf (h r (by simp)))
    simpa [pieceX] using this
theorem pieces_text (F : List Rn) : textQ (F.flatMap pieceX) = fmtF F := by
  induction F with
  | nil => rfl
  | cons r F ih => simp only [List.flatMap_cons, text_app, ih, piece_text, fmtF]
theorem scan_fmt {F : List Rn} (h : ∀ r ∈ F, OkR r) (hl : (fmtF F).length ≤ 4000) : ∃ K, scanF (bs (fmtF F)) = (0, 0, K ++ [endR (bs (fmtF F))]) ∧ K.map keyX = (F.flatMap lexsX).map keyX := by
  obtain ⟨K, k1, k2⟩ := scan_textF (F.flatMap pieceX) (pieces_ok F h) (by rw [pieces_text]; exact hl)
  rw [pieces_text] at k1
  refine ⟨K, k1, ?_⟩
  rw [k2]
  clear k1 k2 hl h
  induction F with
  | nil => rfl
  | cons r F ih => simp only [List.flatMap_cons, List.map_append, ih, piece_fst]
end Go.Proofs.YtamiclgnehfhpaaDoor
