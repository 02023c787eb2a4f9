/-
Spaces around a text; tokens; what is written is parsed back; what is parsed is writable.
Conditions: none.
-/
import Derived.Test.YtgglccpckhpocaaDoorQg
import Derived.Test.YtgglccpckhpocaaDoorQj
set_option linter.unusedSimpArgs false
set_option linter.unusedVariables false
namespace Go.Proofs.YtgglccpckhpocaaDoor
open Go.Vm
set_option maxHeartbeats 4000000
set_option maxRecDepth 20000
def KeyL (L M : List LR) : Prop := ∀ i, keyX (lxA L i) = keyX (lxA M i)
theorem key_lx {x y : LR} (h : keyX x = keyX y) : x.k = y.k ∧ x.t = y.t ∧ x.n = y.n := by simpa [keyX] using h
theorem KeyL.of {L M : List LR} (h : L.map keyX = M.map keyX) : KeyL L M := by
  intro i
  have hi : (L.map keyX)[i]? = (M.map keyX)[i]? := by rw [h]
  rw [List.getElem?_map, List.getElem?_map] at hi
  unfold lxA
  rw [List.getD_eq_getElem?_getD, List.getD_eq_getElem?_getD]
  cases h1 : L[i]? <;> cases h2 : M[i]? <;> simp_all
theorem KeyL.symm {L M : List LR} (h : KeyL L M) : KeyL M L := fun i => (h i).symm
section
variable {L M : List LR} (H : KeyL L M)
include H
theorem KeyL.k (i : Nat) : (lxA L i).k = (lxA M i).k := (key_lx (H i)).1
theorem KeyL.t (i : Nat) : (lxA L i).t = (lxA M i).t := (key_lx (H i)).2.1
theorem KeyL.n (i : Nat) : (lxA L i).n = (lxA M i).n := (key_lx (H i)).2.2
theorem KeyL.is (i : Nat) (k : Int) (t : ByteArray) : isL (lxA L i) k t = isL (lxA M i) k t := by unfold isL; rw [H.k, H.t]
theorem KeyL.nm (i : Nat) : nmB (lxA L i) = nmB (lxA M i) := by unfold nmB; rw [H.k, H.t]
theorem KeyL.nu (i : Nat) (m : Int) : nuB (lxA L i) m = nuB (lxA M i) m := by unfold nuB; rw [H.k, H.n]
theorem KeyL.op (l i : Nat) : opX l (lxA L i) = opX l (lxA M i) := by unfold opX; simp only [H.is]
theorem KeyL.cm (i : Nat) : cmX (lxA L i) = cmX (lxA M i) := by unfold cmX; simp only [H.is]
theorem KeyL.in_ (i : Nat) : inB (lxA L i) = inB (lxA M i) := by unfold inB; simp only [H.is]
theorem KeyL.un (i : Nat) : unC (lxA L i) = unC (lxA M i) := by unfold unC; simp only [H.is, H.k, H.nm]
theorem KeyL.us (i : Nat) : usX L i = usX M i := by unfold usX; simp only [H.is, H.nu, H.nm, H.t, H.n]
theorem KeyL.ac (i : Nat) : acX (lxA L i) = acX (lxA M i) := by unfold acX; simp only [H.is]
theorem KeyL.rh (us : List Ru) (i : Nat) : ruH L us i = ruH M us i := by unfold ruH; simp only [H.is, H.nm, H.t]
theorem KeyL.rt (i : Nat) : ruT L i = ruT M i := by unfold ruT; simp only [H.is, H.nu, H.ac, H.n]
theorem Pr.key {q : Qr} {i : Nat} {r : Rz} (h : Pr L q i r) : Pr M q i r := by
  induction h with
  | opE a b _ ih => exact .opE a b ih
  | opO a b _ _ ih1 ih2 => exact .opO a b ih1 ih2
  | lpN a => rw [H.op] at a; exact .lpN a
  | lpE a _ ih => rw [H.op] at a; exact .lpE a ih
  | lpO a _ _ ih1 ih2 => rw [H.op] at a; exact .lpO a ih1 ih2
  | cmE _ ih => exact .cmE ih
  | cmN _ a b ih => rw [H.cm] at a; rw [H.in_] at b; exact .cmN ih a b
  | cmF _ a _ ih1 ih2 => rw [H.cm] at a; exact .cmF ih1 a ih2
  | cmO _ a _ ih1 ih2 => rw [H.cm] at a; exact .cmO ih1 a ih2
  | inP _ a b c ih => rw [H.cm] at a; rw [H.in_] at b; rw [H.is] at c; exact .inP ih a b c
  | inC _ a b c _ ih1 ih2 => rw [H.cm] at a; rw [H.in_] at b; rw [H.is] at c; exact .inC ih1 a b c ih2
  | chE _ ih => exact .chE ih
  | chM _ a _ ih1 ih2 => rw [H.is] at a; exact .chM ih1 a ih2
  | chO _ a b ih => rw [H.is] at a b; exact .chO ih a b
  | chB _ a b ih => rw [H.is] at a b; exact .chB ih a b
  | unO a _ ih => rw [H.un] at a; exact .unO a ih
  | unE a _ ih => rw [H.un] at a; exact .unE a ih
  | usO a b => rw [H.un] at a; rw [H.us] at b; exact .usO a b
  | usE a b c => rw [H.un] at a; rw [H.us] at b; exact .usE a b c
  | paE a _ ih => rw [H.un] at a; exact .paE a ih
  | paO a _ b ih => rw [H.un] at a; rw [H.is] at b; exact .paO a ih b
  | paB a _ b ih => rw [H.un] at a; rw [H.is] at b; exact .paB a ih b
  | nu a => rw [H.un] at a; rw [H.n]; exact .nu a
  | te a => rw [H.un] at a; rw [H.t]; exact .te a
  | na a => rw [H.un] at a; rw [H.t]; exact .na a
  | ba a => rw [H.un] at a; exact .ba a
theorem PuE.key {us : List Ru} {i j : Nat} {e : Int} (h : PuE L us i e j) : PuE M us i e j := by
  cases h with
  | h a => rw [H.rh] at a; exact .h a
  | x a b => rw [H.rh] at a; exact .x a (b.key H)
  | t a b c d => rw [H.rh] at a; rw [H.rt] at c; exact .t a (b.key H) c d
theorem PuO.key {us : List Ru} {i j : Nat} {u : Ru} (h : PuO L us i u j) : PuO M us i u j := by
  cases h with
  | ok a b c => rw [H.rh] at a; rw [H.rt] at c; rw [H.t]; exact .ok a (b.key H) c
theorem RlO.key {us vs : List Ru} {i j : Nat} (h : RlO L us i vs j) : RlO M us i vs j := by
  induction h with
  | fin a => rw [H.k] at a; exact .fin a
  | step a b _ ih => rw [H.k] at a; exact .step a (b.key H) ih
theorem RlE.key {us : List Ru} {i j : Nat} {e : Int} (h : RlE L us i e j) : RlE M us i e j := by
  induction h with
  | err a b => rw [H.k] at a; exact .err a (b.key H)
  | step a b _ ih => rw [H.k] at a; exact .step a (b.key H) ih
end
end Go.Proofs.YtgglccpckhpocaaDoor
namespace Go.Proofs.YtgglccpckhpocaaDoor
open Go.Vm
set_option maxHeartbeats 1000000
set_option maxRecDepth 20000
theorem scanG_end {s : ByteArray} {i : Nat} (n : Nat) (h : s.size ≤ i) : scanG s (n + 1) i = (0, 0, [endR s]) := by rw [scanG, if_pos h]
theorem scanG_ok {s : ByteArray} {i : Nat} (n : Nat) (h : ¬ s.size ≤ i) (he : (lexR s i).e = 0) {j : Nat} (hj : (lexR s i).nx + skN false (s.toList.drop (lexR s i).nx) = j) : scanG s (n + 1) i = ((scanG s n j).1, (scanG s n j).2.1, if (scanG s n j).1 = 0 then lexR s i :: (scanG s n j).2.2 else []) := by
  subst hj
  rw [scanG, if_neg h, if_neg (by rw [he]; simp)]
end Go.Proofs.YtgglccpckhpocaaDoor
namespace Go.Proofs.YtgglccpckhpocaaDoor
open Go.Vm
set_option maxHeartbeats 2000000
set_option maxRecDepth 20000
def Stop2 (r : List UInt8) : Prop := r = [] ∨ ∃ c l, r = c :: l ∧ wordB c.toNat = false
def okS (x : LR) (r : List UInt8) : Prop := (x.k = 1 ∨ x.k = 2 → Stop2 r) ∧ (x.k = 4 → x.t.toList = [60] → r.head? ≠ some 61)
theorem wlen_stop2 {r : List UInt8} (h : Stop2 r) : ∀ w : List UInt8, wlen w = w.length → wlen (w ++ r) = w.length
  | [], _ => by rcases h with rfl | ⟨c, l, rfl, h⟩ <;> simp [wlen, *]
  | c :: w, hw => by
    simp only [wlen, List.length_cons] at hw
    by_cases hc : wordB c.toNat = true
    · rw [if_pos hc] at hw
      simp only [List.cons_append, wlen, hc, if_true, List.length_cons]
      rw [wlen_stop2 h w (by omega)]
    · rw [if_neg hc] at hw; omega
theorem pre2_one {c : UInt8} {r : List UInt8} (hm : markB c.toNat = true) (h : c = 60 → r.head? ≠ some 61) : pre2 (c :: r) = false := by
  have h33 : c ≠ 33 := fun e => by subst e; exact absurd hm (by decide +kernel)
  cases r with
  | nil => simp [pre2, List.isPrefixOf]
  | cons d r =>
    by_cases h60 : c = 60
    · have := h h60
      simp at this
      subst h60
      have h61 : ¬ (61 : UInt8) = d := fun e => this e.symm
      simp [pre2, List.isPrefixOf, h61]
    · have h1 : ¬ (33 : UInt8) = c := fun e => h33 e.symm
      have h2 : ¬ (60 : UInt8) = c := fun e => h60 e.symm
      simp [pre2, List.isPrefixOf, h1, h2]
theorem lex_form2 {x : LR} (hx : wfX x) {s : ByteArray} {i : Nat} {r : List UInt8} (h : s.toList.drop i = formX x ++ r) (hr : okS x r) : lexR s i = ⟨x.k, x.t, x.n, i, i + (formX x).length, 0⟩ := by
  rcases hx with ⟨k, hn, h16, hw, c, l, h1, h2⟩ | ⟨k, ht, m, hm, hle⟩ | ⟨k, hn, h100, hl⟩ | ⟨k, hn, hm⟩
  · have hf : formX x = x.t.toList := by simp [formX, k]
    rw [hf] at h ⊢
    have e1 := wlen_stop2 (hr.1 (.inl k)) _ hw
    have e2 := xt_at h
    obtain ⟨_, _, _, _, n33, n60⟩ := letter_not c.toNat (u8_lt c) h2
    have e3 : s.extract i (i + x.t.toList.length) = x.t := ba_list e2
    rw [h1] at h e1 h16 e3 ⊢
    unfold lexR
    rw [h]
    simp only [List.cons_append] at e1 ⊢
    rw [if_neg (by rw [pre2_no n33 n60]; simp), if_pos h2, e1, if_neg (by omega), e3, k, hn]
  · have hf : formX x = Lib.decDigits m := by simp [formX, k, hm, Lib.itoa]
    rw [hf] at h ⊢
    have e1 := wlen_stop2 (hr.1 (.inr k)) _ (wlen_dig _ (dec_word m))
    have e2 := xt_at h
    have hnum := num_dec hle
    cases hd : Lib.decDigits m with
    | nil => exact absurd hd (dec_ne m)
    | cons c l =>
      have h1 := dec_word m
      rw [hd] at h h1 e1 e2 hnum
      rw [allDig_cons, Bool.and_eq_true] at h1
      obtain ⟨nl, _, _, _, n33, n60, _⟩ := digit_not c.toNat (u8_lt c) h1.1
      unfold lexR
      rw [h]
      simp only [List.cons_append] at e1 ⊢
      rw [if_neg (by rw [pre2_no n33 n60]; simp), if_neg (by rw [nl]; simp), if_pos h1.1, e1, e2, hnum, if_neg (by simp), k, ht, hm]
  · have hf : formX x = 34 :: (x.t.toList ++ [34]) := by simp [formX, k]
    rw [hf] at h ⊢
    have h' : s.toList.drop (i + 1) = x.t.toList ++ 34 :: r := by rw [← List.drop_drop, h]; simp
    have e2 : s.extract (i + 1) (i + 1 + x.t.toList.length) = x.t := ba_list (xt_at h')
    unfold lexR
    rw [h]
    simp only [List.cons_append]
    rw [if_neg (by rw [pre2_no (by decide) (by decide)]; simp), if_neg (by decide), if_neg (by decide), if_pos (by decide)]
    unfold textR
    rw [h', litR_stop _ hl]
    simp only
    rw [if_neg (by omega), e2, k, hn]
    simp only [List.length_cons, List.length_append, List.length_nil, LR.mk.injEq, and_true, true_and]
    omega
  · have hf : formX x = x.t.toList := by simp [formX, k]
    rw [hf] at h ⊢
    have e3 : s.extract i (i + x.t.toList.length) = x.t := ba_list (xt_at h)
    rcases hm with hm | hm | ⟨c, hm, hc⟩
    · rw [hm] at h e3 ⊢
      unfold lexR
      rw [h]
      simp only [List.cons_append, List.nil_append]
      rw [if_pos (by simp [pre2, List.isPrefixOf]), k, hn]
      simp only [List.length_cons, List.length_nil] at e3 ⊢
      rw [e3]
    · rw [hm] at h e3 ⊢
      unfold lexR
      rw [h]
      simp only [List.cons_append, List.nil_append]
      rw [if_pos (by simp [pre2, List.isPrefixOf]), k, hn]
      simp only [List.length_cons, List.length_nil] at e3 ⊢
      rw [e3]
    · have hs := hr.2 k
      rw [hm] at h e3 hs ⊢
      obtain ⟨nl, nd, nq, _⟩ := mark_not c.toNat (u8_lt c) hc
      have hp : pre2 (c :: r) = false := pre2_one hc fun e => hs (by rw [e])
      unfold lexR
      rw [h]
      simp only [List.cons_append, List.nil_append]
      rw [if_neg (by rw [hp]; simp), if_neg (by rw [nl]; simp), if_neg (by rw [nd]; simp), if_neg nq, if_pos hc, k, hn]
      simp only [List.length_cons, List.length_nil] at e3 ⊢
      rw [e3]
inductive Tk where
  | x (r : LR)
  | b (c : UInt8)
def tkT : List Tk → List UInt8
  | [] => []
  | .x r :: l => formX r ++ tkT l
  | .b c :: l => c :: tkT l
def lexK : List Tk → List LR
  | [] => []
  | .x r :: l => r :: lexK l
  | .b _ :: l => lexK l
def okT : List Tk → List UInt8 → Prop
  | [], _ => True
  | .x r :: l, w => wfX r ∧ okS r (tkT l ++ w) ∧ okT l w
  | .b c :: l, w => blankB c.toNat = true ∧ okT l w
theorem tkT_app : ∀ A B : List Tk, tkT (A ++ B) = tkT A ++ tkT B
  | [], B => rfl
  | .x r :: A, B => by simp [tkT, tkT_app A B]
  | .b c :: A, B => by simp [tkT, tkT_app A B]
theorem lexK_app : ∀ A B : List Tk, lexK (A ++ B) = lexK A ++ lexK B
  | [], B => rfl
  | .x r :: A, B => by simp [lexK, lexK_app A B]
  | .b c :: A, B => by simp [lexK, lexK_app A B]
theorem okT_app (w : List UInt8) : ∀ A B : List Tk, okT (A ++ B) w ↔ okT A (tkT B ++ w) ∧ okT B w
  | [], B => by simp [okT]
  | .x r :: A, B => by simp [okT, okT_app w A B, tkT_app, and_assoc]
  | .b c :: A, B => by simp [okT, okT_app w A B, and_assoc]
theorem tk_scan (s : ByteArray) : ∀ (L : List Tk) (f i : Nat), s.size < i + skN false (s.toList.drop i) + f → i ≤ s.size → okT L [] → s.toList.drop i = tkT L → ∃ K, scanG s f (i + skN false (s.toList.drop i)) = (0, 0, K ++ [endR s]) ∧ K.map keyX = (lexK L).map keyX
  | [], f, i, h, hi, _, hd => by
    have hn : i = s.size := by
      have := congrArg List.length hd
      rw [List.length_drop, size_list] at this
      simp [tkT] at this; omega
    rw [hd] at h ⊢
    simp only [tkT, skN, Nat.add_zero] at h ⊢
    cases f with
    | zero => omega
    | succ f => exact ⟨[], by rw [scanG_end f (by omega)]; rfl, rfl⟩
  | .b c :: L, f, i, h, hi, ⟨hc, hw⟩, hd => by
    obtain ⟨hp, _, hl', hsl, hb⟩ := byte_at hd
    have h35 : c.toNat ≠ 35 := fun e => by rw [e] at hc; exact absurd hc (by decide)
    have hk : skN false (s.toList.drop i) = 1 + skN false (s.toList.drop (i + 1)) := by
      rw [hd, hl']
      simp only [tkT, skN, hc, h35, Bool.or_true, Bool.true_or, decide_false, Bool.or_false, Bool.false_and, if_true, Bool.false_or]
      omega
    rw [hk] at h ⊢
    rw [show i + (1 + skN false (s.toList.drop (i + 1))) = i + 1 + skN false (s.toList.drop (i + 1)) by omega]
    exact tk_scan s L f (i + 1) (by omega) (by omega) hw hl'
  | .x r :: L, f, i, h, hi, ⟨wx, ws, wL⟩, hd => by
    rw [List.append_nil] at ws
    have hr : s.toList.drop i = formX r ++ tkT L := hd
    have hk : skN false (s.toList.drop i) = 0 := by rw [hr]; exact sk_form wx _
    have hlex := lex_form2 wx hr ws
    have hpos : 0 < (formX r).length := by obtain ⟨c, l, e, _⟩ := form_head wx; rw [e]; simp
    have hlen := congrArg List.length hr
    rw [List.length_drop, size_list, List.length_append] at hlen
    have hd2 : s.toList.drop (i + (formX r).length) = tkT L := by rw [← List.drop_drop, hr]; simp
    rw [hk] at h ⊢
    rw [Nat.add_zero] at h ⊢
    cases f with
    | zero => omega
    | succ f =>
      have hk2 := skN_le false (s.toList.drop (i + (formX r).length))
      obtain ⟨K, k1, k2⟩ := tk_scan s L f (i + (formX r).length) (by omega) (by omega) wL hd2
      rw [scanG_ok f (by omega) (by rw [hlex]) (j := i + (formX r).length + skN false (s.toList.drop (i + (formX r).length))) (by rw [hlex]), k1, hlex]
      exact ⟨⟨r.k, r.t, r.n, i, i + (formX r).length, 0⟩ :: K, rfl, by simp only [List.map_cons, k2, lexK]; rfl⟩
theorem tk_scanF (L : List Tk) (h : okT L []) (hl : (tkT L).length ≤ 4000) : ∃ K, scanF (bs (tkT L)) = (0, 0, K ++ [endR (bs (tkT L))]) ∧ K.map keyX = (lexK L).map keyX := by
  have hs := bs_size (tkT L)
  unfold scanF
  rw [if_neg (by omega)]
  have := tk_scan (bs (tkT L)) L ((bs (tkT L)).size + 1) 0 (by omega) (by omega) h (by rw [bs_list, List.drop_zero])
  rw [List.drop_zero, Nat.zero_add] at this
  exact this
def nmY (t : ByteArray) : LR := ⟨1, t, 0, 0, 0, 0⟩
def nuY (n : Int) : LR := ⟨2, ⟨#[]⟩, n, 0, 0, 0⟩
def txY (t : ByteArray) : LR := ⟨3, t, 0, 0, 0, 0⟩
def mkY (t : ByteArray) : LR := ⟨4, t, 0, 0, 0, 0⟩
theorem nm_form (t : ByteArray) : formX (nmY t) = t.toList := by simp [formX, nmY]
theorem mk_form (t : ByteArray) : formX (mkY t) = t.toList := by simp [formX, mkY]
theorem nu_form (n : Int) : formX (nuY n) = Lib.itoa n := by simp [formX, nuY]
theorem tx_form (t : ByteArray) : formX (txY t) = 34 :: (t.toList ++ [34]) := by simp [formX, txY]
theorem wf_nm {t : ByteArray} (h : nameF t = true) : wfX (nmY t) := by
  unfold nameF at h
  simp only [Bool.and_eq_true, decide_eq_true_eq] at h
  obtain ⟨h1, h2, h3, h4⟩ := h
  refine .inl ⟨rfl, rfl, by show t.toList.length ≤ 16; rw [size_list]; exact h2, by show wlen t.toList = t.toList.length; rw [size_list]; exact h4, ?_⟩
  show ∃ c l, t.toList = c :: l ∧ _
  cases hl : t.toList with
  | nil => rw [hl] at h3; cases h3
  | cons c l => rw [hl] at h3; exact ⟨c, l, rfl, h3⟩
theorem wf_nu {n : Int} (h0 : 0 ≤ n) (h : n ≤ 9007199254740992) : wfX (nuY n) := .inr (.inl ⟨rfl, rfl, n.toNat, by show n = _; omega, by omega⟩)
theorem litR_good : ∀ {l : List UInt8}, l.all chB = true → litR (l ++ [34]) = some l.length
  | [], _ => rfl
  | c :: l, h => by
    rw [List.all_cons, Bool.and_eq_true] at h
    have := litR_good h.2
    have hc := h.1
    unfold chB at hc
    simp only [Bool.and_eq_true, decide_eq_true_eq] at hc
    have hb : badC c = false := by unfold badC; simp; omega
    simp only [List.cons_append, litR, hb, this, hc.2, if_false, Bool.false_eq_true, List.length_cons]
theorem wf_tx {t : ByteArray} (h : litB t = true) : wfX (txY t) := by
  unfold litB at h
  simp only [Bool.and_eq_true, decide_eq_true_eq] at h
  exact .inr (.inr (.inl ⟨rfl, rfl, by show t.toList.length ≤ 100; rw [size_list]; exact h.1, litR_good h.2⟩))
theorem wf_mk {c : UInt8} (h : markB c.toNat = true) : wfX (mkY ⟨#[c]⟩) := .inr (.inr (.inr ⟨rfl, rfl, .inr (.inr ⟨c, by rw [show (mkY ⟨#[c]⟩).t = ⟨#[c]⟩ from rfl, ByteArray.toList_eq], h⟩)⟩))
theorem ok_mk {t : ByteArray} (h : t.toList ≠ [60]) (r : List UInt8) : okS (mkY t) r := by
  unfold okS mkY
  exact ⟨fun e => by simp at e, fun _ e => absurd e h⟩
theorem ok_tx (t : ByteArray) (r : List UInt8) : okS (txY t) r := by
  unfold okS txY
  exact ⟨fun e => by simp at e, fun e => by simp at e⟩
theorem ok_nm (t : ByteArray) {r : List UInt8} (h : Stop2 r) : okS (nmY t) r := by
  unfold okS nmY
  exact ⟨fun _ => h, fun e => by simp at e⟩
theorem ok_nu (n : Int) {r : List UInt8} (h : Stop2 r) : okS (nuY n) r := by
  unfold okS nuY
  exact ⟨fun _ => h, fun e => by simp at e⟩
theorem stop_c {c : UInt8} (h : wordB c.toNat = false) (l : List UInt8) : Stop2 (c :: l) := .inr ⟨c, l, rfl, h⟩
end Go.Proofs.YtgglccpckhpocaaDoor
namespace Go.Proofs.YtgglccpckhpocaaDoor
open Go.Vm
set_option maxHeartbeats 2000000
set_option maxRecDepth 20000
theorem Xs.ind {P : Xs → Prop} (h : ∀ op nm tx n args, (∀ a ∈ args, P a) → P (.mk op nm tx n args)) (x : Xs) : P x :=
  Xs.rec (motive_1 := P) (motive_2 := fun l => ∀ a ∈ l, P a) (fun op nm tx n args ih => h op nm tx n args ih) (fun a ha => by cases ha) (fun a l ha hl b hb => by
    rcases List.mem_cons.1 hb with e | e
    · rw [e]; exact ha
    · exact hl b e) x
def coB : ByteArray := ⟨#[99, 111, 117, 110, 116]⟩
def suB : ByteArray := ⟨#[115, 117, 109]⟩
def noB : ByteArray := ⟨#[110, 111, 116]⟩
def iB : ByteArray := ⟨#[105, 110]⟩
def syK (op : Int) : LR := if op = 7 ∨ op = 6 then nmY (bs (syO op)) else mkY (bs (syO op))
def opn : Tk := .x (mkY ⟨#[40]⟩)
def cls : Tk := .x (mkY ⟨#[41]⟩)
def com : Tk := .x (mkY ⟨#[44]⟩)
def paK (k : Int) (p : Int × List Tk) : List Tk := if k ≤ lvO p.1 then p.2 else opn :: (p.2 ++ [cls])
def arK (l : List (Int × List Tk)) (i : Nat) (k : Int) : List Tk := paK k (l.getD i (0, []))
def inRk (l : List (Int × List Tk)) : List Tk := l.flatMap fun p => com :: .b 32 :: paK 4 p
def inAk : List (Int × List Tk) → List Tk
  | [] => []
  | p :: l => paK 4 p ++ inRk l
def bareK (op : Int) (nm tx : ByteArray) (n : Int) (l : List (Int × List Tk)) : List Tk :=
  if op = 1 then [.x (nuY n)]
  else if op = 2 then [.x (txY tx)]
  else if op = 3 then [.x (nmY nm)]
  else if op = 16 then [.x (nmY coB), opn, .x (nmY nm), com, .b 32, .x (nuY n), cls]
  else if op = 17 then [.x (nmY suB), opn, .x (nmY nm), com, .b 32, .x (nuY n), cls]
  else if op = 4 then .x (nmY noB) :: .b 32 :: arK l 0 6
  else if op = 5 then .x (mkY ⟨#[45]⟩) :: arK l 0 6
  else if op = 15 then arK l 0 4 ++ (.b 32 :: .x (nmY iB) :: .b 32 :: opn :: (inAk (l.drop 1) ++ [cls]))
  else arK l 0 (leO op) ++ (.b 32 :: .x (syK op) :: .b 32 :: arK l 1 (lvO op + 1))
mutual
def kX : Xs → List Tk
  | .mk op nm tx n args => bareK op nm tx n (kL args)
def kL : List Xs → List (Int × List Tk)
  | [] => []
  | x :: l => (opO x, kX x) :: kL l
end
theorem kL_map : ∀ l : List Xs, kL l = l.map fun x => (opO x, kX x)
  | [] => by simp [kL]
  | x :: l => by simp [kL, kL_map l]
def opK (k : Int) (t : Xs) : List Tk := paK k (opO t, kX t)
theorem ml (a : Array UInt8) : ByteArray.toList ⟨a⟩ = a.toList := by rw [ByteArray.toList_eq]
theorem pa_text (k : Int) (p : Int × List Tk) : tkT (paK k p) = paT k (p.1, tkT p.2) := by
  unfold paK paT
  split
  · rfl
  · simp [tkT, opn, cls, tkT_app, mk_form, ml]
def tP (p : Int × List Tk) : Int × List UInt8 := (p.1, tkT p.2)
theorem ar_text (l : List (Int × List Tk)) (i : Nat) (k : Int) : tkT (arK l i k) = arT (l.map tP) i k := by
  unfold arK arT
  rw [pa_text]
  congr 1
  rw [List.getD_eq_getElem?_getD, List.getD_eq_getElem?_getD, List.getElem?_map]
  cases l[i]? <;> rfl
theorem inR_text : ∀ l : List (Int × List Tk), tkT (inRk l) = inR (l.map tP)
  | [] => rfl
  | p :: l => by
    have := inR_text l
    simp only [inRk, inR, List.flatMap_cons, List.map_cons, List.cons_append, tkT, tkT_app, com, mk_form, ml, pa_text] at this ⊢
    rw [this]
    rfl
theorem inA_text : ∀ l : List (Int × List Tk), tkT (inAk l) = inA (l.map tP)
  | [] => rfl
  | p :: l => by simp only [inAk, inA, List.map_cons, tkT_app, inR_text, pa_text]; rfl
theorem bare_text (op : Int) (nm tx : ByteArray) (n : Int) (l : List (Int × List Tk)) : tkT (bareK op nm tx n l) = bareT op nm tx n (l.map tP) := by
  unfold bareK bareT
  split
  · simp [tkT, nu_form]
  split
  · simp [tkT, tx_form, ByteArray.toList_eq]
  split
  · simp [tkT, nm_form, ByteArray.toList_eq]
  split
  · simp [tkT, nm_form, nu_form, mk_form, opn, cls, com, coB, ByteArray.toList_eq]
  split
  · simp [tkT, nm_form, nu_form, mk_form, opn, cls, com, suB, ByteArray.toList_eq]
  split
  · simp [tkT, nm_form, noB, ByteArray.toList_eq, ar_text]
  split
  · simp [tkT, mk_form, ByteArray.toList_eq, ar_text]
  split
  · simp [tkT, tkT_app, nm_form, mk_form, opn, cls, iB, ByteArray.toList_eq, ar_text, inA_text, List.map_drop]
  · have : formX (syK op) = syO op := by unfold syK; split <;> simp [nm_form, mk_form, bs_list]
    simp [tkT, tkT_app, ar_text, this]
theorem kX_text (x : Xs) : tkT (kX x) = tX x := by
  induction x using Xs.ind with
  | h op nm tx n args ih =>
    rw [kX, tX, bare_text, kL_map, tL_map, List.map_map]
    congr 1
    apply List.map_congr_left
    intro a ha
    simp only [Function.comp, tP, ih a ha]
def OkX (x : Xs) : Prop := ∀ w, Stop2 w → okT (kX x) w
theorem wf_op : wfX (mkY ⟨#[40]⟩) := wf_mk (by decide +kernel)
theorem wf_cl : wfX (mkY ⟨#[41]⟩) := wf_mk (by decide +kernel)
theorem wf_co : wfX (mkY ⟨#[44]⟩) := wf_mk (by decide +kernel)
theorem ok_pa {k : Int} {x : Xs} (h : OkX x) {w : List UInt8} (hw : Stop2 w) : okT (opK k x) w := by
  unfold opK paK
  split
  · exact h w hw
  · simp only [opn, cls, okT, okT_app, tkT, mk_form, ml]
    exact ⟨wf_op, ok_mk (by rw [ml]; decide) _, h _ (stop_c (by decide) _), wf_cl, ok_mk (by rw [ml]; decide) _, trivial⟩
theorem kL_get {args : List Xs} {i : Nat} {a : Xs} (h : args[i]? = some a) (k : Int) : arK (kL args) i k = opK k a := by
  unfold arK opK
  rw [kL_map, List.getD_eq_getElem?_getD, List.getElem?_map, h]; rfl
theorem inR_k (l : List Xs) : inRk (kL l) = l.flatMap fun x => com :: .b 32 :: opK 4 x := by
  unfold inRk opK; rw [kL_map, List.flatMap_map]
theorem inA_k (x : Xs) (l : List Xs) : inAk (kL (x :: l)) = opK 4 x ++ l.flatMap fun x => com :: .b 32 :: opK 4 x := by
  rw [kL, inAk, inR_k]; rfl
theorem ok_inR : ∀ (l : List Xs), (∀ a ∈ l, OkX a) → ∀ w, okT (l.flatMap fun x => com :: .b 32 :: opK 4 x) (41 :: w) ∧ Stop2 (tkT (l.flatMap fun x => com :: .b 32 :: opK 4 x) ++ 41 :: w)
  | [], _, w => ⟨trivial, stop_c (by decide) _⟩
  | x :: l, h, w => by
    obtain ⟨h1, h2⟩ := ok_inR l (fun a ha => h a (by simp [ha])) w
    simp only [List.flatMap_cons, okT_app, tkT_app, List.cons_append, com, okT, tkT, mk_form, ml]
    exact ⟨⟨wf_co, ok_mk (by rw [ml]; decide) _, by decide, ok_pa (h x (by simp)) h2, h1⟩, stop_c (by decide) _⟩
theorem naB_nm {s : ByteArray} (h : naB s = true) : wfX (nmY s) := by
  unfold naB at h
  simp only [Bool.and_eq_true] at h
  exact wf_nm h.1
theorem sy_wf {op : Int} (h : 6 ≤ op ∧ op ≤ 14) : wfX (syK op) := by
  have : op = 6 ∨ op = 7 ∨ op = 8 ∨ op = 9 ∨ op = 10 ∨ op = 11 ∨ op = 12 ∨ op = 13 ∨ op = 14 := by omega
  rcases this with rfl | rfl | rfl | rfl | rfl | rfl | rfl | rfl | rfl
  · exact wf_nm (by decide +kernel)
  · exact wf_nm (by decide +kernel)
  · exact wf_mk (c := 61) (by decide +kernel)
  · exact .inr (.inr (.inr ⟨rfl, rfl, .inl (bs_list _)⟩))
  · exact wf_mk (c := 60) (by decide +kernel)
  · exact .inr (.inr (.inr ⟨rfl, rfl, .inr (.inl (bs_list _))⟩))
  · exact wf_mk (c := 43) (by decide +kernel)
  · exact wf_mk (c := 45) (by decide +kernel)
  · exact wf_mk (c := 42) (by decide +kernel)
theorem sy_ok (op : Int) (w : List UInt8) : okS (syK op) (32 :: w) := by
  unfold syK
  split
  · exact ok_nm _ (stop_c (by decide) _)
  · unfold okS mkY
    exact ⟨fun e => by simp at e, fun _ _ => by simp⟩
theorem two_of {l : List Xs} (h : l.length = 2) : ∃ a b, l = [a, b] := by
  match l, h with
  | [a, b], _ => exact ⟨a, b, rfl⟩
theorem one_of {l : List Xs} (h : l.length = 1) : ∃ a, l = [a] := by
  match l, h with
  | [a], _ => exact ⟨a, rfl⟩
theorem more_of {l : List Xs} (h : 2 ≤ l.length) : ∃ a b r, l = a :: b :: r := by
  match l, h with
  | a :: b :: r, _ => exact ⟨a, b, r, rfl⟩
inductive WrX : Xs → Prop
  | num {n : Int} : 0 ≤ n → n ≤ 9007199254740992 → WrX (.mk 1 eB eB n [])
  | txt {t : ByteArray} : litB t = true → WrX (.mk 2 eB t 0 [])
  | nam {t : ByteArray} : naB t = true → WrX (.mk 3 t eB 0 [])
  | use {op n : Int} {t : ByteArray} : op = 16 ∨ op = 17 → naB t = true → 0 ≤ n → n ≤ 9007199254740992 → WrX (.mk op t eB n [])
  | one {op : Int} {a : Xs} : op = 4 ∨ op = 5 → WrX a → WrX (.mk op eB eB 0 [a])
  | two {op : Int} {a b : Xs} : 6 ≤ op ∧ op ≤ 14 → WrX a → WrX b → WrX (.mk op eB eB 0 [a, b])
  | inn {a b : Xs} {l : List Xs} : WrX a → WrX b → (∀ x ∈ l, WrX x) → WrX (.mk 15 eB eB 0 (a :: b :: l))
theorem em_of {s : ByteArray} (h : emB s = true) : s = eB := by
  have : s.toList = [] := of_decide_eq_true h
  exact ba_list (by rw [this, eB, em_nil])
theorem wrX_of (x : Xs) : wX x = true → WrX x := by
  induction x using Xs.ind with
  | h op nm tx n args ih =>
    intro h
    obtain ⟨hF, hall⟩ := wX_out h
    unfold fldB at hF
    split at hF
    · rename_i e; subst e
      simp only [Bool.and_eq_true, decide_eq_true_eq] at hF
      obtain ⟨⟨⟨⟨h1, h2⟩, h3⟩, h4⟩, h5⟩ := hF
      rw [em_of h3, em_of h4, List.eq_nil_of_length_eq_zero h5]
      exact .num h1 h2
    split at hF
    · rename_i e; subst e
      simp only [Bool.and_eq_true, decide_eq_true_eq] at hF
      obtain ⟨⟨⟨h1, h2⟩, h3⟩, h5⟩ := hF
      rw [em_of h2, h3, List.eq_nil_of_length_eq_zero h5]
      exact .txt h1
    split at hF
    · rename_i e; subst e
      simp only [Bool.and_eq_true, decide_eq_true_eq] at hF
      obtain ⟨⟨⟨h1, h2⟩, h3⟩, h5⟩ := hF
      rw [em_of h2, h3, List.eq_nil_of_length_eq_zero h5]
      exact .nam h1
    split at hF
    · rename_i e
      simp only [Bool.and_eq_true, decide_eq_true_eq] at hF
      obtain ⟨⟨⟨⟨h1, h2⟩, h3⟩, h4⟩, h5⟩ := hF
      rw [em_of h4, List.eq_nil_of_length_eq_zero h5]
      exact .use e h1 h2 h3
    simp only [Bool.and_eq_true, decide_eq_true_eq] at hF
    obtain ⟨⟨⟨h1, h2⟩, h3⟩, h4⟩ := hF
    rw [em_of h1, em_of h2, h3]
    split at h4
    · rename_i e
      obtain ⟨a, rfl⟩ := one_of (of_decide_eq_true h4)
      exact .one e (ih a (by simp) (hall a (by simp)))
    split at h4
    · rename_i e
      obtain ⟨a, b, rfl⟩ := two_of (of_decide_eq_true h4)
      exact .two e (ih a (by simp) (hall a (by simp))) (ih b (by simp) (hall b (by simp)))
    · simp only [Bool.and_eq_true, decide_eq_true_eq] at h4
      obtain ⟨a, b, r, rfl⟩ := more_of h4.2
      rw [h4.1]
      exact .inn (ih a (by simp) (hall a (by simp))) (ih b (by simp) (hall b (by simp))) fun x hx => ih x (by simp [hx]) (hall x (by simp [hx]))
theorem kX_num (n : Int) : kX (.mk 1 eB eB n []) = [.x (nuY n)] := by simp [kX, bareK]
theorem kX_txt (t : ByteArray) : kX (.mk 2 eB t 0 []) = [.x (txY t)] := by simp [kX, bareK]
theorem kX_nam (t : ByteArray) : kX (.mk 3 t eB 0 []) = [.x (nmY t)] := by simp [kX, bareK]
def useB (op : Int) : ByteArray := if op = 16 then coB else suB
theorem kX_use {op : Int} (h : op = 16 ∨ op = 17) (t : ByteArray) (n : Int) : kX (.mk op t eB n []) = [.x (nmY (useB op)), opn, .x (nmY t), com, .b 32, .x (nuY n), cls] := by
  rcases h with rfl | rfl <;> simp [kX, bareK, useB]
theorem kX_not (a : Xs) : kX (.mk 4 eB eB 0 [a]) = .x (nmY noB) :: .b 32 :: opK 6 a := by simp [kX, bareK, kL_get (args := [a]) (i := 0) rfl]
theorem kX_neg (a : Xs) : kX (.mk 5 eB eB 0 [a]) = .x (mkY ⟨#[45]⟩) :: opK 6 a := by simp [kX, bareK, kL_get (args := [a]) (i := 0) rfl]
theorem kX_two {op : Int} (h : 6 ≤ op ∧ op ≤ 14) (a b : Xs) : kX (.mk op eB eB 0 [a, b]) = opK (leO op) a ++ (.b 32 :: .x (syK op) :: .b 32 :: opK (lvO op + 1) b) := by
  rw [kX, bareK, if_neg (by omega), if_neg (by omega), if_neg (by omega), if_neg (by omega), if_neg (by omega), if_neg (by omega), if_neg (by omega), if_neg (by omega), kL_get (args := [a, b]) (i := 0) rfl, kL_get (args := [a, b]) (i := 1) rfl]
theorem kX_inn (a b : Xs) (l : List Xs) : kX (.mk 15 eB eB 0 (a :: b :: l)) = opK 4 a ++ (.b 32 :: .x (nmY iB) :: .b 32 :: opn :: ((opK 4 b ++ l.flatMap fun x => com :: .b 32 :: opK 4 x) ++ [cls])) := by
  rw [kX, bareK, if_neg (by decide), if_neg (by decide), if_neg (by decide), if_neg (by decide), if_neg (by decide), if_neg (by decide), if_neg (by decide), if_pos rfl, kL_get (args := a :: b :: l) (i := 0) rfl, ← inA_k]
  rfl
theorem okX {x : Xs} (h : WrX x) : OkX x := by
  induction h with
  | num h1 h2 => intro w hw; rw [kX_num]; exact ⟨wf_nu h1 h2, ok_nu _ hw, trivial⟩
  | txt h => intro w hw; rw [kX_txt]; exact ⟨wf_tx h, ok_tx _ _, trivial⟩
  | nam h => intro w hw; rw [kX_nam]; exact ⟨naB_nm h, ok_nm _ hw, trivial⟩
  | @use op n t h h1 h2 h3 =>
    intro w hw
    rw [kX_use h]
    have hu : wfX (nmY (useB op)) := by rcases h with rfl | rfl <;> exact wf_nm (by decide +kernel)
    simp only [okT, opn, com, cls, tkT, mk_form, ml]
    exact ⟨hu, ok_nm _ (stop_c (by decide) _), wf_op, ok_mk (by rw [ml]; decide) _, naB_nm h1, ok_nm _ (stop_c (by decide) _), wf_co, ok_mk (by rw [ml]; decide) _, by decide, wf_nu h2 h3, ok_nu _ (stop_c (by decide) _), wf_cl, ok_mk (by rw [ml]; decide) _, trivial⟩
  | @one op a h ha ih =>
    intro w hw
    rcases h with rfl | rfl
    · rw [kX_not]
      exact ⟨wf_nm (by decide +kernel), ok_nm _ (stop_c (by decide) _), by decide, ok_pa ih hw⟩
    · rw [kX_neg]
      exact ⟨wf_mk (by decide +kernel), ok_mk (by rw [ml]; decide) _, ok_pa ih hw⟩
  | @two op a b h ha hb iha ihb =>
    intro w hw
    rw [kX_two h, okT_app]
    exact ⟨ok_pa iha (stop_c (by decide) _), by decide, sy_wf h, sy_ok _ _, by decide, ok_pa ihb hw⟩
  | @inn a b l ha hb hl iha ihb ihl =>
    intro w hw
    obtain ⟨h1, h2⟩ := ok_inR l ihl w
    rw [kX_inn, okT_app]
    refine ⟨ok_pa iha (stop_c (by decide) _), by decide, wf_nm (by decide +kernel), ok_nm _ (stop_c (by decide) _), by decide, wf_op, ok_mk (by rw [ml]; decide) _, ?_⟩
    rw [okT_app, okT_app]
    have e : tkT [cls] ++ w = 41 :: w := by simp [tkT, cls, mk_form, ml]
    rw [e]
    exact ⟨⟨ok_pa ihb h2, h1⟩, wf_cl, ok_mk (by rw [ml]; decide) _, trivial⟩
end Go.Proofs.YtgglccpckhpocaaDoor
namespace Go.Proofs.YtgglccpckhpocaaDoor
open Go.Vm
set_option maxHeartbeats 2000000
set_option maxRecDepth 20000
def AtK (L : List LR) (i : Nat) (X : List LR) : Prop := ∀ (j : Nat) (x : LR), X[j]? = some x → keyX (lxA L (i + j)) = keyX x
theorem AtK.app {L : List LR} {i : Nat} {X Y : List LR} (h : AtK L i (X ++ Y)) : AtK L i X ∧ AtK L (i + X.length) Y := by
  refine ⟨fun j x hx => h j x (by rw [List.getElem?_append_left (List.getElem?_eq_some_iff.1 hx).1]; exact hx), fun j x hx => ?_⟩
  have := h (X.length + j) x (by rw [List.getElem?_append_right (by omega), show X.length + j - X.length = j by omega]; exact hx)
  rwa [← Nat.add_assoc] at this
theorem AtK.hd {L : List LR} {i : Nat} {x : LR} {X : List LR} (h : AtK L i (x :: X)) : keyX (lxA L i) = keyX x ∧ AtK L (i + 1) X := by
  refine ⟨h 0 x rfl, fun j y hy => ?_⟩
  have := h (j + 1) y hy
  rwa [show i + (j + 1) = i + 1 + j by omega] at this
section
variable {x y : LR} (h : keyX x = keyX y)
include h
theorem isL_key (k : Int) (t : ByteArray) : isL x k t = isL y k t := by unfold isL; rw [(key_lx h).1, (key_lx h).2.1]
theorem nmB_key : nmB x = nmB y := by unfold nmB; rw [(key_lx h).1, (key_lx h).2.1]
theorem nuB_key (m : Int) : nuB x m = nuB y m := by unfold nuB; rw [(key_lx h).1, (key_lx h).2.2]
theorem opX_key (l : Nat) : opX l x = opX l y := by unfold opX; simp only [isL_key h]
theorem cmX_key : cmX x = cmX y := by unfold cmX; simp only [isL_key h]
theorem inB_key : inB x = inB y := by unfold inB; simp only [isL_key h]
theorem unC_key : unC x = unC y := by unfold unC; simp only [isL_key h, (key_lx h).1, nmB_key h]
theorem acX_key : acX x = acX y := by unfold acX; simp only [isL_key h]
end
def Stp (l : Nat) (y : LR) : Prop := (∀ m, l ≤ m → m < 5 → m ≠ 2 → opX m y = none) ∧ (l ≤ 2 → cmX y = none ∧ inB y = false)
theorem Stp.key {l : Nat} {x y : LR} (h : keyX x = keyX y) (hs : Stp l y) : Stp l x := by
  refine ⟨fun m h1 h2 h3 => ?_, fun hl => ?_⟩
  · rw [opX_key h]; exact hs.1 m h1 h2 h3
  · rw [cmX_key h, inB_key h]; exact hs.2 hl
theorem Stp.up {l m : Nat} {y : LR} (h : Stp l y) (hm : l ≤ m) : Stp m y := ⟨fun k h1 h2 h3 => h.1 k (by omega) h2 h3, fun h1 => h.2 (by omega)⟩
theorem Stp.five (y : LR) : Stp 5 y := ⟨fun m h1 h2 => by omega, fun h => by omega⟩
theorem Stp.of {l : Nat} {y : LR} (h0 : l ≤ 0 → opX 0 y = none) (h1 : l ≤ 1 → opX 1 y = none) (h2 : l ≤ 2 → cmX y = none ∧ inB y = false) (h3 : l ≤ 3 → opX 3 y = none) (h4 : l ≤ 4 → opX 4 y = none) : Stp l y :=
  ⟨fun m a b c => by
    have : m = 0 ∨ m = 1 ∨ m = 3 ∨ m = 4 := by omega
    rcases this with rfl | rfl | rfl | rfl
    · exact h0 a
    · exact h1 a
    · exact h3 a
    · exact h4 a, h2⟩
def ln (T : List Tk) : Nat := (lexK T).length
theorem AtK.apT {L : List LR} {i : Nat} {T : List Tk} {Y : List LR} (h : AtK L i (lexK T ++ Y)) : AtK L i (lexK T) ∧ AtK L (i + ln T) Y := h.app
def Rd (l : Nat) (T : List Tk) (x : Xs) : Prop := ∀ (L : List LR) (i : Nat), AtK L i (lexK T) → Stp l (lxA L (i + ln T)) → Pr L (.lv l) i (.ok x (i + ln T))
def Rq (l : Nat) (T : List Tk) (x : Xs) : Prop := ∀ (L : List LR) (i : Nat) (r : Rz), AtK L i (lexK T) → Stp (l + 1) (lxA L (i + ln T)) → Pr L (.lp l x) (i + ln T) r → Pr L (.lv l) i r
theorem Rq.rd {l : Nat} {T : List Tk} {x : Xs} (h : Rq l T x) (h2 : l ≠ 2) (h5 : l < 5) : Rd l T x := fun L i ha hs => h L i _ ha (hs.up (by omega)) (.lpN (hs.1 l (Nat.le_refl _) h5 h2))
theorem Rd.rq {l : Nat} {T : List Tk} {x : Xs} (h : Rd (l + 1) T x) (h2 : l ≠ 2) (h5 : l < 5) : Rq l T x := fun L i r ha hs hp => .opO h2 h5 (h L i ha hs) hp
theorem Rd.two {T : List Tk} {x : Xs} (h : Rd 3 T x) : Rd 2 T x := fun L i ha hs => .cmN (h L i ha (hs.up (by omega))) (hs.2 (by omega)).1 (hs.2 (by omega)).2
theorem al_of {g : Nat} {T : List Tk} {x : Xs} (hg : g ≤ 5) (h : Rd g T x) : ∀ d l, l + d = g → Rd l T x ∧ (l < g → l ≠ 2 → Rq l T x)
  | 0, l, e => by
    obtain rfl : l = g := by omega
    exact ⟨h, fun h => by omega⟩
  | d + 1, l, e => by
    have h1 := (al_of hg h d (l + 1) (by omega)).1
    by_cases h2 : l = 2
    · subst h2; exact ⟨h1.two, fun _ h => absurd rfl h⟩
    · have hq := h1.rq h2 (by omega)
      exact ⟨hq.rd h2 (by omega), fun _ _ => hq⟩
def Good (x : Xs) : Prop := ∀ (l : Nat) (k : Int), k = l + 1 → l ≤ 5 → Rd l (opK k x) x ∧ (l ≠ 2 → l < 5 → Rq l (opK k x) x)
theorem unC_op : unC (mkY ⟨#[40]⟩) = .par := by simp [unC, isL, mkY, ml]
theorem cl_is : isL (mkY ⟨#[41]⟩) 4 ⟨#[41]⟩ = true := by simp [isL, mkY]
theorem stp_cl : Stp 0 (mkY ⟨#[41]⟩) := by
  refine .of ?_ ?_ ?_ ?_ ?_ <;> intro _ <;> simp [opX, cmX, inB, isL, mkY, ml]
theorem stp_co : Stp 0 (mkY ⟨#[44]⟩) := by
  refine .of ?_ ?_ ?_ ?_ ?_ <;> intro _ <;> simp [opX, cmX, inB, isL, mkY, ml]
theorem good_of {x : Xs} {g : Nat} (hg : lvO (opO x) = (g : Int) + 1) (h : Rd g (kX x) x) (hq : g ≠ 2 → g < 5 → Rq g (kX x) x) : Good x := by
  intro l k hk hl
  have hg5 : g ≤ 5 := by have := lvO_pos (opO x); omega
  by_cases hlg : l ≤ g
  · have e : opK k x = kX x := by unfold opK paK; rw [if_pos (by show k ≤ lvO (opO x); omega)]
    rw [e]
    obtain ⟨h1, h2⟩ := al_of hg5 h (g - l) l (by omega)
    refine ⟨h1, fun a b => ?_⟩
    by_cases e : l = g
    · subst e; exact hq a b
    · exact h2 (by omega) a
  · have e : opK k x = opn :: (kX x ++ [cls]) := by unfold opK paK; rw [if_neg (by show ¬ k ≤ lvO (opO x); omega)]
    rw [e]
    have h5 : Rd 5 (opn :: (kX x ++ [cls])) x := by
      intro L i ha _
      have eL : lexK (opn :: (kX x ++ [cls])) = mkY ⟨#[40]⟩ :: (lexK (kX x) ++ [mkY ⟨#[41]⟩]) := by simp [lexK, opn, cls, lexK_app]
      have en : ln (opn :: (kX x ++ [cls])) = ln (kX x) + 2 := by unfold ln; rw [eL]; simp
      rw [en]
      rw [eL] at ha
      obtain ⟨a1, a2⟩ := ha.hd
      obtain ⟨a3, a4⟩ := a2.apT
      obtain ⟨a5, _⟩ := a4.hd
      have h0 := (al_of hg5 h g 0 (by omega)).1 L (i + 1) a3 (stp_cl.key a5)
      have := Pr.paO (by rw [unC_key a1]; exact unC_op) h0 (by rw [isL_key a5]; exact cl_is)
      rwa [show i + 1 + ln (kX x) + 1 = i + (ln (kX x) + 2) by omega] at this
    obtain ⟨h1, h2⟩ := al_of (Nat.le_refl 5) h5 (5 - l) l (by omega)
    exact ⟨h1, fun a b => h2 b a⟩
theorem naB_unC {t : ByteArray} (h : naB t = true) : unC (nmY t) = .nam := by
  unfold naB at h
  simp only [Bool.and_eq_true, Bool.not_eq_true'] at h
  have hn : nmB (nmY t) = true := by simp [nmB, nmY, h.2]
  have h2 := h.2
  unfold resB at h2
  simp only [Bool.or_eq_false_iff, decide_eq_false_iff_not, ml] at h2
  simp [unC, isL, nmY, h2]
  have hn' : nmB (⟨1, t, 0, 0, 0, 0⟩ : LR) = true := hn
  simp [hn']
theorem naB_nmB {t : ByteArray} (h : naB t = true) : nmB (nmY t) = true := by
  unfold naB at h
  simp only [Bool.and_eq_true, Bool.not_eq_true'] at h
  simp [nmB, nmY, h.2]
theorem one_rd {x : Xs} {y : LR} (e : kX x = [.x y]) (h : ∀ (L : List LR) (i : Nat), keyX (lxA L i) = keyX y → Pr L (.lv 5) i (.ok x (i + 1))) : Rd 5 (kX x) x := by
  intro L i ha _
  rw [e] at ha ⊢
  exact h L i (AtK.hd (x := y) (X := []) ha).1
theorem sy_op {op : Int} (h : 6 ≤ op ∧ op ≤ 14) : ∃ g : Nat, lvO op = (g : Int) + 1 ∧ g ≤ 4 ∧ leO op = (if g = 2 then 4 else (g : Int) + 1) ∧ Stp (g + 1) (syK op) ∧ (if g = 2 then cmX (syK op) = some op else opX g (syK op) = some op) := by
  have : op = 6 ∨ op = 7 ∨ op = 8 ∨ op = 9 ∨ op = 10 ∨ op = 11 ∨ op = 12 ∨ op = 13 ∨ op = 14 := by omega
  rcases this with rfl | rfl | rfl | rfl | rfl | rfl | rfl | rfl | rfl
  · exact ⟨1, rfl, by omega, rfl, .of (by simp) (by simp) (fun _ => by simp [cmX, inB, isL, syK, nmY, mkY, syO, ml, bs_list]) (fun _ => by simp [opX, isL, syK, nmY, syO, ml, bs_list]) (fun _ => by simp [opX, isL, syK, nmY, syO, ml, bs_list]), by simp [opX, isL, syK, nmY, syO, ml, bs_list]⟩
  · exact ⟨0, rfl, by omega, rfl, .of (by simp) (fun _ => by simp [opX, isL, syK, nmY, syO, ml, bs_list]) (fun _ => by simp [cmX, inB, isL, syK, nmY, mkY, syO, ml, bs_list]) (fun _ => by simp [opX, isL, syK, nmY, syO, ml, bs_list]) (fun _ => by simp [opX, isL, syK, nmY, syO, ml, bs_list]), by simp [opX, isL, syK, nmY, syO, ml, bs_list]⟩
  all_goals first
    | exact ⟨2, rfl, by omega, rfl, .of (by simp) (by simp) (by simp) (fun _ => by simp [opX, isL, syK, mkY, syO, ml, bs_list]) (fun _ => by simp [opX, isL, syK, mkY, syO, ml, bs_list]), by simp [cmX, isL, syK, mkY, syO, ml, bs_list]⟩
    | exact ⟨3, rfl, by omega, rfl, .of (by simp) (by simp) (by simp) (by simp) (fun _ => by simp [opX, isL, syK, mkY, syO, ml, bs_list]), by simp [opX, isL, syK, mkY, syO, ml, bs_list]⟩
    | exact ⟨4, rfl, by omega, rfl, .of (by simp) (by simp) (by simp) (by simp) (by simp), by simp [opX, isL, syK, mkY, syO, ml, bs_list]⟩
theorem ch_all {L : List LR} : ∀ (l : List Xs) (b : Xs) (xs : List Xs) (i : Nat), Good b → (∀ x ∈ l, Good x) → AtK L i (lexK ((opK 4 b ++ l.flatMap fun x => com :: .b 32 :: opK 4 x) ++ [cls])) →
    Pr L (.ch xs) i (.ok (.mk 15 eB eB 0 (xs ++ b :: l)) (i + ln ((opK 4 b ++ l.flatMap fun x => com :: .b 32 :: opK 4 x) ++ [cls])))
  | [], b, xs, i, hb, _, ha => by
    have eL : lexK ((opK 4 b ++ ([] : List Xs).flatMap fun x => com :: .b 32 :: opK 4 x) ++ [cls]) = lexK (opK 4 b) ++ [mkY ⟨#[41]⟩] := by simp [lexK_app, lexK, cls]
    have en : ln ((opK 4 b ++ ([] : List Xs).flatMap fun x => com :: .b 32 :: opK 4 x) ++ [cls]) = ln (opK 4 b) + 1 := by unfold ln; rw [eL]; simp
    rw [en]
    rw [eL] at ha
    obtain ⟨a1, a2⟩ := ha.apT
    obtain ⟨a3, _⟩ := a2.hd
    have := (hb 3 4 rfl (by omega)).1 L i a1 ((stp_cl.up (by omega)).key a3)
    have := Pr.chO (xs := xs) this (by rw [isL_key a3]; simp [isL, mkY, ml]) (by rw [isL_key a3]; exact cl_is)
    exact this
  | c :: l, b, xs, i, hb, hl, ha => by
    have eL : lexK ((opK 4 b ++ (c :: l).flatMap fun x => com :: .b 32 :: opK 4 x) ++ [cls]) = lexK (opK 4 b) ++ (mkY ⟨#[44]⟩ :: lexK ((opK 4 c ++ l.flatMap fun x => com :: .b 32 :: opK 4 x) ++ [cls])) := by simp [lexK_app, lexK, cls, com]
    have en : ln ((opK 4 b ++ (c :: l).flatMap fun x => com :: .b 32 :: opK 4 x) ++ [cls]) = ln (opK 4 b) + 1 + ln ((opK 4 c ++ l.flatMap fun x => com :: .b 32 :: opK 4 x) ++ [cls]) := by unfold ln; rw [eL]; simp; omega
    rw [en]
    rw [eL] at ha
    obtain ⟨a1, a2⟩ := ha.apT
    obtain ⟨a3, a4⟩ := a2.hd
    have h1 := (hb 3 4 rfl (by omega)).1 L i a1 ((stp_co.up (by omega)).key a3)
    have h2 := ch_all l c (xs ++ [b]) (i + ln (opK 4 b) + 1) (hl c (by simp)) (fun x hx => hl x (by simp [hx])) a4
    have := Pr.chM h1 (by rw [isL_key a3]; simp [isL, mkY]) h2
    rwa [List.append_assoc, show i + ln (opK 4 b) + 1 + ln ((opK 4 c ++ l.flatMap fun x => com :: .b 32 :: opK 4 x) ++ [cls]) = i + (ln (opK 4 b) + 1 + ln ((opK 4 c ++ l.flatMap fun x => com :: .b 32 :: opK 4 x) ++ [cls])) by omega] at this
theorem good_all {x : Xs} (h : WrX x) : Good x := by
  induction h with
  | @num n h1 h2 =>
    refine good_of (g := 5) rfl (one_rd (kX_num n) fun L i hk => ?_) (fun _ h => by omega)
    have := Pr.nu (L := L) (i := i) (by rw [unC_key hk]; simp [unC, isL, nuY])
    rwa [(key_lx hk).2.2] at this
  | @txt t h =>
    refine good_of (g := 5) rfl (one_rd (kX_txt t) fun L i hk => ?_) (fun _ h => by omega)
    have := Pr.te (L := L) (i := i) (by rw [unC_key hk]; simp [unC, isL, txY])
    rwa [(key_lx hk).2.1] at this
  | @nam t h =>
    refine good_of (g := 5) rfl (one_rd (kX_nam t) fun L i hk => ?_) (fun _ h => by omega)
    have := Pr.na (L := L) (i := i) (by rw [unC_key hk]; exact naB_unC h)
    rwa [(key_lx hk).2.1] at this
  | @use op n t h h1 h2 h3 =>
    have h5 : Rd 5 (kX (.mk op t eB n [])) (.mk op t eB n []) := by
      intro L i ha _
      have eL : lexK (kX (.mk op t eB n [])) = [nmY (useB op), mkY ⟨#[40]⟩, nmY t, mkY ⟨#[44]⟩, nuY n, mkY ⟨#[41]⟩] := by rw [kX_use h]; rfl
      have en : ln (kX (.mk op t eB n [])) = 6 := by unfold ln; rw [eL]; rfl
      rw [en]
      rw [eL] at ha
      obtain ⟨a1, a2⟩ := ha.hd
      obtain ⟨b1, b2⟩ := a2.hd
      obtain ⟨c1, c2⟩ := b2.hd
      obtain ⟨d1, d2⟩ := c2.hd
      obtain ⟨e1, e2⟩ := d2.hd
      obtain ⟨f1, _⟩ := e2.hd
      refine Pr.usO (o := op) (by rw [unC_key a1]; rcases h with rfl | rfl <;> simp [unC, isL, nmY, mkY, useB, coB, suB, ml]) (j := i + 6) ?_
      have k1 : isL (lxA L (i + 1)) 4 ⟨#[40]⟩ = true := by rw [isL_key b1]; simp [isL, mkY]
      have k2 : nmB (lxA L (i + 1 + 1)) = true := by rw [nmB_key c1]; exact naB_nmB h1
      have k3 : isL (lxA L (i + 1 + 2)) 4 ⟨#[44]⟩ = true := by rw [isL_key d1]; simp [isL, mkY]
      have k4 : nuB (lxA L (i + 1 + 3)) 9007199254740992 = true := by rw [nuB_key e1]; simp [nuB, nuY, h3]
      have k5 : isL (lxA L (i + 1 + 4)) 4 ⟨#[41]⟩ = true := by rw [isL_key f1]; simp [isL, mkY]
      unfold usX
      rw [if_neg (by rw [k1]; simp), if_neg (by rw [k2]; simp), if_neg (by rw [k3]; simp), if_neg (by rw [k4]; simp), if_neg (by rw [k5]; simp), (key_lx c1).2.1, (key_lx e1).2.2]
      rfl
    refine good_of (g := 5) ?_ h5 (fun _ h => by omega)
    rcases h with rfl | rfl <;> rfl
  | @one op a h ha ih =>
    have h5 : Rd 5 (kX (.mk op eB eB 0 [a])) (.mk op eB eB 0 [a]) := by
      intro L i hat _
      obtain ⟨y, T, hT, hu⟩ : ∃ y T, kX (.mk op eB eB 0 [a]) = .x y :: T ∧ lexK T = lexK (opK 6 a) ∧ unC y = .one op := by
        rcases h with rfl | rfl
        · exact ⟨_, _, kX_not a, rfl, by simp [unC, isL, nmY, noB]⟩
        · exact ⟨_, _, kX_neg a, rfl, by simp [unC, isL, mkY]⟩
      have eL : lexK (kX (.mk op eB eB 0 [a])) = y :: lexK (opK 6 a) := by rw [hT, lexK, hu.1]
      have en : ln (kX (.mk op eB eB 0 [a])) = 1 + ln (opK 6 a) := by unfold ln; rw [eL]; simp; omega
      rw [en]
      rw [eL] at hat
      obtain ⟨a1, a2⟩ := hat.hd
      have := Pr.unO (by rw [unC_key a1]; exact hu.2) ((ih 5 6 rfl (by omega)).1 L (i + 1) a2 (Stp.five _))
      rwa [Nat.add_assoc] at this
    refine good_of (g := 5) ?_ h5 (fun _ h => by omega)
    rcases h with rfl | rfl <;> rfl
  | @two op a b h ha hb iha ihb =>
    obtain ⟨g, hg, g4, hle, hst, hop⟩ := sy_op h
    have eL : lexK (kX (.mk op eB eB 0 [a, b])) = lexK (opK (leO op) a) ++ (syK op :: lexK (opK (lvO op + 1) b)) := by rw [kX_two h, lexK_app]; rfl
    have en : ln (kX (.mk op eB eB 0 [a, b])) = ln (opK (leO op) a) + 1 + ln (opK (lvO op + 1) b) := by unfold ln; rw [eL]; simp; omega
    by_cases g2 : g = 2
    · subst g2
      rw [if_pos rfl] at hle hop
      refine good_of (g := 2) hg ?_ (fun h => absurd rfl h)
      intro L i hat hs
      rw [en] at hs ⊢
      rw [eL] at hat
      obtain ⟨a1, a2⟩ := hat.apT
      obtain ⟨a3, a4⟩ := a2.hd
      rw [hle] at a1 a3 a4 hs ⊢
      have e4 : lvO op + 1 = 4 := by rw [hg]; rfl
      rw [e4] at a4 hs ⊢
      have h1 := (iha 3 4 rfl (by omega)).1 L i a1 (hst.key a3)
      have h2 := (ihb 3 4 rfl (by omega)).1 L (i + ln (opK 4 a) + 1) a4 (by
        have := hs.up (m := 3) (by omega)
        rwa [show i + (ln (opK 4 a) + 1 + ln (opK 4 b)) = i + ln (opK 4 a) + 1 + ln (opK 4 b) by omega] at this)
      have := Pr.cmO h1 (by rw [cmX_key a3]; exact hop) h2
      rwa [show i + ln (opK 4 a) + 1 + ln (opK 4 b) = i + (ln (opK 4 a) + 1 + ln (opK 4 b)) by omega] at this
    · rw [if_neg g2] at hle hop
      have hq : Rq g (kX (.mk op eB eB 0 [a, b])) (.mk op eB eB 0 [a, b]) := by
        intro L i r hat hs hp
        rw [en] at hs hp
        rw [eL] at hat
        obtain ⟨a1, a2⟩ := hat.apT
        obtain ⟨a3, a4⟩ := a2.hd
        have e1 : i + (ln (opK (leO op) a) + 1 + ln (opK (lvO op + 1) b)) = i + ln (opK (leO op) a) + 1 + ln (opK (lvO op + 1) b) := by omega
        rw [e1] at hs hp
        have h2 := (ihb (g + 1) (lvO op + 1) (by rw [hg]; omega) (by omega)).1 L (i + ln (opK (leO op) a) + 1) a4 hs
        exact (iha g (leO op) hle (by omega)).2 g2 (by omega) L i r a1 (hst.key a3) (.lpO (by rw [opX_key a3]; exact hop) h2 hp)
      exact good_of hg (hq.rd g2 (by omega)) (fun _ _ => hq)
  | @inn a b l ha hb hl iha ihb ihl =>
    refine good_of (g := 2) rfl ?_ (fun h => absurd rfl h)
    intro L i hat hs
    have eL : lexK (kX (.mk 15 eB eB 0 (a :: b :: l))) = lexK (opK 4 a) ++ (nmY iB :: mkY ⟨#[40]⟩ :: lexK ((opK 4 b ++ l.flatMap fun x => com :: .b 32 :: opK 4 x) ++ [cls])) := by rw [kX_inn, lexK_app]; rfl
    have en : ln (kX (.mk 15 eB eB 0 (a :: b :: l))) = ln (opK 4 a) + 2 + ln ((opK 4 b ++ l.flatMap fun x => com :: .b 32 :: opK 4 x) ++ [cls]) := by unfold ln; rw [eL]; simp; omega
    rw [en]
    rw [eL] at hat
    obtain ⟨a1, a2⟩ := hat.apT
    obtain ⟨a3, a4⟩ := a2.hd
    obtain ⟨a5, a6⟩ := a4.hd
    have st : Stp 3 (nmY iB) := .of (by simp) (by simp) (by simp) (fun _ => by simp [opX, isL, nmY, iB]) (fun _ => by simp [opX, isL, nmY, iB])
    have h1 := (iha 3 4 rfl (by omega)).1 L i a1 (st.key a3)
    have h2 := ch_all (L := L) l b [a] (i + ln (opK 4 a) + 2) ihb ihl a6
    have := Pr.inC h1 (by rw [cmX_key a3]; simp [cmX, isL, nmY, iB]) (by rw [inB_key a3]; simp [inB, isL, nmY, iB]) (by rw [isL_key a5]; simp [isL, mkY]) h2
    rwa [show i + ln (opK 4 a) + 2 + ln ((opK 4 b ++ l.flatMap fun x => com :: .b 32 :: opK 4 x) ++ [cls]) = i + (ln (opK 4 a) + 2 + ln ((opK 4 b ++ l.flatMap fun x => com :: .b 32 :: opK 4 x) ++ [cls])) by omega] at this
end Go.Proofs.YtgglccpckhpocaaDoor
namespace Go.Proofs.YtgglccpckhpocaaDoor
open Go.Vm
set_option maxHeartbeats 2000000
set_option maxRecDepth 20000
def whB : ByteArray := ⟨#[119, 104, 101, 110]⟩
def scB_ : ByteArray := ⟨#[115, 99, 111, 114, 101]⟩
def scK (s : Int) : List Tk := if s = 0 then [] else [.b 32, .x (nmY scB_), .b 32, .x (nuY s)]
def ruK (u : Ru) (e : List Tk) : List Tk := .x (nmY ruB) :: .b 32 :: .x (nmY u.nm) :: .b 32 :: .x (nmY whB) :: .b 32 :: (kX u.w ++ (.x (mkY ⟨#[58]⟩) :: .b 32 :: .x (nmY (bs (actT u.act))) :: (scK u.sc ++ (.x (mkY ⟨#[59]⟩) :: e))))
def RuW (u : Ru) : Prop := naB u.nm = true ∧ WrX u.w ∧ (0 ≤ u.act ∧ u.act ≤ 2) ∧ 0 ≤ u.sc ∧ u.sc ≤ 1000
theorem act_wf {a : Int} (h : 0 ≤ a ∧ a ≤ 2) : wfX (nmY (bs (actT a))) ∧ acX (nmY (bs (actT a))) = some a := by
  have : a = 0 ∨ a = 1 ∨ a = 2 := by omega
  rcases this with rfl | rfl | rfl
  all_goals exact ⟨wf_nm (by decide +kernel), by simp [acX, isL, nmY, actT, ml, bs_list]⟩
theorem sc_ok {s : Int} (h0 : 0 ≤ s) (h : s ≤ 1000) (w : List UInt8) : okT (scK s) (59 :: w) ∧ Stop2 (tkT (scK s) ++ 59 :: w) := by
  unfold scK
  split
  · exact ⟨trivial, stop_c (by decide) _⟩
  · exact ⟨⟨by decide, wf_nm (by decide +kernel), ok_nm _ (stop_c (by decide) _), by decide, wf_nu h0 (by omega), ok_nu _ (stop_c (by decide) _), trivial⟩, stop_c (by decide) _⟩
theorem ru_ok {u : Ru} (h : RuW u) {e : List Tk} {w : List UInt8} (he : okT e w) : okT (ruK u e) w := by
  obtain ⟨h1, h2, h3, h4, h5⟩ := h
  have e59 : tkT (.x (mkY ⟨#[59]⟩) :: e) ++ w = 59 :: (tkT e ++ w) := by simp [tkT, mk_form, ml]
  obtain ⟨s1, s2⟩ := sc_ok h4 h5 (tkT e ++ w)
  refine ⟨wf_nm (by decide +kernel), ok_nm _ (stop_c (by decide) _), by decide, naB_nm h1, ok_nm _ (stop_c (by decide) _), by decide, wf_nm (by decide +kernel), ok_nm _ (stop_c (by decide) _), by decide, ?_⟩
  rw [okT_app]
  refine ⟨okX h2 _ (by simp only [tkT, mk_form, ml]; exact stop_c (by decide) _), wf_mk (by decide +kernel), ok_mk (by rw [ml]; decide) _, by decide, (act_wf h3).1, ok_nm _ (by rw [tkT_app, List.append_assoc, e59]; exact s2), ?_⟩
  rw [okT_app, e59]
  exact ⟨s1, wf_mk (by decide +kernel), ok_mk (by rw [ml]; decide) _, he⟩
theorem stp_colon : Stp 0 (mkY ⟨#[58]⟩) := by
  refine .of ?_ ?_ ?_ ?_ ?_ <;> intro _ <;> simp [opX, cmX, inB, isL, mkY, ml]
theorem opK_one (x : Xs) : opK 1 x = kX x := by unfold opK paK; rw [if_pos (lvO_pos _).1]
theorem isL_nm (t : ByteArray) : isL (nmY t) 1 t = true := by simp [isL, nmY]
theorem isL_mk (t : ByteArray) : isL (mkY t) 4 t = true := by simp [isL, mkY]
theorem ruT_at {L : List LR} {j : Nat} {a s : Int} (ha : 0 ≤ a ∧ a ≤ 2) (h0 : 0 ≤ s) (h1 : s ≤ 1000) (h : AtK L j (mkY ⟨#[58]⟩ :: nmY (bs (actT a)) :: (lexK (scK s) ++ [mkY ⟨#[59]⟩]))) : ruT L j = (0, j + 3 + (lexK (scK s)).length, a, s) := by
  obtain ⟨a1, a2⟩ := h.hd
  obtain ⟨b1, b2⟩ := a2.hd
  have k1 : isL (lxA L j) 4 ⟨#[58]⟩ = true := by rw [isL_key a1]; exact isL_mk _
  have k2 : acX (lxA L (j + 1)) = some a := by rw [acX_key b1]; exact (act_wf ha).2
  unfold ruT
  rw [if_neg (by rw [k1]; simp), k2]
  simp only
  unfold scK at b2 ⊢
  by_cases hs : s = 0
  · subst hs
    simp only [if_true, lexK, List.nil_append] at b2 ⊢
    obtain ⟨c1, _⟩ := b2.hd
    have c1' : keyX (lxA L (j + 2)) = _ := c1
    have k3 : isL (lxA L (j + 2)) 1 ⟨#[115, 99, 111, 114, 101]⟩ = false := by rw [isL_key c1']; simp [isL, mkY]
    have k4 : isL (lxA L (j + 2)) 4 ⟨#[59]⟩ = true := by rw [isL_key c1']; exact isL_mk _
    rw [if_neg (by rw [k3]; simp), if_neg (by rw [k4]; simp)]
    rfl
  · simp only [if_neg hs, lexK, List.cons_append, List.nil_append] at b2 ⊢
    obtain ⟨c1, c2⟩ := b2.hd
    obtain ⟨d1, d2⟩ := c2.hd
    obtain ⟨f1, _⟩ := d2.hd
    have c1' : keyX (lxA L (j + 2)) = _ := c1
    have d1' : keyX (lxA L (j + 3)) = _ := d1
    have f1' : keyX (lxA L (j + 4)) = _ := f1
    have k3 : isL (lxA L (j + 2)) 1 ⟨#[115, 99, 111, 114, 101]⟩ = true := by rw [isL_key c1']; exact isL_nm _
    have k5 : nuB (lxA L (j + 3)) 1000 = true := by rw [nuB_key d1']; simp [nuB, nuY, h1]
    have k4 : isL (lxA L (j + 4)) 4 ⟨#[59]⟩ = true := by rw [isL_key f1']; exact isL_mk _
    rw [if_pos k3, if_neg (by rw [k5]; simp), if_neg (by rw [k4]; simp), (key_lx d1').2.2]
    rfl
theorem pu_at {L : List LR} {dn : List Ru} {i : Nat} {u : Ru} (hu : RuW u) (hn : hasU u.nm dn = false) (hd : dn.length < 64) {e : List Tk} (he : lexK e = []) (h : AtK L i (lexK (ruK u e))) : PuO L dn i u (i + ln (ruK u e)) := by
  obtain ⟨h1, h2, h3, h4, h5⟩ := hu
  have eL : lexK (ruK u e) = nmY ruB :: nmY u.nm :: nmY whB :: (lexK (kX u.w) ++ (mkY ⟨#[58]⟩ :: nmY (bs (actT u.act)) :: (lexK (scK u.sc) ++ [mkY ⟨#[59]⟩]))) := by
    unfold ruK; simp [lexK, lexK_app, he]
  have en : ln (ruK u e) = ln (kX u.w) + 6 + (lexK (scK u.sc)).length := by unfold ln; rw [eL]; simp; omega
  rw [eL] at h
  obtain ⟨a1, a2⟩ := h.hd
  obtain ⟨b1, b2⟩ := a2.hd
  obtain ⟨c1, c2⟩ := b2.hd
  obtain ⟨d1, d2⟩ := AtK.apT c2
  have d2h := d2.hd.1
  have k1 : isL (lxA L i) 1 ruB = true := by rw [isL_key a1]; exact isL_nm _
  have k2 : nmB (lxA L (i + 1)) = true := by rw [nmB_key b1]; exact naB_nmB h1
  have k3 : hasU (lxA L (i + 1)).t dn = false := by rw [(key_lx b1).2.1]; exact hn
  have c1' : keyX (lxA L (i + 2)) = _ := c1
  have k4 : isL (lxA L (i + 2)) 1 ⟨#[119, 104, 101, 110]⟩ = true := by rw [isL_key c1']; exact isL_nm _
  have hH : ruH L dn i = none := by
    unfold ruH
    rw [if_neg (by omega), if_neg (by rw [k1]; simp), if_neg (by rw [k2]; simp), if_neg (by rw [k3]; simp), if_neg (by rw [k4]; simp)]
  have hx := (good_all h2 0 1 rfl (by omega)).1 L (i + 3) (by rw [opK_one]; exact d1) (by rw [opK_one]; exact stp_colon.key d2h)
  rw [opK_one] at hx
  have hT := ruT_at h3 h4 h5 d2
  have := PuO.ok hH hx hT
  rw [(key_lx b1).2.1] at this
  have ek : i + 1 + 1 + 1 + ln (kX u.w) + 3 + (lexK (scK u.sc)).length = i + ln (ruK u e) := by rw [en]; omega
  rw [ek] at this
  exact this
theorem at_scan {T : List Tk} {L K : List LR} {e : LR} (hL : L = K ++ [e]) (hK : K.map keyX = (lexK T).map keyX) (he : e.k = 0) : AtK L 0 (lexK T) ∧ (lxA L (0 + ln T)).k = 0 := by
  have hlen : K.length = ln T := by have := congrArg List.length hK; simpa [ln] using this
  subst hL
  refine ⟨fun j x hx => ?_, ?_⟩
  · have h1 : (K.map keyX)[j]? = some (keyX x) := by rw [hK, List.getElem?_map, hx]; rfl
    rw [List.getElem?_map] at h1
    cases hk : K[j]? with
    | none => rw [hk] at h1; cases h1
    | some y =>
      rw [hk] at h1
      have hj := (List.getElem?_eq_some_iff.1 hk).1
      rw [lxA_of (x := y) (by rw [Nat.zero_add, List.getElem?_append_left hj]; exact hk)]
      simpa using h1
  · rw [lxA_of (x := e) (by rw [Nat.zero_add, ← hlen, List.getElem?_append_right (Nat.le_refl _)]; simp)]
    exact he
end Go.Proofs.YtgglccpckhpocaaDoor
namespace Go.Proofs.YtgglccpckhpocaaDoor
open Go.Vm
set_option maxHeartbeats 2000000
set_option maxRecDepth 20000
theorem pa_len (k : Int) (p : Int × List UInt8) : (paT k p).length ≤ p.2.length + 2 := by
  unfold paT
  split
  · omega
  · simp
theorem sy_len (op : Int) : (syO op).length ≤ 3 := by
  unfold syO
  repeat' split
  all_goals simp
def sumT : List Xs → Nat
  | [] => 0
  | x :: l => (tX x).length + 4 + sumT l
theorem sumT_app (a b : List Xs) : sumT (a ++ b) = sumT a + sumT b := by
  induction a with
  | nil => simp [sumT]
  | cons x l ih => simp only [List.cons_append, sumT, ih]; omega
theorem inR_len : ∀ l : List Xs, (inR (tL l)).length ≤ sumT l
  | [] => by simp [tL, inR, sumT]
  | x :: l => by
    have h := inR_len l
    have h1 := pa_len 4 (opO x, tX x)
    unfold inR at h ⊢
    rw [tL, List.flatMap_cons, List.length_append, List.length_append, sumT]
    simp only [List.length_cons, List.length_nil] at h1 ⊢
    omega
end Go.Proofs.YtgglccpckhpocaaDoor
