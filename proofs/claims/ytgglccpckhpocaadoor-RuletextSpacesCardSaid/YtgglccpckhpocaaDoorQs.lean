/-
The grammar looks at keys only; spaces and remarks around a text.
Conditions: none.
-/
import Derived.Test.YtgglccpckhpocaaDoorQg
set_option linter.unusedSimpArgs false
set_option linter.unusedVariables false
namespace Go.Proofs.YtgglccpckhpocaaDoor
open Go.Vm
set_option maxHeartbeats 4000000
set_option maxRecDepth 20000
def KeyL (L M : List LR) : Prop := ∀ i, keyX (lxA L i) = keyX (lxA M i)
theorem key_lx {x y : LR} (h : keyX x = keyX y) : x.k = y.k ∧ x.t = y.t ∧ x.n = y.n := by simpa [keyX] using h
theorem KeyL.of {L M : List LR} (h : L.map keyX = M.map keyX) : KeyL L M := by
  intro i
  have hi : (L.map keyX)[i]? = (M.map keyX)[i]? := by rw [h]
  rw [List.getElem?_map, List.getElem?_map] at hi
  unfold lxA
  rw [List.getD_eq_getElem?_getD, List.getD_eq_getElem?_getD]
  cases h1 : L[i]? <;> cases h2 : M[i]? <;> simp_all
theorem KeyL.symm {L M : List LR} (h : KeyL L M) : KeyL M L := fun i => (h i).symm
section
variable {L M : List LR} (H : KeyL L M)
include H
theorem KeyL.k (i : Nat) : (lxA L i).k = (lxA M i).k := (key_lx (H i)).1
theorem KeyL.t (i : Nat) : (lxA L i).t = (lxA M i).t := (key_lx (H i)).2.1
theorem KeyL.n (i : Nat) : (lxA L i).n = (lxA M i).n := (key_lx (H i)).2.2
theorem KeyL.is (i : Nat) (k : Int) (t : ByteArray) : isL (lxA L i) k t = isL (lxA M i) k t := by unfold isL; rw [H.k, H.t]
theorem KeyL.nm (i : Nat) : nmB (lxA L i) = nmB (lxA M i) := by unfold nmB; rw [H.k, H.t]
theorem KeyL.nu (i : Nat) (m : Int) : nuB (lxA L i) m = nuB (lxA M i) m := by unfold nuB; rw [H.k, H.n]
theorem KeyL.op (l i : Nat) : opX l (lxA L i) = opX l (lxA M i) := by unfold opX; simp only [H.is]
theorem KeyL.cm (i : Nat) : cmX (lxA L i) = cmX (lxA M i) := by unfold cmX; simp only [H.is]
theorem KeyL.in_ (i : Nat) : inB (lxA L i) = inB (lxA M i) := by unfold inB; simp only [H.is]
theorem KeyL.un (i : Nat) : unC (lxA L i) = unC (lxA M i) := by unfold unC; simp only [H.is, H.k, H.nm]
theorem KeyL.us (i : Nat) : usX L i = usX M i := by unfold usX; simp only [H.is, H.nu, H.nm, H.t, H.n]
theorem KeyL.ac (i : Nat) : acX (lxA L i) = acX (lxA M i) := by unfold acX; simp only [H.is]
theorem KeyL.rh (us : List Ru) (i : Nat) : ruH L us i = ruH M us i := by unfold ruH; simp only [H.is, H.nm, H.t]
theorem KeyL.rt (i : Nat) : ruT L i = ruT M i := by unfold ruT; simp only [H.is, H.nu, H.ac, H.n]
theorem Pr.key {q : Qr} {i : Nat} {r : Rz} (h : Pr L q i r) : Pr M q i r := by
  induction h with
  | opE a b _ ih => exact .opE a b ih
  | opO a b _ _ ih1 ih2 => exact .opO a b ih1 ih2
  | lpN a => rw [H.op] at a; exact .lpN a
  | lpE a _ ih => rw [H.op] at a; exact .lpE a ih
  | lpO a _ _ ih1 ih2 => rw [H.op] at a; exact .lpO a ih1 ih2
  | cmE _ ih => exact .cmE ih
  | cmN _ a b ih => rw [H.cm] at a; rw [H.in_] at b; exact .cmN ih a b
  | cmF _ a _ ih1 ih2 => rw [H.cm] at a; exact .cmF ih1 a ih2
  | cmO _ a _ ih1 ih2 => rw [H.cm] at a; exact .cmO ih1 a ih2
  | inP _ a b c ih => rw [H.cm] at a; rw [H.in_] at b; rw [H.is] at c; exact .inP ih a b c
  | inC _ a b c _ ih1 ih2 => rw [H.cm] at a; rw [H.in_] at b; rw [H.is] at c; exact .inC ih1 a b c ih2
  | chE _ ih => exact .chE ih
  | chM _ a _ ih1 ih2 => rw [H.is] at a; exact .chM ih1 a ih2
  | chO _ a b ih => rw [H.is] at a b; exact .chO ih a b
  | chB _ a b ih => rw [H.is] at a b; exact .chB ih a b
  | unO a _ ih => rw [H.un] at a; exact .unO a ih
  | unE a _ ih => rw [H.un] at a; exact .unE a ih
  | usO a b => rw [H.un] at a; rw [H.us] at b; exact .usO a b
  | usE a b c => rw [H.un] at a; rw [H.us] at b; exact .usE a b c
  | paE a _ ih => rw [H.un] at a; exact .paE a ih
  | paO a _ b ih => rw [H.un] at a; rw [H.is] at b; exact .paO a ih b
  | paB a _ b ih => rw [H.un] at a; rw [H.is] at b; exact .paB a ih b
  | nu a => rw [H.un] at a; rw [H.n]; exact .nu a
  | te a => rw [H.un] at a; rw [H.t]; exact .te a
  | na a => rw [H.un] at a; rw [H.t]; exact .na a
  | ba a => rw [H.un] at a; exact .ba a
theorem PuE.key {us : List Ru} {i j : Nat} {e : Int} (h : PuE L us i e j) : PuE M us i e j := by
  cases h with
  | h a => rw [H.rh] at a; exact .h a
  | x a b => rw [H.rh] at a; exact .x a (b.key H)
  | t a b c d => rw [H.rh] at a; rw [H.rt] at c; exact .t a (b.key H) c d
theorem PuO.key {us : List Ru} {i j : Nat} {u : Ru} (h : PuO L us i u j) : PuO M us i u j := by
  cases h with
  | ok a b c => rw [H.rh] at a; rw [H.rt] at c; rw [H.t]; exact .ok a (b.key H) c
theorem RlO.key {us vs : List Ru} {i j : Nat} (h : RlO L us i vs j) : RlO M us i vs j := by
  induction h with
  | fin a => rw [H.k] at a; exact .fin a
  | step a b _ ih => rw [H.k] at a; exact .step a (b.key H) ih
theorem RlE.key {us : List Ru} {i j : Nat} {e : Int} (h : RlE L us i e j) : RlE M us i e j := by
  induction h with
  | err a b => rw [H.k] at a; exact .err a (b.key H)
  | step a b _ ih => rw [H.k] at a; exact .step a (b.key H) ih
end
end Go.Proofs.YtgglccpckhpocaaDoor
namespace Go.Proofs.YtgglccpckhpocaaDoor
open Go.Vm
set_option maxHeartbeats 1000000
set_option maxRecDepth 20000
theorem scanG_end {s : ByteArray} {i : Nat} (n : Nat) (h : s.size ≤ i) : scanG s (n + 1) i = (0, 0, [endR s]) := by rw [scanG, if_pos h]
theorem scanG_err {s : ByteArray} {i : Nat} (n : Nat) (h : ¬ s.size ≤ i) (he : (lexR s i).e ≠ 0) : scanG s (n + 1) i = ((lexR s i).e, i, []) := by rw [scanG, if_neg h, if_pos he]
theorem scanG_ok {s : ByteArray} {i : Nat} (n : Nat) (h : ¬ s.size ≤ i) (he : (lexR s i).e = 0) {j : Nat} (hj : (lexR s i).nx + skN false (s.toList.drop (lexR s i).nx) = j) : scanG s (n + 1) i = ((scanG s n j).1, (scanG s n j).2.1, if (scanG s n j).1 = 0 then lexR s i :: (scanG s n j).2.2 else []) := by
  subst hj
  rw [scanG, if_neg h, if_neg (by rw [he]; simp)]
def shX (d : Nat) (x : LR) : LR := { x with a := x.a + d, nx := x.nx + d }
theorem xt_pre {f : List UInt8} {s s' : ByteArray} (h : s'.toList = f ++ s.toList) (i j : Nat) : s'.extract (i + f.length) (j + f.length) = s.extract i j := by
  apply ba_list
  rw [xt_list, xt_list, h, List.drop_take, List.drop_take, List.drop_append, show i + f.length - f.length = i by omega, List.drop_eq_nil_of_le (by omega), List.nil_append]
  congr 1
  omega
theorem lexR_pre {f : List UInt8} {s s' : ByteArray} (h : s'.toList = f ++ s.toList) (i : Nat) : lexR s' (i + f.length) = if (lexR s i).e = 0 then shX f.length (lexR s i) else lexR s i := by
  have hd : ∀ k, s'.toList.drop (k + f.length) = s.toList.drop k := fun k => by rw [h, List.drop_append, List.drop_eq_nil_of_le (by omega), List.nil_append]; congr 1; omega
  have hx := xt_pre h
  have e2 : i + f.length + 2 = i + 2 + f.length := by omega
  have e1 : i + f.length + 1 = i + 1 + f.length := by omega
  unfold lexR
  rw [hd]
  cases hl : s.toList.drop i with
  | nil => simp [bad]
  | cons c l =>
    have ew : i + f.length + wlen (c :: l) = i + wlen (c :: l) + f.length := by omega
    simp only [e2, e1, ew, hx]
    by_cases h1 : pre2 (c :: l) = true
    · simp only [h1, if_true]; simp [shX]
    simp only [h1, if_false]
    by_cases h2 : letterB c.toNat = true
    · simp only [h2, if_true]
      by_cases h3 : 16 < wlen (c :: l)
      · simp [h3, bad]
      · simp [h3, shX]
    simp only [h2, if_false]
    by_cases h3 : digitB c.toNat = true
    · simp only [h3, if_true]
      by_cases h4 : (numF (s.extract i (i + wlen (c :: l))).toList).2 ≠ 0
      · simp [h4, bad]
      · simp [h4, shX]
    simp only [h3, if_false]
    by_cases h4 : c.toNat = 34
    · simp only [h4, if_true, textR, e1, hd]
      cases litR (s.toList.drop (i + 1)) with
      | none => simp [bad]
      | some k =>
        by_cases h5 : 100 < k
        · simp [h5, bad]
        · have e3 : i + 1 + f.length + k = i + 1 + k + f.length := by omega
          have e4 : i + f.length + k + 2 = i + k + 2 + f.length := by omega
          simp only [h5, if_false, e3, e4, hx]
          simp [shX]
    simp only [h4, if_false]
    by_cases h5 : markB c.toNat = true
    · simp [h5, shX]
    · simp [h5, bad]
def kaX (d : Nat) (x : LR) : (Int × ByteArray × Int) × Nat := (keyX x, x.a + d)
theorem scanG_pre {f : List UInt8} {s s' : ByteArray} (h : s'.toList = f ++ s.toList) : ∀ (n' n i : Nat), s.size < i + n → s.size < i + n' → i ≤ s.size → (scanG s' n' (i + f.length)).1 = (scanG s n i).1 ∧ (scanG s' n' (i + f.length)).2.1 = (if (scanG s n i).1 = 0 then (scanG s n i).2.1 else (scanG s n i).2.1 + f.length) ∧ (scanG s' n' (i + f.length)).2.2.map (kaX 0) = (scanG s n i).2.2.map (kaX f.length) := by
  have hd : ∀ k, s'.toList.drop (k + f.length) = s.toList.drop k := fun k => by rw [h, List.drop_append, List.drop_eq_nil_of_le (by omega), List.nil_append]; congr 1; omega
  have hz : s'.size = s.size + f.length := by rw [← size_list, h, List.length_append, size_list]; omega
  intro n'
  induction n' with
  | zero => intro n i h1 h2 h3; omega
  | succ n' ih =>
    intro n i h1 h2 h3
    cases n with
    | zero => omega
    | succ n =>
      by_cases hi : s.size ≤ i
      · rw [scanG_end n hi, scanG_end n' (by omega)]
        simp [kaX, keyX, endR, hz]
      · have hl := lexR_pre h i
        by_cases he : (lexR s i).e = 0
        · rw [if_pos he] at hl
          obtain ⟨g1, g2⟩ := lexR_next s i (by omega) he
          have en : (lexR s' (i + f.length)).nx = (lexR s i).nx + f.length := by rw [hl]; rfl
          have ee : (lexR s' (i + f.length)).e = 0 := by rw [hl]; exact he
          have hk := skN_le false (s.toList.drop (lexR s i).nx)
          rw [List.length_drop, size_list] at hk
          rw [scanG_ok n hi he rfl, scanG_ok n' (by omega) ee (j := (lexR s i).nx + skN false (s.toList.drop (lexR s i).nx) + f.length) (by rw [en, hd]; omega), hl]
          obtain ⟨q1, q2, q3⟩ := ih n ((lexR s i).nx + skN false (s.toList.drop (lexR s i).nx)) (by omega) (by omega) (by omega)
          refine ⟨q1, q2, ?_⟩
          simp only [q1]
          split
          · simp only [List.map_cons, q3]; simp [kaX, keyX, shX]
          · rfl
        · rw [if_neg he] at hl
          have ee : (lexR s' (i + f.length)).e = (lexR s i).e := by rw [hl]
          rw [scanG_err n hi he, scanG_err n' (by omega) (by rw [ee]; exact he), ee]
          simp [he]
theorem scanF_pre {f : List UInt8} {s s' : ByteArray} (h : s'.toList = f ++ s.toList) (hf : ∀ l, skN false (f ++ l) = f.length + skN false l) (hz : s'.size ≤ 4000) : (scanF s').1 = (scanF s).1 ∧ (scanF s').2.1 = (if (scanF s).1 = 0 then (scanF s).2.1 else (scanF s).2.1 + f.length) ∧ (scanF s').2.2.map (kaX 0) = (scanF s).2.2.map (kaX f.length) := by
  have hz' : s'.size = s.size + f.length := by rw [← size_list, h, List.length_append, size_list]; omega
  have hk := skN_le false s.toList
  rw [size_list] at hk
  unfold scanF
  rw [if_neg (by omega), if_neg (by omega), h, hf, Nat.add_comm f.length]
  exact scanG_pre h _ _ _ (by omega) (by omega) (by omega)
theorem ka_key {d : Nat} {L M : List LR} (h : M.map (kaX 0) = L.map (kaX d)) : M.map keyX = L.map keyX := by
  have := congrArg (List.map Prod.fst) h
  rw [List.map_map, List.map_map] at this
  exact this
theorem ka_at {d : Nat} {L M : List LR} (h : M.map (kaX 0) = L.map (kaX d)) {j : Nat} {x : LR} (hx : L[j]? = some x) : ∃ y, M[j]? = some y ∧ y.a = x.a + d := by
  have h2 : (M.map (kaX 0))[j]? = (L.map (kaX d))[j]? := by rw [h]
  rw [List.getElem?_map, List.getElem?_map, hx] at h2
  cases hm : M[j]? with
  | none => rw [hm] at h2; cases h2
  | some y =>
    rw [hm] at h2
    simp only [Option.map_some, kaX, Option.some.injEq, Prod.mk.injEq] at h2
    exact ⟨y, rfl, h2.2⟩
theorem pao_pre {f : List UInt8} {s s' : ByteArray} (h : s'.toList = f ++ s.toList) (hf : ∀ l, skN false (f ++ l) = f.length + skN false l) (hz : s'.size ≤ 4000) {e : Int} {a : Nat} {us : List Ru} (hp : PaO s e a us) : PaO s' e (if e = 0 then a else a + f.length) us := by
  obtain ⟨h1, h2, h3⟩ := scanF_pre h hf hz
  have k := (KeyL.of (ka_key h3)).symm
  cases hp with
  | scan h0 =>
    rw [if_neg h0]
    rw [if_neg h0] at h2
    rw [← h1, ← h2]
    exact .scan (by rw [h1]; exact h0)
  | @er e j x h0 he hr hx =>
    rw [if_neg he]
    obtain ⟨y, hy, ha⟩ := ka_at h3 hx
    rw [← ha]
    exact .er (by rw [h1]; exact h0) he (hr.key k) hy
  | ok h0 hr =>
    rw [if_pos rfl]
    exact .ok (by rw [h1]; exact h0) (hr.key k)
theorem skN_suf {r : List UInt8} (hr : skN true r = r.length) : ∀ (b : Bool) (l : List UInt8), skN b (l ++ 10 :: 35 :: r) = if skN b l = l.length then l.length + (2 + r.length) else skN b l
  | b, [] => by
    have h1 : skN b (10 :: 35 :: r) = skN true r + 2 := by
      cases b <;> simp [skN, blankB]
    simp only [List.nil_append, h1, hr, skN, List.length_nil, if_true]; omega
  | b, c :: l => by
    simp only [List.cons_append, skN, List.length_cons]
    by_cases hc : (b || (blankB c.toNat || decide (c.toNat = 35))) = true
    · simp only [hc, if_true]
      rw [skN_suf hr _ l]
      by_cases hh : skN ((b || decide (c.toNat = 35)) && !decide (c.toNat = 10)) l = l.length
      · rw [if_pos hh, if_pos (by omega)]; omega
      · rw [if_neg hh, if_neg (by omega)]
    · simp only [hc, if_false]
      rw [if_neg (by simp)]
      simp
theorem wlen_suf (r : List UInt8) : ∀ l, wlen (l ++ 10 :: r) = wlen l
  | [] => by simp [wlen, wordB, letterB, digitB]
  | c :: l => by simp only [List.cons_append, wlen, wlen_suf r l]
theorem litR_suf (r : List UInt8) : ∀ l, litR (l ++ 10 :: r) = litR l
  | [] => by simp [litR, badC]
  | c :: l => by simp only [List.cons_append, litR, litR_suf r l]
theorem pre2_suf (c : UInt8) (l r : List UInt8) : pre2 (c :: (l ++ 10 :: r)) = pre2 (c :: l) := by
  cases l with
  | nil => simp [pre2, List.isPrefixOf]
  | cons d l => simp [pre2, List.isPrefixOf]
theorem xt_suf {r : List UInt8} {s s' : ByteArray} (h : s'.toList = s.toList ++ r) {i j : Nat} (hj : j ≤ s.size) : s'.extract i j = s.extract i j := by
  apply ba_list
  rw [xt_list, xt_list, h, List.take_append_of_le_length (by rw [size_list]; exact hj)]
theorem litR_le : ∀ {l : List UInt8} {k : Nat}, litR l = some k → k + 1 ≤ l.length
  | [], k, h => by simp [litR] at h
  | c :: l, k, h => by
    simp only [litR] at h
    split at h
    · cases h; simp
    · split at h
      · cases h
      · split at h
        · rename_i q hq; cases h; have := litR_le hq; simp; omega
        · cases h
theorem lexR_suf {r : List UInt8} {s s' : ByteArray} (h : s'.toList = s.toList ++ 10 :: r) (i : Nat) (hi : i < s.size) : lexR s' i = lexR s i := by
  have hd : ∀ k, k ≤ s.size → s'.toList.drop k = s.toList.drop k ++ 10 :: r := fun k hk => by rw [h, List.drop_append_of_le_length (by rw [size_list]; exact hk)]
  obtain ⟨c, l, hl⟩ := drop_byte hi
  have hlen := congrArg List.length hl
  rw [List.length_drop, size_list, List.length_cons] at hlen
  have hw := wlen_le (c :: l)
  rw [List.length_cons] at hw
  unfold lexR
  rw [hd i (by omega), hl]
  have e5 : c :: l ++ 10 :: r = c :: (l ++ 10 :: r) := rfl
  have e6 : wlen (c :: (l ++ 10 :: r)) = wlen (c :: l) := wlen_suf r (c :: l)
  simp only [e5, pre2_suf, e6]
  rw [xt_suf h (j := i + wlen (c :: l)) (by omega), xt_suf h (j := i + 1) (by omega)]
  by_cases h1 : pre2 (c :: l) = true
  · simp only [h1, if_true]
    have : 0 < l.length := by
      simp only [pre2, Bool.or_eq_true] at h1
      rcases h1 with h1 | h1 <;> exact (isPre2 _ _ _ _ h1).2.2
    rw [xt_suf h (by omega)]
  have ht : textR s' i = textR s i := by
    unfold textR
    rw [hd (i + 1) (by omega), litR_suf]
    cases hq : litR (s.toList.drop (i + 1)) with
    | none => rfl
    | some k =>
      have := litR_le hq
      rw [List.length_drop, size_list] at this
      simp only
      rw [xt_suf h (by omega)]
  simp only [h1, if_false, ht, Bool.false_eq_true]
theorem scanG_suf {r : List UInt8} {s s' : ByteArray} (h : s'.toList = s.toList ++ 10 :: 35 :: r) (hr : skN true r = r.length) : ∀ (n' n i i' : Nat), s.size < i + n → s'.size < i' + n' → i ≤ s.size → i' = (if i = s.size then s'.size else i) →
    (scanG s' n' i').1 = (scanG s n i).1 ∧ (scanG s' n' i').2.2.map keyX = (scanG s n i).2.2.map keyX := by
  have hz : s'.size = s.size + (2 + r.length) := by rw [← size_list, h, List.length_append, size_list]; simp; omega
  have hd : ∀ k, k ≤ s.size → s'.toList.drop k = s.toList.drop k ++ 10 :: 35 :: r := fun k hk => by rw [h, List.drop_append_of_le_length (by rw [size_list]; exact hk)]
  intro n'
  induction n' with
  | zero => intro n i i' h1 h2 h3 h4; split at h4 <;> omega
  | succ n' ih =>
    intro n i i' h1 h2 h3 h4
    cases n with
    | zero => omega
    | succ n =>
      by_cases hi : i = s.size
      · rw [if_pos hi] at h4
        rw [scanG_end n (by omega), scanG_end n' (by omega)]
        simp [endR, keyX]
      · rw [if_neg hi] at h4
        subst h4
        have hl := lexR_suf h i' (by omega)
        by_cases he : (lexR s i').e = 0
        · obtain ⟨g1, g2⟩ := lexR_next s i' (by omega) he
          have hk := skN_le false (s.toList.drop (lexR s i').nx)
          rw [List.length_drop, size_list] at hk
          have hk2 := skN_le false (s'.toList.drop (lexR s i').nx)
          rw [List.length_drop, size_list] at hk2
          rw [scanG_ok n (by omega) he rfl, scanG_ok n' (by omega) (by rw [hl]; exact he) (j := (lexR s i').nx + skN false (s'.toList.drop (lexR s i').nx)) (by rw [hl]), hl]
          obtain ⟨q1, q2⟩ := ih n ((lexR s i').nx + skN false (s.toList.drop (lexR s i').nx)) ((lexR s i').nx + skN false (s'.toList.drop (lexR s i').nx)) (by omega) (by omega) (by omega) (by
            rw [hd _ g2, skN_suf hr, List.length_drop, size_list]
            by_cases hh : skN false (s.toList.drop (lexR s i').nx) = s.size - (lexR s i').nx
            · rw [if_pos hh, if_pos (by omega)]; omega
            · rw [if_neg hh, if_neg (by omega)])
          refine ⟨q1, ?_⟩
          simp only [q1]
          split
          · simp only [List.map_cons, q2]
          · rfl
        · rw [scanG_err n (by omega) he, scanG_err n' (by omega) (by rw [hl]; exact he), hl]
          exact ⟨rfl, rfl⟩
theorem scanF_suf {r : List UInt8} {s s' : ByteArray} (h : s'.toList = s.toList ++ 10 :: 35 :: r) (hr : skN true r = r.length) (hz : s'.size ≤ 4000) : (scanF s').1 = (scanF s).1 ∧ (scanF s').2.2.map keyX = (scanF s).2.2.map keyX := by
  have hz' : s'.size = s.size + (2 + r.length) := by rw [← size_list, h, List.length_append, size_list]; simp; omega
  have hk := skN_le false s.toList
  rw [size_list] at hk
  unfold scanF
  rw [if_neg (by omega), if_neg (by omega), h, skN_suf hr, size_list]
  refine scanG_suf h hr _ _ _ _ (by omega) (by split <;> omega) (by omega) ?_
  by_cases hh : skN false s.toList = s.size
  · rw [if_pos hh, if_pos hh]; omega
  · rw [if_neg hh, if_neg hh]
theorem pao_suf {r : List UInt8} {s s' : ByteArray} (h : s'.toList = s.toList ++ 10 :: 35 :: r) (hr : skN true r = r.length) (hz : s'.size ≤ 4000) {e : Int} {a : Nat} {us : List Ru} (hp : PaO s e a us) : ∃ a', PaO s' e a' us := by
  obtain ⟨h1, h2⟩ := scanF_suf h hr hz
  have k := (KeyL.of h2).symm
  cases hp with
  | scan h0 =>
    rw [← h1]
    exact ⟨_, .scan (by rw [h1]; exact h0)⟩
  | @er e j x h0 he hr' hx =>
    have hl := congrArg List.length h2
    rw [List.length_map, List.length_map] at hl
    have hj : j < (scanF s).2.2.length := (List.getElem?_eq_some_iff.1 hx).1
    exact ⟨_, .er (by rw [h1]; exact h0) he (hr'.key k) (List.getElem?_eq_getElem (by omega : j < (scanF s').2.2.length))⟩
  | ok h0 hr' => exact ⟨_, .ok (by rw [h1]; exact h0) (hr'.key k)⟩
theorem skN_rm2 : ∀ (r : List UInt8), (∀ c ∈ r, c.toNat ≠ 10) → skN true r = r.length
  | [], _ => rfl
  | c :: l, h => by
    have := skN_rm2 l fun d hd => h d (by simp [hd])
    have hc := h c (by simp)
    simp [skN, hc, this]
theorem skN_front : ∀ (r l : List UInt8), (∀ c ∈ r, c.toNat ≠ 10) → skN true (r ++ 10 :: l) = r.length + 1 + skN false l
  | [], l, _ => by simp [skN]; omega
  | c :: r, l, h => by
    have := skN_front r l fun d hd => h d (by simp [hd])
    have hc := h c (by simp)
    simp [skN, hc, this]; omega
theorem front_sk {r : List UInt8} (h : ∀ c ∈ r, c.toNat ≠ 10) (l : List UInt8) : skN false ([32, 9, 35, 32] ++ r ++ [10] ++ l) = ([32, 9, 35, 32] ++ r ++ [10]).length + skN false l := by
  have := skN_front r l h
  simp [skN, blankB, this]; omega
end Go.Proofs.YtgglccpckhpocaaDoor
