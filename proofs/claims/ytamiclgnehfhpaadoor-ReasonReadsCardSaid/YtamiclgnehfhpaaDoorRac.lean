/-
Reasons: what is read is valid; where an error lies.
Conditions: none.
-/
import Derived.Test.YtamiclgnehfhpaaDoorRtm
import Derived.Test.YtamiclgnehfhpaaDoorScX
namespace Go.Proofs.YtamiclgnehfhpaaDoor
open Go.Vm
set_option linter.unusedSimpArgs false
set_option linter.unusedVariables false
set_option maxHeartbeats 1000000
set_option maxRecDepth 20000
def NmL (L : List LR) : Prop := ∀ x ∈ L, x.k = 1 → nameF (bs (tx x)) = true
theorem name_wf {x : LR} (h : wfX x) (hk : x.k = 1) : nameF (bs (tx x)) = true := by
  rcases h with ⟨_, _, h16, hw, c, l, h1, h2⟩ | ⟨k, _⟩ | ⟨k, _⟩ | ⟨k, _⟩
  · simp only [nameF, tx, bs_size, bs_list, Bool.and_eq_true, decide_eq_true_eq]
    refine ⟨by rw [h1]; simp, h16, by rw [h1]; exact h2, hw⟩
  · omega
  · omega
  · omega
theorem scan_nm {s : ByteArray} (h0 : (scanF s).1 = 0) : NmL (scanF s).2.2 := by
  obtain ⟨K, e, hK, _⟩ := scan_out h0
  rw [e]
  intro x hx hk
  rcases List.mem_append.1 hx with h | h
  · exact name_wf (hK x h) hk
  · simp at h; subst h; simp [endR] at hk
theorem kindsG_snoc : ∀ (l dn : List Txt) (t : Txt), kindsG dn l = 0 → kindF t = true → t ∉ dn → t ∉ l → kindsG dn (l ++ [t]) = 0
  | [], dn, t, _, hk, h1, _ => by simp [kindsG, hk, h1]
  | x :: l, dn, t, h, hk, h1, h2 => by
    simp only [kindsG, List.cons_append] at h ⊢
    split at h
    · cases h
    rename_i q1
    split at h
    · cases h
    rename_i q2
    rw [if_neg q1, if_neg q2]
    simp only [List.mem_cons, not_or] at h2
    exact kindsG_snoc l (dn ++ [x]) t h hk (by simp only [List.mem_append, List.mem_singleton, not_or]; exact ⟨h1, h2.1⟩) h2.2
theorem kindsX_ok : ∀ (K : List LR) (i : Nat) (out : List Txt), NmL K → kindsG [] out = 0 → (kindsX K i out).1 = 0 → kindsG [] (kindsX K i out).2.2 = 0
  | [], i, out, _, h, _ => h
  | x :: K, i, out, hN, h, h0 => by
    simp only [kindsX] at h0 ⊢
    split at h0
    · rename_i q; rw [if_pos q]; exact h
    rename_i q
    rw [if_neg q]
    split at h0
    · cases h0
    rename_i q8
    rw [if_neg q8]
    split at h0
    · cases h0
    rename_i q7
    rw [if_neg q7]
    refine kindsX_ok K (i + 1) (out ++ [tx x]) (fun z hz => hN z (by simp [hz])) (kindsG_snoc out [] (tx x) h ?_ (by simp) q7) h0
    simp only [stopK, Bool.or_eq_true, Bool.not_eq_true', decide_eq_true_eq, decide_eq_false_iff_not, not_or, Decidable.not_not] at q
    simp only [kindF, hN x (by simp) q.1, q.2.1, q.2.2, decide_false, Bool.not_false, Bool.and_self]
theorem kindsW_ok {L : List LR} (hN : NmL L) {i : Nat} {w : Txt} (h : (kindsW L i w).1 = 0) : kindsE (kindsW L i w).2.2 = 0 := by
  have h8 := kindsW_len (L := L) (i := i) (w := w)
  unfold kindsE
  rw [if_neg (by omega)]
  unfold kindsW at h ⊢
  split at h
  · rename_i q
    rw [if_pos q]
    exact kindsX_ok _ _ [] (fun z hz => hN z (List.mem_of_mem_drop hz)) rfl h
  · cases h
theorem num_ok {x : LR} (h : numE x = 0) : okD x.n = true := by
  unfold numE at h
  split at h
  · cases h
  split at h
  · cases h
  simp only [okD, Bool.and_eq_true, decide_eq_true_eq]
  omega
theorem lxA_mem {L : List LR} {i : Nat} (h : (lxA L i).k ≠ 0) : lxA L i ∈ L := by
  unfold lxA at h ⊢
  rw [List.getD_eq_getElem?_getD] at h ⊢
  cases e : L[i]? with
  | none => rw [e] at h; exact absurd rfl h
  | some x => exact List.mem_of_getElem? e
theorem oneX_ok {L : List LR} (hN : NmL L) {i : Nat} {F : List Rn} (h : (oneX L i F).1 = 0) : OkR (oneX L i F).2.2 ∧ findR (oneX L i F).2.2.code F = none ∧ F.length < 32 := by
  revert h
  unfold oneX
  split
  · intro h; cases h
  split
  · intro h; cases h
  rename_i h32
  split
  · intro h; cases h
  rename_i hk1
  split
  · intro h; cases h
  rename_i hf
  split
  · rename_i q; intro h; exact absurd h q
  rename_i n1
  split
  · rename_i q; intro h; exact absurd h q
  rename_i n2
  split
  · rename_i q; intro h; exact absurd h q
  rename_i n3
  split
  · rename_i q; intro h; exact absurd h q
  rename_i n4
  unfold twoX
  split
  · rename_i q; intro h; exact absurd h q
  rename_i w1
  unfold thrX
  split
  · rename_i q; intro h; exact absurd h q
  rename_i w2
  split
  · intro h; cases h
  intro _
  have hk : (lxA L (i + 1)).k = 1 := by simpa using hk1
  have m1 := num_ok (Decidable.not_not.1 n1)
  have m2 := num_ok (Decidable.not_not.1 n2)
  have m3 := num_ok (Decidable.not_not.1 n3)
  have m4 := num_ok (Decidable.not_not.1 n4)
  refine ⟨⟨hN _ (lxA_mem (by omega)) hk, by simp only [okDs, m1, m2, m3, m4, Bool.and_self], kindsW_ok hN (Decidable.not_not.1 w1), kindsW_ok hN (Decidable.not_not.1 w2)⟩, by simpa using hf, by omega⟩
theorem findR_app (c : Txt) : ∀ (a b : List Rn), findR c (a ++ b) = (findR c a).or (findR c b)
  | [], b => by simp [findR]
  | r :: a, b => by
    simp only [List.cons_append, findR]
    split
    · simp
    · exact findR_app c a b
theorem chkG_snoc : ∀ (l dn : List Rn) (r : Rn), chkG dn l = 0 → OkR r → findR r.code (dn ++ l) = none → chkG dn (l ++ [r]) = 0
  | [], dn, r, _, ⟨h1, h2, h3, h4⟩, hf => by
    simp only [List.append_nil] at hf
    simp only [List.nil_append, chkG, h1, h2, h3, h4, hf]
    simp
  | x :: l, dn, r, h, ok, hf => by
    simp only [chkG, List.cons_append] at h ⊢
    split at h
    · cases h
    rename_i q1
    split at h
    · cases h
    rename_i q2
    split at h
    · cases h
    rename_i q3
    split at h
    · rename_i q; exact absurd h q
    rename_i q4
    split at h
    · rename_i q; exact absurd h q
    rename_i q5
    rw [if_neg q1, if_neg q2, if_neg q3, if_neg q4, if_neg q5]
    exact chkG_snoc l (dn ++ [x]) r h ok (by simpa using hf)
theorem parsG_ok {L : List LR} (hN : NmL L) : ∀ (n i : Nat) (out : List Rn), chkG [] out = 0 → out.length ≤ 32 → (parsG L n i out).1 = 0 → chkG [] (parsG L n i out).2.2 = 0 ∧ (parsG L n i out).2.2.length ≤ 32
  | 0, i, out, h, hl, _ => ⟨h, hl⟩
  | n + 1, i, out, h, hl, h0 => by
    simp only [parsG] at h0 ⊢
    split at h0
    · rename_i q; rw [if_pos q]; exact ⟨h, hl⟩
    rename_i q
    rw [if_neg q]
    split at h0
    · rename_i q2; exact absurd h0 q2
    rename_i q2
    rw [if_neg q2]
    obtain ⟨ok, hf, h32⟩ := oneX_ok hN (Decidable.not_not.1 q2)
    exact parsG_ok hN n _ _ (chkG_snoc out [] _ h ok (by simpa using hf)) (by simp; omega) h0
/-- What is accepted is valid. -/
theorem parse_ok {s : ByteArray} (h : (parseF s).1 = 0) : chkE (parseF s).2.2 = 0 := by
  unfold parseF at h ⊢
  split at h
  · rename_i q; exact absurd h q
  rename_i q
  rw [if_neg q]
  obtain ⟨h1, h2⟩ := parsG_ok (scan_nm (Decidable.not_not.1 q)) 33 0 [] rfl (by simp) h
  unfold chkE
  rw [if_neg (by omega)]
  exact h1
/-- Every reason of a valid table is found by its code. -/
theorem find_at : ∀ (l dn : List Rn), chkG dn l = 0 → ∀ r ∈ l, findR r.code (dn ++ l) = some r
  | [], _, _, r, hr => by cases hr
  | x :: l, dn, h, r, hr => by
    simp only [chkG] at h
    split at h
    · cases h
    split at h
    · cases h
    rename_i q2
    split at h
    · cases h
    split at h
    · rename_i q; exact absurd h q
    split at h
    · rename_i q; exact absurd h q
    rcases List.mem_cons.1 hr with e | e
    · subst e
      have : findR r.code dn = none := by simpa using q2
      rw [findR_app, this]
      simp [findR]
    · have := find_at l (dn ++ [x]) h r e
      simpa using this
theorem chkE_find {F : List Rn} (h : chkE F = 0) : ∀ r ∈ F, findR r.code F = some r := by
  unfold chkE at h
  split at h
  · cases h
  · simpa using find_at F [] h
/-! ### Where an error lies -/
theorem lexR_a (s : ByteArray) (i : Nat) : (lexR s i).a ≤ i := by
  unfold lexR
  split
  · simp [bad]
  unfold textR
  repeat' split
  all_goals simp [bad]
theorem scanG_at (s : ByteArray) : ∀ f i, (scanG s f i).2.1 ≤ s.size ∧ ∀ x ∈ (scanG s f i).2.2, x.a ≤ s.size
  | 0, i => by simp [scanG]
  | f + 1, i => by
    simp only [scanG]
    split
    · simp [endR]
    rename_i hi
    split
    · simp; omega
    obtain ⟨h1, h2⟩ := scanG_at s f ((lexR s i).nx + skN false (s.toList.drop (lexR s i).nx))
    refine ⟨h1, fun x hx => ?_⟩
    simp only at hx
    split at hx
    · rcases List.mem_cons.1 hx with e | e
      · subst e; have := lexR_a s i; omega
      · exact h2 x e
    · cases hx
theorem scanF_at (s : ByteArray) : (scanF s).2.1 ≤ s.size ∧ ∀ x ∈ (scanF s).2.2, x.a ≤ s.size := by
  unfold scanF
  split
  · simp
  · exact scanG_at s _ _
theorem lxA_at {L : List LR} {m : Nat} (h : ∀ x ∈ L, x.a ≤ m) (i : Nat) : (lxA L i).a ≤ m := by
  unfold lxA
  rw [List.getD_eq_getElem?_getD]
  cases e : L[i]? with
  | none => simp
  | some x => exact h x (List.mem_of_getElem? e)
theorem parsG_at {L : List LR} {m : Nat} (h : ∀ x ∈ L, x.a ≤ m) : ∀ (n i : Nat) (out : List Rn), 0 ≤ (parsG L n i out).2.1 ∧ (parsG L n i out).2.1 ≤ m ∧ ((parsG L n i out).1 ≠ 0 → (parsG L n i out).2.2 = [])
  | 0, i, out => by simp [parsG]
  | n + 1, i, out => by
    simp only [parsG]
    split
    · simp
    split
    · have := lxA_at h (oneX L i out).2.1
      simp only
      exact ⟨by omega, by omega, fun _ => trivial⟩
    · exact parsG_at h n _ _
theorem parseF_at (s : ByteArray) : 0 ≤ (parseF s).2.1 ∧ (parseF s).2.1 ≤ s.size ∧ ((parseF s).1 ≠ 0 → (parseF s).2.2 = []) := by
  obtain ⟨h1, h2⟩ := scanF_at s
  unfold parseF
  split
  · simp only
    exact ⟨by omega, by omega, fun _ => trivial⟩
  · exact parsG_at h2 _ _ _
/-! ### The text of a table -/
theorem fmt_nil {F : List Rn} : fmtF F = [] ↔ F = [] := by
  cases F with
  | nil => simp [fmtF]
  | cons r F => simp [fmtF, fmtL]
end Go.Proofs.YtamiclgnehfhpaaDoor
