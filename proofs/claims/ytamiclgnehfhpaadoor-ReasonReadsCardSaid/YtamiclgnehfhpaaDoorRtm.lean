/-
Reasons: what is read back, and what is read is valid.
Conditions: none.
-/
import Derived.Test.YtamiclgnehfhpaaDoorRtl
namespace Go.Proofs.YtamiclgnehfhpaaDoor
open Go.Vm
set_option linter.unusedSimpArgs false
set_option linter.unusedVariables false
set_option maxHeartbeats 1000000
set_option maxRecDepth 20000
/-- From the i-th on there are these lexemes. -/
def AtK (L : List LR) (i : Nat) (X : List LR) : Prop := ∀ (j : Nat) (x : LR), X[j]? = some x → ∃ y, L[i + j]? = some y ∧ keyX y = keyX x
theorem AtK.app {L : List LR} {i : Nat} {X Y : List LR} (h : AtK L i (X ++ Y)) : AtK L i X ∧ AtK L (i + X.length) Y := by
  refine ⟨fun j x hx => h j x (by rw [List.getElem?_append_left (List.getElem?_eq_some_iff.1 hx).1]; exact hx), fun j x hx => ?_⟩
  have := h (X.length + j) x (by rw [List.getElem?_append_right (by omega)]; simpa using hx)
  rwa [← Nat.add_assoc] at this
theorem AtK.lx {L : List LR} {i : Nat} {X : List LR} (h : AtK L i X) {j : Nat} {x : LR} (hx : X[j]? = some x) : (lxA L (i + j)).k = x.k ∧ (lxA L (i + j)).t = x.t ∧ (lxA L (i + j)).n = x.n := by
  obtain ⟨y, hy, hk⟩ := h j x hx
  rw [lxA_of hy]
  simpa only [keyX, Prod.mk.injEq] using hk
theorem AtK.head {L : List LR} {i : Nat} {x : LR} {X : List LR} (h : AtK L i (x :: X)) : ∃ y, L[i]? = some y ∧ y.k = x.k ∧ y.t = x.t ∧ AtK L (i + 1) X := by
  obtain ⟨y, hy, hk⟩ := h 0 x rfl
  simp only [keyX, Prod.mk.injEq] at hk
  refine ⟨y, by simpa using hy, hk.1, hk.2.1, fun j z hz => ?_⟩
  have := h (j + 1) z (by simpa using hz)
  rwa [show i + (j + 1) = i + 1 + j by omega] at this
theorem drop_at {α : Type} {L : List α} {i : Nat} {y : α} (h : L[i]? = some y) : L.drop i = y :: L.drop (i + 1) := by
  have hi := (List.getElem?_eq_some_iff.1 h).1
  rw [List.drop_eq_getElem_cons hi]
  congr 1
  exact (List.getElem?_eq_some_iff.1 h).2
theorem kinds_at : ∀ (ts : List Txt) (L : List LR) (i : Nat) (out : List Txt) (stop : LR), AtK L i (ts.map nmX ++ [stop]) → stopK stop = true → (∀ t ∈ ts, kindF t = true) → (out ++ ts).Nodup → out.length + ts.length ≤ 8 → kindsX (L.drop i) i out = (0, i + ts.length, out ++ ts)
  | [], L, i, out, stop, h, hs, _, _, _ => by
    obtain ⟨y, hy, e1, e2, _⟩ := AtK.head (X := []) (by simpa using h)
    rw [drop_at hy]
    have : stopK y = true := by
      unfold stopK tx at hs ⊢
      rw [e1, e2]; exact hs
    simp only [kindsX, this, if_true, List.length_nil, Nat.add_zero, List.append_nil]
  | t :: ts, L, i, out, stop, h, hs, hk, hn, hl => by
    obtain ⟨y, hy, e1, e2, h'⟩ := AtK.head (x := nmX t) (X := ts.map nmX ++ [stop]) (by simpa using h)
    rw [drop_at hy]
    have htx : tx y = t := by unfold tx; rw [e2]; exact bs_list t
    have hkt := hk t (by simp)
    simp only [kindF, Bool.and_eq_true, Bool.not_eq_true', decide_eq_false_iff_not] at hkt
    have hst : stopK y = false := by
      unfold stopK
      rw [htx, e1]
      simp [nmX, hkt.2.1, hkt.2.2]
    have hni : t ∉ out := by
      intro hm
      rw [List.nodup_append] at hn
      exact hn.2.2 t hm t (by simp) rfl
    simp only [List.length_cons] at hl
    simp only [kindsX, hst, Bool.false_eq_true, if_false, htx]
    rw [if_neg (by omega), if_neg hni, kinds_at ts L (i + 1) (out ++ [t]) stop h' hs (fun z hz => hk z (by simp [hz])) (by simpa using hn) (by simp; omega)]
    simp only [List.append_assoc, List.cons_append, List.nil_append, List.length_cons, Prod.mk.injEq, and_true, true_and]
    omega
theorem kindsG_nodup : ∀ (l dn : List Txt), kindsG dn l = 0 → dn.Nodup → (dn ++ l).Nodup
  | [], dn, _, h => by simpa using h
  | x :: l, dn, h, hd => by
    simp only [kindsG] at h
    split at h
    · cases h
    split at h
    · cases h
    rename_i q1 q2
    have := kindsG_nodup l (dn ++ [x]) h (by rw [List.nodup_append]; exact ⟨hd, by simp, fun a ha b hb => by simp at hb; subst hb; exact fun e => q2 (e ▸ ha)⟩)
    simpa using this
theorem kindsE_nodup {l : List Txt} (h : kindsE l = 0) : l.Nodup := by
  unfold kindsE at h
  split at h
  · cases h
  · simpa using kindsG_nodup l [] h (by simp)
theorem isL_of {x : LR} {k : Int} {t : ByteArray} (h1 : x.k = k) (h2 : x.t = t) : isL x k t = true := by simp [isL, h1, h2]
theorem kindsW_at {L : List LR} {i : Nat} {w : Txt} {ts : List Txt} {stop : LR} (h : AtK L i ([nmX w] ++ (ts.map nmX ++ [stop]))) (hs : stopK stop = true) (hk : kindsE ts = 0) : kindsW L i w = (0, i + 1 + ts.length, ts) := by
  obtain ⟨y, hy, e1, e2, h'⟩ := AtK.head (x := nmX w) h
  have hkk := kindsE_out hk
  unfold kindsW
  have e : isL y 1 (bs w) = true := isL_of e1 e2
  rw [lxA_of hy, e, if_pos rfl]
  have := kinds_at ts L (i + 1) [] stop h' hs (fun t ht => (hkk.2 t ht).1) (by simpa using kindsE_nodup hk) (by simpa using hkk.1)
  simpa using this
theorem tx_of {x : LR} {t : Txt} (h : x.t = bs t) : tx x = t := by unfold tx; rw [h]; exact bs_list t
theorem num_of {x : LR} {n : Int} (h1 : x.k = 2) (h2 : x.n = n) (h3 : okD n = true) : numE x = 0 := by
  simp only [okD, Bool.and_eq_true, decide_eq_true_eq] at h3
  unfold numE
  rw [if_neg (by simp [h1]), if_neg (by omega)]
theorem one_at {L : List LR} {i : Nat} {r : Rn} {G : List Rn} (h : AtK L i (lexsX r)) (ok : OkR r) (hf : (findR r.code G).isSome = false) (hl : G.length < 32) : oneX L i G = (0, i + (lexsX r).length, r) := by
  obtain ⟨o1, o2, o3, o4⟩ := ok
  simp only [okDs, Bool.and_eq_true] at o2
  have h' : AtK L i ([nmX reasonT, nmX r.code, nuX r.d1, nuX r.d2, nuX r.d3, nuX r.d4] ++ ([nmX claimT] ++ (r.cl.map nmX ++ [nmX defenceT]) ++ (r.df.map nmX ++ [mkX [59]]))) := by
    simpa only [lexsX, wordsX, List.append_assoc, List.cons_append, List.nil_append] using h
  obtain ⟨ha, hb⟩ := h'.app
  have a0 := ha.lx (j := 0) rfl
  have a1 := ha.lx (j := 1) rfl
  have a2 := ha.lx (j := 2) rfl
  have a3 := ha.lx (j := 3) rfl
  have a4 := ha.lx (j := 4) rfl
  have a5 := ha.lx (j := 5) rfl
  simp only [Nat.add_zero] at a0
  simp only [List.length_cons, List.length_nil, Nat.zero_add, Nat.reduceAdd] at hb
  obtain ⟨hc, hd⟩ := hb.app
  have w1 := kindsW_at (w := claimT) (ts := r.cl) (stop := nmX defenceT) hc (by decide +kernel) o3
  have hd2 : AtK L (i + 6 + 1 + r.cl.length) ([nmX defenceT] ++ (r.df.map nmX ++ [mkX [59]])) := by
    have h3 : AtK L (i + 6) (([nmX claimT] ++ r.cl.map nmX) ++ ([nmX defenceT] ++ (r.df.map nmX ++ [mkX [59]]))) := by
      simpa only [List.append_assoc, List.cons_append, List.nil_append] using hb
    have := h3.app.2
    simpa [Nat.add_assoc, Nat.add_comm, Nat.add_left_comm] using this
  have w2 := kindsW_at (w := defenceT) (ts := r.df) (stop := mkX [59]) hd2 (by decide +kernel) o4
  have hm := (show AtK L (i + 6 + 1 + r.cl.length) (([nmX defenceT] ++ r.df.map nmX) ++ [mkX [59]]) by simpa only [List.append_assoc] using hd2).app.2.lx (j := 0) rfl
  have hmi : i + 6 + 1 + r.cl.length + ([nmX defenceT] ++ r.df.map nmX).length + 0 = i + 6 + 1 + r.cl.length + 1 + r.df.length := by simp; omega
  rw [hmi] at hm
  have m1 : isL (lxA L i) 1 (bs reasonT) = true := isL_of a0.1 a0.2.1
  have m6 : isL (lxA L (i + 6 + 1 + r.cl.length + 1 + r.df.length)) 4 ⟨#[59]⟩ = true := isL_of hm.1 hm.2.1
  unfold oneX
  rw [if_neg (by rw [m1]; simp), if_neg (by omega), if_neg (by rw [a1.1]; simp [nmX]), tx_of a1.2.1, if_neg (by rw [hf]; simp),
    if_neg (by rw [num_of a2.1 a2.2.2 o2.1]; simp), if_neg (by rw [num_of a3.1 a3.2.2 o2.2.1]; simp), if_neg (by rw [num_of a4.1 a4.2.2 o2.2.2.1]; simp), if_neg (by rw [num_of a5.1 a5.2.2 o2.2.2.2]; simp), w1]
  unfold twoX
  rw [if_neg (by simp), w2]
  unfold thrX
  rw [if_neg (by simp)]
  simp only
  rw [m6, if_neg (by simp), a2.2.2, a3.2.2, a4.2.2, a5.2.2]
  simp only [lexsX, wordsX, nuX, List.length_append, List.length_cons, List.length_nil, List.length_map, Prod.mk.injEq, and_true, true_and]
  omega
theorem parse_at : ∀ (F G : List Rn) (L : List LR) (n i : Nat) (e : LR), AtK L i (F.flatMap lexsX ++ [e]) → e.k = 0 → n + G.length = 33 → G.length + F.length ≤ 32 → chkG G F = 0 → parsG L n i G = (0, 0, G ++ F)
  | [], G, L, n, i, e, h, he, hn, hl, _ => by
    obtain ⟨y, hy, e1, _, _⟩ := AtK.head (X := []) (by simpa using h)
    obtain ⟨m, rfl⟩ : ∃ m, n = m + 1 := ⟨n - 1, by simp at hl; omega⟩
    simp only [parsG]
    rw [lxA_of hy, if_pos (by rw [e1]; exact he), List.append_nil]
  | r :: F, G, L, n, i, e, h, he, hn, hl, hc => by
    simp only [List.length_cons] at hl
    obtain ⟨m, rfl⟩ : ∃ m, n = m + 1 := ⟨n - 1, by omega⟩
    have ok := chk_out (r :: F) G hc r (by simp)
    have h2 : AtK L i (lexsX r ++ (F.flatMap lexsX ++ [e])) := by simpa only [List.flatMap_cons, List.append_assoc] using h
    obtain ⟨ha, hb⟩ := h2.app
    have hk : (lxA L i).k ≠ 0 := by
      have := ha.lx (j := 0) (x := nmX reasonT) rfl
      simp only [Nat.add_zero] at this
      rw [this.1]; simp [nmX]
    simp only [chkG] at hc
    split at hc
    · cases hc
    split at hc
    · cases hc
    rename_i hf
    have hf' : (findR r.code G).isSome = false := by simpa using hf
    split at hc
    · cases hc
    split at hc
    · rename_i q; exact absurd hc q
    split at hc
    · rename_i q; exact absurd hc q
    have o := one_at ha ok hf' (by omega)
    simp only [parsG]
    rw [if_neg hk, o, if_neg (by simp)]
    simp only
    rw [parse_at F (G ++ [r]) L m (i + (lexsX r).length) e hb he (by simp; omega) (by simp; omega) hc]
    simp
/-- A valid table is read back from its text. -/
theorem parse_fmt {F : List Rn} (h : chkE F = 0) (hl : (fmtF F).length ≤ 4000) : parseF (bs (fmtF F)) = (0, 0, F) := by
  obtain ⟨h32, hok⟩ := chkE_out h
  have hG : chkG [] F = 0 := by
    unfold chkE at h
    rw [if_neg (by omega)] at h
    exact h
  obtain ⟨K, k1, k2⟩ := scan_fmt hok hl
  unfold parseF
  rw [k1]
  simp only [ne_eq, not_true_eq_false, if_false]
  have := parse_at F [] (K ++ [endR (bs (fmtF F))]) 33 0 (endR (bs (fmtF F))) (fun j x hx => ?_) rfl rfl (by simpa using h32) hG
  · simpa using this
  · have hm : ((K ++ [endR (bs (fmtF F))]).map keyX)[j]? = ((F.flatMap lexsX ++ [endR (bs (fmtF F))]).map keyX)[j]? := by rw [List.map_append, List.map_append, k2]
    rw [List.getElem?_map, List.getElem?_map, hx] at hm
    cases hy : (K ++ [endR (bs (fmtF F))])[j]? with
    | none => rw [hy] at hm; cases hm
    | some y => rw [hy] at hm; simp at hm; exact ⟨y, by rw [Nat.zero_add]; exact hy, hm⟩
end Go.Proofs.YtamiclgnehfhpaaDoor
