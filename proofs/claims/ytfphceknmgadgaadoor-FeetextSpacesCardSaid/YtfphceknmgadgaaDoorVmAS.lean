/-
The second evaluator is sound: what it says of the known blocks the first one says of every heap that fits.
Conditions: none. Generic: it speaks of no program.
-/
import Derived.Test.YtfphceknmgadgaaDoorVmA
set_option linter.unusedSimpArgs false
set_option linter.unusedVariables false
namespace Go.Vm
theorem Sat.nil (h : Heap) : Sat [] h := fun _ _ hb => by cases hb
theorem Sat.none_of_size {A : AH} {h : Heap} (hs : Sat A h) {b : Nat} (hb : h.size ≤ b) : look A b = none := by
  cases hl : look A b with
  | none => rfl
  | some o => have := hs b o hl; rw [Array.getElem?_eq_none hb] at this; cases this
theorem Sat.lt {A : AH} {h : Heap} (hs : Sat A h) {b : Nat} {o : Obj} (hl : look A b = some o) : b < h.size := by
  have := hs b o hl
  rcases Nat.lt_or_ge b h.size with h1 | h1
  · exact h1
  · rw [Array.getElem?_eq_none h1] at this; cases this
theorem Sat.grew {A : AH} {h h' : Heap} (hs : Sat A h) (g : Grew h h') : Sat A h' := fun b o hl => g.get (hs b o hl)
theorem Sat.ex (A : AH) : ∃ h, Sat A h := by
  have hN : ∃ N, ∀ b o, look A b = some o → b < N := by
    induction A with
    | nil => exact ⟨0, fun b o h => by cases h⟩
    | cons p A ih =>
      obtain ⟨N, hN⟩ := ih
      refine ⟨max N (p.1 + 1), fun b o h => ?_⟩
      simp only [look] at h
      split at h
      · omega
      · have := hN b o h; omega
  obtain ⟨N, hN⟩ := hN
  refine ⟨(Array.range N).map fun i => (look A i).getD (.cells #[] 0), fun b o hl => ?_⟩
  have hb := hN b o hl
  simp [hb, hl]
theorem Keep.refl (A : AH) (h : Heap) : Keep A h A h := ⟨Nat.le_refl _, fun _ _ hl => ⟨rfl, hl⟩⟩
theorem Keep.trans {A B C : AH} {h1 h2 h3 : Heap} (k1 : Keep A h1 B h2) (k2 : Keep B h2 C h3) : Keep A h1 C h3 := ⟨Nat.le_trans k1.1 k2.1, fun b hb hl => by
  obtain ⟨e1, l1⟩ := k1.2 b hb hl
  obtain ⟨e2, l2⟩ := k2.2 b (Nat.lt_of_lt_of_le hb k1.1) l1
  exact ⟨e2.trans e1, l2⟩⟩
theorem Keep.grew {A : AH} {h h' : Heap} (g : Grew h h') : Keep A h A h' := ⟨g.le, fun b hb hl => ⟨g.old b hb, hl⟩⟩
theorem Keep.to_grew {h h' : Heap} {A' : AH} (k : Keep [] h A' h') : Grew h h' := ⟨k.1, fun b hb => (k.2 b hb rfl).1⟩
theorem SubA.refl (A : AH) : SubA A A := fun _ _ h => h
theorem SubA.none {A' A : AH} (hs : SubA A' A) {b : Nat} (h : look A b = none) : look A' b = none := by
  cases hl : look A' b with
  | none => rfl
  | some o => rw [hs b o hl] at h; cases h
theorem Sat.sub {A' A : AH} {h : Heap} (hs : SubA A' A) (hA : Sat A h) : Sat A' h := fun b o hl => hA b o (hs b o hl)
theorem Keep.sub {A B B' : AH} {h h' : Heap} (k : Keep A h B h') (hs : SubA B' B) : Keep A h B' h' := ⟨k.1, fun b hb hl => ⟨(k.2 b hb hl).1, hs.none (k.2 b hb hl).2⟩⟩
theorem look_putB (A : AH) (x : Nat) (u : Obj) (b : Nat) : look (putB A x u) b = if b = x then (look A b).map fun _ => u else look A b := by
  induction A with
  | nil => simp [putB, look]
  | cons p A ih =>
    simp only [putB]
    split
    · rename_i e
      subst e
      simp only [look]
      by_cases hb : p.1 = b
      · simp [hb]
      · have : ¬ b = p.1 := fun e => hb e.symm
        simp [hb, this]
    · rename_i e
      simp only [look, ih]
      by_cases hb : p.1 = b
      · subst hb; simp [e]
      · simp [hb]
theorem rdCS_some {o : Option Obj} {i n : Nat} {c : Array Value} (h : rdCS o i n = some c) : ∃ cs e fr, o = some (.cells cs e fr) := by
  unfold rdCS at h
  split at h
  · exact ⟨_, _, _, rfl⟩
  · cases h
theorem cellS_some {o : Option Obj} {i : Nat} {v : Value} (h : cellS o i = some v) : ∃ cs e fr, o = some (.cells cs e fr) := by
  unfold cellS at h
  split at h
  · exact ⟨_, _, _, rfl⟩
  · cases h
theorem rdVarA_to {P : Program} {A : AH} {h : Heap} (hs : Sat A h) {t : TypeId} {a : Addr} {v : Value} (hr : rdVarA P A t a = some v) : rdVar P h t a = some v := by
  obtain ⟨b, off, spot⟩ := a
  unfold rdVarA rdA at hr
  unfold rdVar
  split at hr
  · rename_i n hsh
    rw [hsh]
    simp only at hr ⊢
    split at hr
    · rename_i e
      subst e
      unfold aggO at hr
      split at hr
      · rename_i c hc
        obtain ⟨cs, e, fr, ho⟩ := rdCS_some hc
        rw [rdCells_eq, hs _ _ ho, ← ho, hc]
        exact hr
      · cases hr
    · cases hr
  · rename_i n hsh
    rw [hsh]
    simp only at hr ⊢
    split at hr
    · rename_i e
      subst e
      obtain ⟨cs, e, fr, ho⟩ := cellS_some hr
      rw [cellH_eq, hs _ _ ho, ← ho]
      exact hr
    · cases hr
  · cases hr
theorem resLA_to {P : Program} {A : AH} {h : Heap} {ρ : Env} (hs : Sat A h) : ∀ {rs : List ResultVar} {vs : List Value}, resLA P ρ A rs = some vs → resL P ρ h rs = some vs
  | [], vs, hr => by simpa [resLA, resL] using hr
  | r :: rs, vs, hr => by
    simp only [resLA] at hr
    simp only [resL]
    have h1 : ∀ {v}, resOA P ρ A r = some v → resO P ρ h r = some v := by
      intro v hv
      cases r with
      | tmp t => exact hv
      | cell s ty =>
        simp only [resOA] at hv
        simp only [resO, oRd]
        split at hv
        · rename_i a ha; rw [ha]; exact rdVarA_to hs hv
        · cases hv
    cases hr1 : resOA P ρ A r with
    | none => simp [hr1, consL] at hr
    | some v => cases hl : resLA P ρ A rs with
      | none => simp [hr1, hl, consL] at hr
      | some us =>
        rw [h1 hr1, resLA_to hs hl]
        simpa [hr1, hl] using hr
theorem bnd_iff {α : Type} {o : Option α} {v : α} (h : o = some v) (K : α → Prop) : bnd o K ↔ K v := by subst h; exact Iff.rfl
theorem need_iff {c K : Prop} (h : c) : need c K ↔ K := ⟨fun x => x.2, fun x => ⟨h, x⟩⟩
theorem binW_det {P : Program} {op : BinOp} {t : TypeId} {x y : Value} {K0 : Value → Prop} (h : binW P op t x y K0) : ∃ v, ∀ K : Value → Prop, binW P op t x y K ↔ K v := by
  unfold binW at h
  split at h
  · split at h
    all_goals first
      | (obtain ⟨rfl, _⟩ := h; exact ⟨_, fun K => by simp only [binW, need, true_and]⟩)
      | (obtain ⟨⟨rfl, hb⟩, _⟩ := h; exact ⟨_, fun K => by simp only [binW, need, true_and]; exact ⟨fun q => q.2, fun q => ⟨hb, q⟩⟩⟩)
      | (obtain ⟨hb, _⟩ := h; exact ⟨_, fun K => by simp only [binW, need]; exact ⟨fun q => q.2, fun q => ⟨hb, q⟩⟩⟩)
  · split at h
    all_goals first
      | exact h.elim
      | (obtain ⟨hb, _⟩ := h; exact ⟨_, fun K => by simp only [binW, need]; exact ⟨fun q => q.2, fun q => ⟨hb, q⟩⟩⟩)
      | exact ⟨_, fun K => Iff.rfl⟩
  · rename_i n1 n2
    split at h
    · obtain ⟨h1, h2⟩ := h
      obtain ⟨b, hb, _⟩ := bnd_out h2
      refine ⟨.bool b, fun K => ?_⟩
      have e : binW P .eql t x y K = need (eqOk P t x y = true) (bnd (eqV P 10000 t x y) fun b => K (.bool b)) := by
        unfold binW
        split
        · exact (n1 _ _ _ _ rfl rfl).elim
        · exact (n2 _ _ rfl rfl).elim
        · rfl
      rw [e, need_iff h1, bnd_iff hb]
    · obtain ⟨h1, h2⟩ := h
      obtain ⟨b, hb, _⟩ := bnd_out h2
      refine ⟨.bool (!b), fun K => ?_⟩
      have e : binW P .neq t x y K = need (eqOk P t x y = true) (bnd (eqV P 10000 t x y) fun b => K (.bool (!b))) := by
        unfold binW
        split
        · exact (n1 _ _ _ _ rfl rfl).elim
        · exact (n2 _ _ rfl rfl).elim
        · rfl
      rw [e, need_iff h1, bnd_iff hb]
    · exact h.elim
theorem idxW_det {P : Program} {t : TypeId} {x i : Value} {K0 : Value → Prop} (h : idxW P t x i K0) : ∃ v, ∀ K : Value → Prop, idxW P t x i K ↔ K v := by
  unfold idxW at h
  split at h
  · obtain ⟨h1, h2⟩ := h
    obtain ⟨b, hb, _⟩ := bnd_out h2
    exact ⟨_, fun K => by simp only [idxW]; rw [need_iff h1, bnd_iff hb]⟩
  · split at h
    · rename_i len e hu
      obtain ⟨h1, h2⟩ := h
      obtain ⟨s, hs, h2⟩ := bnd_out h2
      obtain ⟨v, hv, _⟩ := bnd_out h2
      exact ⟨v, fun K => by simp only [idxW, hu]; rw [need_iff h1, bnd_iff hs, bnd_iff hv]⟩
    · exact h.elim
  · exact h.elim
theorem ixaW_det {P : Program} {t : TypeId} {x i : Value} {K0 : Value → Prop} (h : ixaW P t x i K0) : ∃ v, ∀ K : Value → Prop, ixaW P t x i K ↔ K v := by
  unfold ixaW at h
  split at h
  · obtain ⟨e, he, h1⟩ := bnd_out h
    exact ⟨_, fun K => by simp only [ixaW]; rw [bnd_iff he, need_iff h1.1]⟩
  · split at h
    · rename_i len e hu
      obtain ⟨s, hs, h1⟩ := bnd_out h
      exact ⟨_, fun K => by simp only [ixaW, hu]; rw [bnd_iff hs, need_iff h1.1]⟩
    · exact h.elim
  · exact h.elim
theorem slW_det {P : Program} {t : TypeId} {x : Value} {lo hi : Option Value} {K0 : Value → Prop} (h : slW P t x lo hi K0) : ∃ v, ∀ K : Value → Prop, slW P t x lo hi K ↔ K v := by
  unfold slW at h
  split at h
  · obtain ⟨l, hl, h⟩ := bnd_out h
    obtain ⟨r, hr, h⟩ := bnd_out h
    exact ⟨_, fun K => by simp only [slW]; rw [bnd_iff hl, bnd_iff hr, need_iff h.1]⟩
  · obtain ⟨e, he, h⟩ := bnd_out h
    obtain ⟨l, hl, h⟩ := bnd_out h
    obtain ⟨r, hr, h⟩ := bnd_out h
    exact ⟨_, fun K => by simp only [slW]; rw [bnd_iff he, bnd_iff hl, bnd_iff hr, need_iff h.1]⟩
  · exact h.elim
theorem slW3_det {P : Program} {t : TypeId} {x mx : Value} {lo hi : Option Value} {K0 : Value → Prop} (h : slW3 P t x lo hi mx K0) : ∃ v, ∀ K : Value → Prop, slW3 P t x lo hi mx K ↔ K v := by
  unfold slW3 at h
  split at h
  · obtain ⟨e, he, h⟩ := bnd_out h
    obtain ⟨l, hl, h⟩ := bnd_out h
    obtain ⟨r, hr, h⟩ := bnd_out h
    obtain ⟨m, hm, h⟩ := bnd_out h
    exact ⟨_, fun K => by simp only [slW3]; rw [bnd_iff he, bnd_iff hl, bnd_iff hr, bnd_iff hm, need_iff h.1]⟩
  · exact h.elim
theorem freeV {P : Program} {op : Op} {ty : TypeId} {ρ : Env} {h0 : Heap} {K0 : Value → Heap → Prop} (hq : freeOp P op = true) (hnc : ∀ s d x, op ≠ .convert s d x) (hp : opW P op ty ρ h0 K0) :
    ∃ v, ∀ (h : Heap) (K : Value → Heap → Prop), opW P op ty ρ h K ↔ K v h := by
  unfold opW at hp
  split at hp
  · obtain ⟨v, hv, _⟩ := bnd_out hp
    exact ⟨v, fun h K => by simp only [opW]; rw [bnd_iff hv]⟩
  · obtain ⟨v, hv, _⟩ := bnd_out hp
    exact ⟨v, fun h K => by simp only [opW]; rw [bnd_iff hv]⟩
  · obtain ⟨v, hv, hp⟩ := bnd_out hp
    unfold ifV at hp
    split at hp
    · rename_i b
      cases b with
      | true =>
        obtain ⟨u, hu, _⟩ := bnd_out (hp.1 rfl)
        exact ⟨u, fun h K => by simp only [opW]; rw [bnd_iff hv]; simp only [ifV, ifB_true]; rw [bnd_iff hu]⟩
      | false =>
        obtain ⟨u, hu, _⟩ := bnd_out (hp.2 rfl)
        exact ⟨u, fun h K => by simp only [opW]; rw [bnd_iff hv]; simp only [ifV, ifB_false]; rw [bnd_iff hu]⟩
    · exact hp.elim
  · cases hq
  · cases hq
  · obtain ⟨vs, hv, hp⟩ := bnd_out hp
    obtain ⟨v, hb, _⟩ := bnd_out hp
    exact ⟨v, fun h K => by simp only [opW]; rw [bnd_iff hv, bnd_iff hb]⟩
  · cases hq
  · cases hq
  · cases hq
  · obtain ⟨p, hp1, hp⟩ := bnd_out hp
    obtain ⟨ad, ha, _⟩ := bnd_out hp
    exact ⟨p, fun h K => by simp only [opW]; rw [bnd_iff hp1, bnd_iff ha]⟩
  · obtain ⟨u, hu, hp⟩ := bnd_out hp
    obtain ⟨v, hv, hp⟩ := bnd_out hp
    obtain ⟨r, hr⟩ := binW_det hp
    exact ⟨r, fun h K => by simp only [opW]; rw [bnd_iff hu, bnd_iff hv, hr]⟩
  · obtain ⟨v, hv, hp⟩ := bnd_out hp
    obtain ⟨u, hu, _⟩ := bnd_out hp
    exact ⟨u, fun h K => by simp only [opW]; rw [bnd_iff hv, bnd_iff hu]⟩
  · exact absurd rfl (hnc _ _ _)
  · obtain ⟨v, hv, hp⟩ := bnd_out hp
    exact ⟨_, fun h K => by simp only [opW]; rw [bnd_iff hv, need_iff hp.1]⟩
  · obtain ⟨us, hu, hp⟩ := bnd_out hp
    obtain ⟨vs, hv, _⟩ := bnd_out hp
    exact ⟨_, fun h K => by simp only [opW]; rw [bnd_iff hu, bnd_iff hv]⟩
  · cases hq
  · cases hq
  · obtain ⟨v, hv, hp⟩ := bnd_out hp
    obtain ⟨l, hl, hp⟩ := bnd_out hp
    obtain ⟨r, hr, hp⟩ := bnd_out hp
    obtain ⟨u, hu⟩ := slW_det hp
    exact ⟨u, fun h K => by simp only [opW]; rw [bnd_iff hv, bnd_iff hl, bnd_iff hr, hu]⟩
  · obtain ⟨v, hv, hp⟩ := bnd_out hp
    obtain ⟨l, hl, hp⟩ := bnd_out hp
    obtain ⟨r, hr, hp⟩ := bnd_out hp
    obtain ⟨mv, hm, hp⟩ := bnd_out hp
    obtain ⟨u, hu⟩ := slW3_det hp
    exact ⟨u, fun h K => by simp only [opW]; rw [bnd_iff hv, bnd_iff hl, bnd_iff hr, bnd_iff hm, hu]⟩
  · obtain ⟨p, hp1, hp⟩ := bnd_out hp
    obtain ⟨ad, ha, hp⟩ := bnd_out hp
    obtain ⟨f, hf, hp⟩ := bnd_out hp
    exact ⟨_, fun h K => by simp only [opW]; rw [bnd_iff hp1, bnd_iff ha, bnd_iff hf, need_iff hp.1]⟩
  · obtain ⟨v, hv, hp⟩ := bnd_out hp
    obtain ⟨u, hu, _⟩ := bnd_out hp
    exact ⟨u, fun h K => by simp only [opW]; rw [bnd_iff hv, bnd_iff hu]⟩
  · obtain ⟨v, hv, hp⟩ := bnd_out hp
    obtain ⟨i, hi, hp⟩ := bnd_out hp
    obtain ⟨u, hu⟩ := ixaW_det hp
    exact ⟨u, fun h K => by simp only [opW]; rw [bnd_iff hv, bnd_iff hi, hu]⟩
  · obtain ⟨v, hv, hp⟩ := bnd_out hp
    obtain ⟨i, hi, hp⟩ := bnd_out hp
    obtain ⟨u, hu⟩ := idxW_det hp
    exact ⟨u, fun h K => by simp only [opW]; rw [bnd_iff hv, bnd_iff hi, hu]⟩
  · cases hq
  · cases hq
  · cases hq
  · cases hq
  · cases hq
  · cases hq
  · obtain ⟨v, hv, hp⟩ := bnd_out hp
    clear hp
    rename_i hp
    obtain ⟨v, hv, hp⟩ := bnd_out hp
    split at hp
    · obtain ⟨u, hu, _⟩ := bnd_out hp
      exact ⟨u, fun h K => by simp only [opW]; rw [bnd_iff hv]; simp only; rw [bnd_iff hu]⟩
    · exact hp.elim
  · cases hq
  · exact hp.elim
structure St (ν : Nu) (n : Nat) (A : AH) (h : Heap) : Prop where
  sat : Sat A h
  inj : InjN ν
  old : ∀ i, i < n → ν i < h.size
def Fut (ν : Nu) (n : Nat) (A : AH) (G : Nu → Prop) : Prop := ∀ ν', InjN ν' → (∀ i, i < n → ν' i = ν i) → (∀ i, n ≤ i → look A (ν' i) = none) → G ν'
def nuAt (ν : Nu) (n N : Nat) : Nu := fun i => if i < n then ν i else N + (i - n)
theorem St.nuAt {ν : Nu} {n : Nat} {A : AH} {h : Heap} (s : St ν n A h) : InjN (nuAt ν n h.size) := by
  intro i j e
  unfold Vm.nuAt at e
  split at e <;> split at e
  · exact s.inj _ _ e
  · have := s.old i ‹_›; omega
  · have := s.old j ‹_›; omega
  · omega
theorem St.get {ν : Nu} {n : Nat} {A : AH} {h : Heap} (s : St ν n A h) {G : Nu → Prop} (f : Fut ν n A G) : G (Vm.nuAt ν n h.size) :=
  f _ s.nuAt (fun i hi => by simp [Vm.nuAt, hi]) (fun i hi => s.sat.none_of_size (by simp only [Vm.nuAt]; rw [if_neg (by omega)]; omega))
theorem Fut.mono {ν : Nu} {n : Nat} {A : AH} {G G' : Nu → Prop} (f : Fut ν n A G) (hg : ∀ ν', G ν' → G' ν') : Fut ν n A G' := fun ν' h1 h2 h3 => hg _ (f ν' h1 h2 h3)
theorem St.grew {ν : Nu} {n : Nat} {A : AH} {h h' : Heap} (s : St ν n A h) (g : Grew h h') : St ν n A h' := ⟨s.sat.grew g, s.inj, fun i hi => Nat.lt_of_lt_of_le (s.old i hi) g.le⟩
theorem St.start {A : AH} {h : Heap} (hs : Sat A h) : St (fun i => h.size + i) 0 A h := ⟨hs, fun i j e => by omega, fun i hi => by omega⟩
theorem Fut.fresh {ν : Nu} {A : AH} {G : Nu → Prop} (hf : ∀ ν', Fresh ν' A → G ν') : Fut ν 0 A G := fun ν' h1 _ h3 => hf ν' ⟨h1, fun i => h3 i (Nat.zero_le _)⟩
theorem Keep.push {A : AH} {h : Heap} {o : Obj} : Keep A h ((h.size, o) :: A) (h.push o) := ⟨by simp, fun b hb hl => by
  refine ⟨by simp [Array.getElem?_push, Nat.ne_of_lt hb], ?_⟩
  simp only [look]
  rw [if_neg (by omega), hl]⟩
theorem Sat.push {A : AH} {h : Heap} {o : Obj} (hs : Sat A h) : Sat ((h.size, o) :: A) (h.push o) := fun b o' hl => by
  simp only [look] at hl
  split at hl
  · rename_i e; subst e; simpa using hl
  · have := hs.lt hl
    rw [Array.getElem?_push, if_neg (by omega)]
    exact hs b o' hl
theorem St.alloc {ν : Nu} {n : Nat} {A : AH} {h : Heap} (s : St ν n A h) (o : Obj) {G : Nu → Nat → Prop} (f : Fut ν n A fun ν' => G ν' (ν' n)) :
    ∃ ν1, St ν1 (n + 1) ((h.size, o) :: A) (h.push o) ∧ Fut ν1 (n + 1) ((h.size, o) :: A) fun ν' => G ν' h.size := by
  refine ⟨Vm.nuAt ν n h.size, ⟨s.sat.push, s.nuAt, fun i hi => ?_⟩, fun ν' h1 h2 h3 => ?_⟩
  · unfold Vm.nuAt
    simp only [Array.size_push]
    split
    · have := s.old i ‹_›; omega
    · omega
  · have hn : ν' n = h.size := by rw [h2 n (by omega)]; simp [Vm.nuAt]
    have : G ν' (ν' n) := f ν' h1 (fun i hi => by rw [h2 i (by omega)]; simp [Vm.nuAt, hi]) (fun i hi => by
      rcases Nat.eq_or_lt_of_le hi with rfl | hi
      · rw [hn]; exact s.sat.none_of_size (Nat.le_refl _)
      · have := h3 i (by omega)
        simp only [look] at this
        split at this
        · cases this
        · exact this)
    show G ν' h.size
    rw [← hn]
    exact this
def PostE (K : Nu → Nat → Env → AH → Prop) (A : AH) (h : Heap) (ρ' : Env) (h' : Heap) : Prop := ∃ ν1 n1 A1, St ν1 n1 A1 h' ∧ Keep A h A1 h' ∧ Fut ν1 n1 A1 fun ν' => K ν' n1 ρ' A1
def PostV (K : Nu → Nat → Value → AH → Prop) (A : AH) (h : Heap) (v : Value) (h' : Heap) : Prop := ∃ ν1 n1 A1, St ν1 n1 A1 h' ∧ Keep A h A1 h' ∧ Fut ν1 n1 A1 fun ν' => K ν' n1 v A1
theorem PostE.same {K : Nu → Nat → Env → AH → Prop} {A : AH} {h : Heap} {ρ' : Env} {ν : Nu} {n : Nat} (s : St ν n A h) (f : Fut ν n A fun ν' => K ν' n ρ' A) : PostE K A h ρ' h := ⟨ν, n, A, s, Keep.refl _ _, f⟩
theorem PostV.same {K : Nu → Nat → Value → AH → Prop} {A : AH} {h : Heap} {v : Value} {ν : Nu} {n : Nat} (s : St ν n A h) (f : Fut ν n A fun ν' => K ν' n v A) : PostV K A h v h := ⟨ν, n, A, s, Keep.refl _ _, f⟩
theorem PostE.from {K : Nu → Nat → Env → AH → Prop} {A B : AH} {h h1 h2 : Heap} {ρ' : Env} (k : Keep A h B h1) (p : PostE K B h1 ρ' h2) : PostE K A h ρ' h2 := by
  obtain ⟨ν1, n1, A1, s, k1, f⟩ := p
  exact ⟨ν1, n1, A1, s, k.trans k1, f⟩
theorem put_to {nt : Nat} {dst : Option Nat} {ρ : Env} {K : Nu → Nat → Env → AH → Prop} {A : AH} {h h' : Heap} {v : Value}
    (p : PostV (fun ν n v A => putK nt dst v ρ fun ρ' => K ν n ρ' A) A h v h') : putK nt dst v ρ fun ρ' => PostE K A h ρ' h' := by
  obtain ⟨ν1, n1, A1, s, k, f⟩ := p
  cases dst with
  | none => exact ⟨ν1, n1, A1, s, k, f⟩
  | some d =>
    have h0 := s.get f
    exact ⟨h0.1, ν1, n1, A1, s, k, f.mono fun ν' h1 => h1.2⟩
theorem PureA.uniq {P : Program} {g : FuncId} {args : Array Value} {A : AH} {v u : Value} (h1 : PureA P g args A v) (h2 : PureA P g args A u) : v = u := by
  obtain ⟨h, hs⟩ := Sat.ex A
  have r1 := h1.2 h hs
  have r2 := h2.2 h hs
  unfold RunC at r1 r2
  by_cases hc : callable P g = true
  · rw [if_pos hc] at r1 r2
    have hi := h1.1 hc
    obtain ⟨e1, w1, f1, ⟨⟨rfl, _⟩, _⟩, ⟨n1, s1⟩, hf1, l1⟩ := r1 { (default : World) with heap := h } rfl []
    obtain ⟨e2, w2, f2, ⟨⟨rfl, _⟩, _⟩, ⟨n2, s2⟩, hf2, l2⟩ := r2 { (default : World) with heap := h } rfl []
    have d1 := step_leave_done l1 (by rw [hf1]; exact hi)
    have d2 := step_leave_done l2 (by rw [hf2]; exact hi)
    have hm : lone f1 [] w1 = lone f2 [] w2 := by
      rcases Nat.le_total n1 n2 with hn | hn
      · exact runN_next_det s1 s2 ⟨_, _, d1⟩ hn
      · exact (runN_next_det s2 s1 ⟨_, _, d2⟩ hn).symm
    rw [hm, d2] at d1
    cases d1
    rfl
  · rw [if_neg hc] at r1 r2
    obtain ⟨v1, w1, e1, _, e2, _⟩ := r1 { (default : World) with heap := h } rfl
    obtain ⟨v2, w2, e3, _, e4, _⟩ := r2 { (default : World) with heap := h } rfl
    rw [e1] at e3
    cases e2
    cases e4
    cases e3
    rfl
theorem valA_eq {P : Program} {g : FuncId} {args : Array Value} {A : AH} {v : Value} (hp : PureA P g args A v) : valA P g args A = some v := by
  have H : ∃ v, PureA P g args A v := ⟨v, hp⟩
  unfold valA
  rw [dif_pos H]
  exact congrArg some (H.choose_spec.uniq hp)
theorem valA_out {P : Program} {g : FuncId} {args : Array Value} {A : AH} {v : Value} (hr : valA P g args A = some v) : PureA P g args A v := by
  unfold valA at hr
  split at hr
  · rename_i H
    have := H.choose_spec
    cases hr
    exact this
  · cases hr
theorem ReadA.uniq {P : Program} {s : Sem Value} {A : AH} {v u : Value} (h1 : ReadA P s A v) (h2 : ReadA P s A u) : v = u := by
  obtain ⟨h, hs⟩ := Sat.ex A
  have e1 := h1 { (default : World) with heap := h } hs
  have e2 := h2 { (default : World) with heap := h } hs
  rw [e1] at e2
  cases e2
  rfl
theorem readA_eq {P : Program} {s : Sem Value} {A : AH} {v : Value} (hp : ReadA P s A v) : readA P s A = some v := by
  have H : ∃ v, ReadA P s A v := ⟨v, hp⟩
  unfold readA
  rw [dif_pos H]
  exact congrArg some (H.choose_spec.uniq hp)
theorem readA_out {P : Program} {s : Sem Value} {A : AH} {v : Value} (hr : readA P s A = some v) : ReadA P s A v := by
  unfold readA at hr
  split at hr
  · rename_i H
    have := H.choose_spec
    cases hr
    exact this
  · cases hr
theorem RunW.mono {P : Program} {s : Sem Value} {h : Heap} {K K' : Value → Heap → Prop} (hr : RunW P s h K) (hk : ∀ v h', K v h' → K' v h') : RunW P s h K' := fun w hw =>
  let ⟨v, w', h1, h2, h3⟩ := hr w hw
  ⟨v, w', h1, h2, hk _ _ h3⟩
theorem SemN_to {P : Program} {s : Sem Value} {A : AH} {ν : Nu} {n : Nat} {h : Heap} {K : Nu → Nat → Value → AH → Prop} (st : St ν n A h) (f : Fut ν n A fun ν' => SemN P s A ν' n K) : RunW P s h fun v h' => PostV K A h v h' := by
  refine (st.get f h st.sat).mono ?_
  rintro u h' ⟨A', hs, hk, hK⟩
  exact ⟨_, 0, A', St.start hs, hk, Fut.fresh hK⟩
theorem SemR_to {P : Program} {s : Sem Value} {A : AH} {ν : Nu} {n : Nat} {h : Heap} {K : Nu → Nat → Value → AH → Prop} (st : St ν n A h) (f : Fut ν n A fun ν' => SemR P s A ν' n K) : RunW P s h fun v h' => PostV K A h v h' := by
  obtain ⟨v, hv, _⟩ := bnd_out (st.get f)
  intro w hw
  subst hw
  exact ⟨v, w, readA_out hv w st.sat, ⟨rfl, rfl, rfl⟩, PostV.same st (f.mono fun ν' h1 => (bnd_iff hv _).1 h1)⟩
theorem RunC.mono {P : Program} {g : FuncId} {args : Array Value} {h : Heap} {R R' : Ending → Heap → Prop} (hc : RunC P g args h R) (hr : ∀ e h', R e h' → R' e h') : RunC P g args h R' := by
  unfold RunC at hc ⊢
  split
  · rw [if_pos ‹_›] at hc
    exact hc.mono0 hr
  · rw [if_neg ‹_›] at hc
    intro w hw
    obtain ⟨v, w', h1, h2, h3⟩ := hc w hw
    exact ⟨v, w', h1, h2, hr _ _ h3⟩
def endFr : Frame := { (default : Frame) with todo := [.extern "" #[], .code (.refuse "")], defers := [{ target := .nil, args := #[] }], mode := .run }
theorem endFr_val (P : Program) (v : Value) (w : World) : ∃ o, step P (lone (endFr.finish v) [] w) = .ended o w :=
  ⟨_, step_lone_ended (by simp [stepG, endFr, Frame.finish]; rfl)⟩
theorem endFr_pan (P : Program) (ch : List PanicEntry) (w : World) : ∃ o, step P (lone (endFr.raise ch) [] w) = .ended o w :=
  ⟨_, step_lone_ended (by simp [stepG, endFr, Frame.raise, unwind, callDeferred]; rfl)⟩
theorem exact_det {P : Program} {f : FuncId} {args : Array Value} {h : Heap} {p : Value × Heap} {R : Ending → Heap → Prop} (hx : Exact P f args h p) (hc : CallsH P f args h R) (h1 : ∀ h', ¬ R .outgrown h') : R (.returned p.1) p.2 := by
  obtain ⟨hi, hx⟩ := hx
  obtain ⟨e1, w1, f1, ⟨⟨rfl, hw1⟩, _⟩, ⟨n1, s1⟩, hf1, l1⟩ := hx { (default : World) with heap := h } rfl [endFr]
  obtain ⟨e2, w2, f2, ⟨hR, _⟩, s2, hf2, l2⟩ := hc { (default : World) with heap := h } rfl [endFr]
  have a1 := step_leave_returned (c := endFr) (cs := []) l1
  have b1 : runN P (n1 + 1) (lone (Frame.enter P f args .normal) [endFr] { (default : World) with heap := h }) = .next (lone (endFr.finish p.1) [] w1) := by
    rw [runN_add, s1]; simp [runN, a1]
  obtain ⟨o1, d1⟩ := endFr_val P p.1 w1
  cases e2 with
  | outgrown => exact absurd hR (h1 _)
  | panicked ch =>
    obtain ⟨n2, s2⟩ := s2
    have a2 := step_leave_panicked (c := endFr) (cs := []) l2
    have b2 : runN P (n2 + 1) (lone (Frame.enter P f args .normal) [endFr] { (default : World) with heap := h }) = .next (lone (endFr.raise ch) [] w2) := by
      rw [runN_add, s2]; simp [runN, a2]
    obtain ⟨o2, d2⟩ := endFr_pan P ch w2
    have hm : lone (endFr.finish p.1) [] w1 = lone (endFr.raise ch) [] w2 := by
      rcases Nat.le_total (n1 + 1) (n2 + 1) with hn | hn
      · exact runN_next_det b1 b2 ⟨_, _, d1⟩ hn
      · exact (runN_next_det b2 b1 ⟨_, _, d2⟩ hn).symm
    simp [lone, endFr, Frame.finish, Frame.raise] at hm
  | returned v =>
    obtain ⟨n2, s2⟩ := s2
    have a2 := step_leave_returned (c := endFr) (cs := []) l2
    have b2 : runN P (n2 + 1) (lone (Frame.enter P f args .normal) [endFr] { (default : World) with heap := h }) = .next (lone (endFr.finish v) [] w2) := by
      rw [runN_add, s2]; simp [runN, a2]
    obtain ⟨o2, d2⟩ := endFr_val P v w2
    have hm : lone (endFr.finish p.1) [] w1 = lone (endFr.finish v) [] w2 := by
      rcases Nat.le_total (n1 + 1) (n2 + 1) with hn | hn
      · exact runN_next_det b1 b2 ⟨_, _, d1⟩ hn
      · exact (runN_next_det b2 b1 ⟨_, _, d2⟩ hn).symm
    simp [lone, endFr, Frame.finish] at hm
    obtain ⟨q1, q2⟩ := hm
    rw [← hw1]
    first
      | (rw [q1, q2]; exact hR)
      | (rw [q2, q1]; exact hR)
theorem CallsH.monoP {P : Program} {f : FuncId} {args : Array Value} {h : Heap} {R R' : Ending → Heap → Prop} (hc : CallsH P f args h R) (hr : ∀ e h', R e h' → R' e h') (h1 : ∀ h', ¬ R .outgrown h') : CallsX P f args h R' := by
  unfold CallsX
  split
  · rename_i p hp
    unfold exactOf at hp
    split at hp
    · rename_i H
      cases hp
      exact hr _ _ (exact_det H.choose_spec hc h1)
    · cases hp
  · exact hc.mono0 hr
def PanP (X : Xp) (A : AH) (h : Heap) (ch : List PanicEntry) (h' : Heap) : Prop := ∃ X0 A', X = some X0 ∧ Sat A' h' ∧ Keep A h A' h' ∧ X0 ch A'
theorem PanP.from {X : Xp} {A B : AH} {h h1 h2 : Heap} {ch : List PanicEntry} (k : Keep A h B h1) (p : PanP X B h1 ch h2) : PanP X A h ch h2 := by
  obtain ⟨X0, A', h3, s, k1, f⟩ := p
  exact ⟨X0, A', h3, s, k.trans k1, f⟩
theorem resX_val {X : Xp} {A : AH} {h h' : Heap} {K : Value → AH → Prop} {e : Ending} (hr : ResA A h K e h') : resX X A h K e h' := by
  cases X with
  | none => exact hr
  | some X => exact .inl hr
theorem resX_pan {X : Xp} {A : AH} {h h' : Heap} {K : Value → AH → Prop} {ch : List PanicEntry} (hp : PanP X A h ch h') : resX X A h K (.panicked ch) h' := by
  obtain ⟨X0, A', rfl, s, k, f⟩ := hp
  exact .inr ⟨ch, A', rfl, s, k, f⟩
theorem CalN_to {P : Program} {imp : Imp} {g : FuncId} {args : Array Value} {A : AH} {ν : Nu} {n : Nat} {h : Heap} {K : Nu → Nat → Value → AH → Prop} (st : St ν n A h) (f : Fut ν n A fun ν' => CalN P imp g args A ν' n K) :
    RunC P g args h fun e h' => (∃ v, e = .returned v ∧ PostV K A h v h') ∨ ∃ ch, e = .panicked ch ∧ PanP imp.X A h ch h' := by
  have h0 := st.get f
  unfold CalN at h0
  by_cases hi : g ∈ imp.l
  · rw [if_pos hi] at h0
    unfold callX at h0
    split at h0
    · refine (h0 h st.sat).mono ?_
      rintro e h' ⟨u, A', rfl, hs, hk, hK⟩
      exact .inl ⟨u, rfl, _, 0, A', St.start hs, hk, Fut.fresh hK⟩
    · rename_i X0 hX
      refine (h0 h st.sat).mono ?_
      rintro e h' (⟨u, A', rfl, hs, hk, hK⟩ | ⟨ch, A', rfl, hs, hk, hK⟩)
      · exact .inl ⟨u, rfl, _, 0, A', St.start hs, hk, Fut.fresh hK⟩
      · exact .inr ⟨ch, rfl, X0, A', hX, hs, hk, hK⟩
  · rw [if_neg hi] at h0
    obtain ⟨v, hv, _⟩ := bnd_out h0
    refine ((valA_out hv).2 h st.sat).mono ?_
    rintro u h' ⟨rfl, hg⟩
    refine .inl ⟨v, rfl, ν, n, A, st.grew hg, Keep.grew hg, f.mono fun ν' h1 => ?_⟩
    unfold CalN at h1
    rw [if_neg hi] at h1
    exact (bnd_iff hv _).1 h1
theorem wrA_to {A A' : AH} {h : Heap} {a : Addr} {vs : List Value} {ν : Nu} {n : Nat} (st : St ν n A h) (hw : wrA A a vs = some A') : ∃ h', wrCells h a vs = some h' ∧ St ν n A' h' ∧ Keep A h A' h' ∧ ∀ b, look A' b = none ↔ look A b = none := by
  obtain ⟨b, off, spot⟩ := a
  unfold wrA at hw
  split at hw
  · rename_i e
    simp only at e
    subst e
    unfold wrO at hw
    simp only at hw
    split at hw
    · rename_i c e fr ho
      split at hw
      · rename_i hc
        cases hw
        have hb := st.sat _ _ ho
        have hlt := st.sat.lt ho
        refine ⟨h.setIfInBounds b (.cells (splice c off vs) e fr), ?_, ⟨?_, st.inj, fun i hi => by simpa using st.old i hi⟩, ⟨by simp, fun b' hb' hl => ?_⟩, fun b' => ?_⟩
        · rw [wrCells_eq, hb]
          simp only [wrS]
          rw [if_pos hc]
        · intro b' o' hl
          rw [look_putB] at hl
          rw [Array.getElem?_setIfInBounds]
          by_cases hbb : b' = b
          · subst hbb
            rw [if_pos rfl, ho] at hl
            simp only [Option.map_some, Option.some.injEq] at hl
            subst hl
            simp [hlt]
          · rw [if_neg hbb] at hl
            rw [if_neg (fun e => hbb e.symm)]
            exact st.sat _ _ hl
        · have hbb : b' ≠ b := fun e => by subst e; rw [ho] at hl; cases hl
          rw [look_putB, if_neg hbb, Array.getElem?_setIfInBounds, if_neg (fun e => hbb e.symm)]
          exact ⟨rfl, hl⟩
        · rw [look_putB]
          by_cases hbb : b' = b
          · subst hbb; simp [ho]
          · simp [hbb]
      · cases hw
    · cases hw
  · cases hw
end Go.Vm
