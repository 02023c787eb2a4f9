/-
Lists of texts in known blocks, lists walked.
Conditions: none.
-/
import Derived.Test.YtiholbpchhifiaaGreatDoorVmAR
import Derived.Test.YtiholbpchhifiaaGreatDoorBs
namespace Go.Proofs.YtiholbpchhifiaaGreatDoor
open Go.Vm
set_option linter.unusedSimpArgs false
set_option linter.unusedVariables false
set_option maxHeartbeats 1000000
set_option maxRecDepth 20000
abbrev Txt := List UInt8
theorem drop_some {α : Type} {L l : List α} {e : Nat} {a : α} (h3 : a :: l = L.drop e) : L[e]? = some a ∧ e < L.length ∧ l = L.drop (e + 1) ∧ L.take (e + 1) = L.take e ++ [a] := by
  have ha : L[e]? = some a := by
    have := congrArg (fun x => x[0]?) h3
    simpa using this.symm
  refine ⟨ha, (List.getElem?_eq_some_iff.1 ha).1, ?_, ?_⟩
  · have := congrArg (fun x => x.drop 1) h3
    simpa [List.drop_drop, Nat.add_comm] using this
  · rw [List.take_add_one, ha]; rfl
theorem drop_nil {α : Type} {L : List α} {e : Nat} (h3 : [] = L.drop e) (he : e ≤ L.length) : L.length = e ∧ L.take e = L := by
  rcases Nat.lt_or_ge e L.length with h | h
  · rw [List.drop_eq_getElem_cons h] at h3; cases h3
  · have : e = L.length := by omega
    exact ⟨this.symm, by rw [this, List.take_length]⟩
def strC (t : Txt) : List Value := [.string (bs t)]
theorem strC_len (t : Txt) : (strC t).length = 1 := rfl
theorem StR.take {α : Type} {f : α → List Value} {n : Nat} {A : AH} {p : Option Addr} {L : List α} (h : StR f n A p L) (i : Nat) : StR f n A p (L.take i) := by
  rcases h with h | ⟨b, off, cs, e, fr, h1, h2, h3⟩
  · exact .inl (by rw [h]; simp)
  · refine .inr ⟨b, off, cs, e, fr, h1, h2, fun j a hj => h3 j a ?_⟩
    rw [List.getElem?_take] at hj
    split at hj
    · exact hj
    · cases hj
/-- A list of texts, to be read. -/
def TxR (A : AH) (p : Option Addr) (cap : Nat) (T : List Txt) : Prop := StR strC 1 A p T ∧ T.length ≤ cap ∧ cap ≤ 9223372036854775807
theorem TxR.mono {A B : AH} {p : Option Addr} {cap : Nat} {T : List Txt} (h : TxR A p cap T) (hs : SubA A B) : TxR B p cap T := ⟨h.1.mono hs, h.2⟩
theorem TxR.nil {A : AH} : TxR A none 0 [] := ⟨StR.nil, by simp, by omega⟩
def idxT (s : Txt) : List Txt → Option Nat
  | [] => none
  | t :: l => if t = s then some 0 else (idxT s l).map (· + 1)
theorem idxT_mem (s : Txt) : ∀ T : List Txt, (idxT s T).isSome = decide (s ∈ T)
  | [] => by simp [idxT]
  | t :: l => by
    simp only [idxT]
    by_cases h : t = s
    · subst h; simp
    · have ih := idxT_mem s l
      rw [if_neg h, Option.isSome_map, ih]
      have : ¬ s = t := fun e => h e.symm
      simp [this]
def optI : Option Nat → Int
  | some i => (i : Int)
  | none => -1
theorem TxR.isNone {A : AH} {p : Option Addr} {cap : Nat} {T : List Txt} (h : TxR A p cap T) (hp : p.isNone = true) : T = [] := by
  rcases h.1 with h | ⟨b, off, cs, e, fr, rfl, _⟩
  · exact h
  · cases hp
theorem str_one (t : Txt) : ∀ u ∈ strC t, u.oneCell' = true := by simp [strC, Value.oneCell']
theorem flat_one {α : Type} {f : α → List Value} (h : ∀ x, ∀ u ∈ f x, u.oneCell' = true) (L : List α) : ∀ u ∈ L.flatMap f, u.oneCell' = true := by
  intro u hu
  obtain ⟨x, _, hx⟩ := List.mem_flatMap.1 hu
  exact h x u hx
theorem TxR.at (b : Nat) (e : TypeId) (T : List Txt) (h : T.length ≤ 9223372036854775807) : TxR [(b, .cells (T.flatMap strC).toArray e)] (some ⟨b, 0, none⟩) T.length T := by
  have o : OwnL strC 1 e (.slice (some ⟨b, 0, none⟩) T.length T.length) [(b, .cells (T.flatMap strC).toArray e)] T := .inl (OwnA.at (by rw [flat_len strC 1 (fun _ => rfl)]) (by simpa only [maxLen] using h))
  obtain ⟨p, cap, h1, h2, h3⟩ := o.read strC_len
  cases h1
  exact ⟨h3, h2, h⟩
theorem _root_.Go.Vm.Dis.subr {D X Y : AH} (d : Dis D Y) (h : SubA X Y) : Dis D X := fun x hx => d x fun hn => by
  cases hl : Vm.look X x with
  | none => exact hx hl
  | some o => rw [h x o hl] at hn; cases hn
theorem own_cap {α : Type} {f : α → List Value} {n : Nat} {e : TypeId} {B : AH} {L : List α} {p : Option Addr} {k cap : Nat} (o : OwnL f n e (.slice p k cap) B L) : cap ≤ 9223372036854775807 := by
  rcases o with ⟨h1, ⟨h2, _, h0⟩ | ⟨g, cap', cur, h2, h3, h4, h5, _⟩⟩ | ⟨⟨p, h2⟩, _, h0, _⟩
  · cases h2; omega
  · cases h2; simpa only [maxLen] using h5
  · cases h2; omega
theorem own_tx {e : TypeId} {v : Value} {B : AH} {T : List Txt} (o : OwnL strC 1 e v B T) : ∃ p cap, v = .slice p T.length cap ∧ TxR B p cap T := by
  obtain ⟨p, cap, rfl, h2, h3⟩ := o.read strC_len
  exact ⟨p, cap, rfl, h3, h2, own_cap o⟩
/-- A call that hands out something new and leaves what was known. -/
theorem CallA.new {P : Program} {g : FuncId} {args : Array Value} {A A0 : AH} {R : Value → AH → Prop} {K : Value → AH → Prop} (hc : CallA P g args A0 fun u D => ∃ v B, u = v ∧ R v B ∧ Dis B A0 ∧ SubA (B ++ A0) D) (hs : SubA A0 A)
    (hk : ∀ v B, R v B → Dis B A → K v (B ++ A)) : CallA P g args A K := by
  have h1 : CallA P g args A fun v D => ∃ B, R v B ∧ Dis B A ∧ SubA (B ++ A) D := by
    refine CallA.go hc hs (fun v D ⟨u, B, _, _, h2, h3⟩ => SubA.trans h2.right h3) ?_
    rintro v D A' ⟨u, B, rfl, h0, h2, h3⟩ hD hA hx
    have hd : Dis B A := fun x hxa => by
      cases hb : Vm.look B x with
      | none => rfl
      | some o =>
        have e1 : Vm.look D x = some o := h3 _ _ (SubA.left B A0 _ _ hb)
        have e2 : Vm.look A0 x = none := by
          cases h0 : Vm.look A0 x with
          | none => rfl
          | some o2 => have := h2 x (by rw [h0]; simp); rw [hb] at this; cases this
        exact absurd (hx x (by rw [e1]; simp) e2) hxa
    exact ⟨B, h0, hd, SubA.both (SubA.trans (SubA.trans (SubA.left B A0) h3) hD) hA⟩
  refine CallA.use h1 (SubA.refl A) (fun v D ⟨B, _, hd, h3⟩ b hb => ?_) [] (SubA.nil _) (fun x hx => absurd rfl hx) (fun v D ⟨B, h0, hd, h3⟩ _ => ⟨B ++ A, h3, by rw [List.append_nil]; exact hk v B h0 hd⟩)
  cases hl : Vm.look A b with
  | none => exact absurd hl hb
  | some o => rw [h3 _ _ (hd.right _ _ hl)]; simp
theorem CallA.newX {P : Program} {g : FuncId} {args : Array Value} {A A0 : AH} {R : Value → AH → Prop} {K : Value → AH → Prop} (hc : CallA P g args A0 fun u D => ∃ v B, u = v ∧ R v B ∧ Dis B A0 ∧ SubA (B ++ A0) D) (hs : SubA A0 A)
    (hk : ∀ v B, R v B → Dis B A → ∃ A'', SubA A'' (B ++ A) ∧ K v A'') : CallA P g args A K := by
  refine CallA.use (K0 := fun v D => ∃ B, R v B ∧ Dis B A ∧ D = B ++ A) (CallA.new hc hs fun v B h0 hd => ⟨B, h0, hd, rfl⟩) (SubA.refl A) (fun v D ⟨B, _, hd, h3⟩ b hb => ?_) [] (SubA.nil _) (fun x hx => absurd rfl hx) (fun v D ⟨B, h0, hd, h3⟩ _ => ?_)
  · cases hl : Vm.look A b with
    | none => exact absurd hl hb
    | some o => rw [h3, hd.right _ _ hl]; simp
  · obtain ⟨A'', h4, h5⟩ := hk v B h0 hd
    exact ⟨A'', by rw [h3]; exact h4, by rw [List.append_nil]; exact h5⟩
theorem cons_out {B X : AH} {x : Nat} {o : Obj} (h : Vm.look B x = none) : SubA ((x, o) :: (B ++ X)) (B ++ ((x, o) :: X)) := fun b u hl => by
  simp only [Vm.look] at hl
  rw [look_append]
  split at hl
  · rename_i e; subst e; rw [h]; simp [Vm.look, hl]
  · rename_i e
    rw [look_append] at hl
    cases hb : Vm.look B b with
    | some w => rw [hb] at hl; exact hl
    | none => rw [hb] at hl; simp only [Vm.look, e, if_false]; exact hl
theorem cons_in {X Y : AH} {x : Nat} {o : Obj} (h : SubA X Y) : SubA ((x, o) :: X) ((x, o) :: Y) := fun b u hl => by
  simp only [Vm.look] at hl ⊢
  split at hl
  · rename_i e; rw [if_pos e]; exact hl
  · rename_i e; rw [if_neg e]; exact h b u hl
theorem Dis.headn {B X : AH} {x : Nat} {o : Obj} (h : Dis B ((x, o) :: X)) : Vm.look B x = none := h x (by simp [Vm.look])
theorem Dis.tailn {B X : AH} {x : Nat} {o : Obj} (h : Dis B ((x, o) :: X)) (hx : Vm.look X x = none) : Dis B X := Dis.subr h (SubA.skip hx (SubA.refl _))
end Go.Proofs.YtiholbpchhifiaaGreatDoor
