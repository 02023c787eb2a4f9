/-
Lists of texts, calls beside others, arguments opened.
Conditions: none.
-/
import Derived.Test.YtfphceknmgadgaaDoorVmAR
import Derived.Test.YtfphceknmgadgaaDoorTy
import Derived.Test.YtfphceknmgadgaaDoorEvo
import Derived.Lib.ItoaNum
set_option linter.unusedSimpArgs false
set_option linter.unusedVariables false
namespace Go.Proofs.YtfphceknmgadgaaDoor
open Go.Vm
set_option maxHeartbeats 1000000
set_option maxRecDepth 20000
def bs (l : List UInt8) : ByteArray := ⟨l.toArray⟩
theorem bs_list (l : List UInt8) : (bs l).toList = l := by rw [ByteArray.toList_eq]; rfl
theorem bs_size (l : List UInt8) : (bs l).size = l.length := by simp [bs, ByteArray.size]
theorem bs_data (l : List UInt8) : (bs l).data.toList = l := rfl
theorem ba_ext {a b : ByteArray} (h : a.data.toList = b.data.toList) : a = b := by
  obtain ⟨⟨a⟩⟩ := a; obtain ⟨⟨b⟩⟩ := b; simp at h; rw [h]
theorem bs_app (a b : List UInt8) : bs a ++ bs b = bs (a ++ b) := ba_ext (by simp [bs])
theorem dec_len : ∀ (w n : Nat), 0 < w → n < 10 ^ w → (Lib.decDigits n).length ≤ w
  | 0, _, h, _ => by omega
  | w + 1, n, _, h => by
    rw [Lib.decDigits]
    split
    · simp
    · rename_i hn
      have hw : 0 < w := by
        cases w with
        | zero => simp at h; omega
        | succ w => omega
      have := dec_len w (n / 10) hw (by rw [Nat.pow_succ] at h; omega)
      simp
      omega
end Go.Proofs.YtfphceknmgadgaaDoor
namespace Go.Proofs.YtfphceknmgadgaaDoor
open Go.Vm
set_option maxHeartbeats 1000000
set_option maxRecDepth 20000
abbrev Txt := List UInt8
theorem drop_some {α : Type} {L l : List α} {e : Nat} {a : α} (h3 : a :: l = L.drop e) : L[e]? = some a ∧ e < L.length ∧ l = L.drop (e + 1) ∧ L.take (e + 1) = L.take e ++ [a] := by
  have ha : L[e]? = some a := by
    have := congrArg (fun x => x[0]?) h3
    simpa using this.symm
  refine ⟨ha, (List.getElem?_eq_some_iff.1 ha).1, ?_, ?_⟩
  · have := congrArg (fun x => x.drop 1) h3
    simpa [List.drop_drop, Nat.add_comm] using this
  · rw [List.take_add_one, ha]; rfl
theorem drop_nil {α : Type} {L : List α} {e : Nat} (h3 : [] = L.drop e) (he : e ≤ L.length) : L.length = e ∧ L.take e = L := by
  rcases Nat.lt_or_ge e L.length with h | h
  · rw [List.drop_eq_getElem_cons h] at h3; cases h3
  · have : e = L.length := by omega
    exact ⟨this.symm, by rw [this, List.take_length]⟩
def strC (t : Txt) : List Value := [.string (bs t)]
theorem strC_len (t : Txt) : (strC t).length = 1 := rfl
theorem StR.take {α : Type} {f : α → List Value} {n : Nat} {A : AH} {p : Option Addr} {L : List α} (h : StR f n A p L) (i : Nat) : StR f n A p (L.take i) := by
  rcases h with h | ⟨b, off, cs, e, fr, h1, h2, h3⟩
  · exact .inl (by rw [h]; simp)
  · refine .inr ⟨b, off, cs, e, fr, h1, h2, fun j a hj => h3 j a ?_⟩
    rw [List.getElem?_take] at hj
    split at hj
    · exact hj
    · cases hj
def TxR (A : AH) (p : Option Addr) (cap : Nat) (T : List Txt) : Prop := StR strC 1 A p T ∧ T.length ≤ cap ∧ cap ≤ 9223372036854775807
theorem TxR.mono {A B : AH} {p : Option Addr} {cap : Nat} {T : List Txt} (h : TxR A p cap T) (hs : SubA A B) : TxR B p cap T := ⟨h.1.mono hs, h.2⟩
theorem TxR.nil {A : AH} : TxR A none 0 [] := ⟨StR.nil, by simp, by omega⟩
theorem TxR.isNone {A : AH} {p : Option Addr} {cap : Nat} {T : List Txt} (h : TxR A p cap T) (hp : p.isNone = true) : T = [] := by
  rcases h.1 with h | ⟨b, off, cs, e, fr, rfl, _⟩
  · exact h
  · cases hp
theorem TxR.at (b : Nat) (e : TypeId) (T : List Txt) (h : T.length ≤ 9223372036854775807) : TxR [(b, .cells (T.flatMap strC).toArray e)] (some ⟨b, 0, none⟩) T.length T := by
  have o : OwnL strC 1 e (.slice (some ⟨b, 0, none⟩) T.length T.length) [(b, .cells (T.flatMap strC).toArray e)] T := .inl (OwnA.at (by rw [flat_len strC 1 (fun _ => rfl)]) (by simpa only [maxLen] using h))
  obtain ⟨p, cap, h1, h2, h3⟩ := o.read strC_len
  cases h1
  exact ⟨h3, h2, h⟩
theorem _root_.Go.Vm.Dis.subr {D X Y : AH} (d : Dis D Y) (h : SubA X Y) : Dis D X := fun x hx => d x fun hn => by
  cases hl : Vm.look X x with
  | none => exact hx hl
  | some o => rw [h x o hl] at hn; cases hn
theorem CallA.new {P : Program} {g : FuncId} {args : Array Value} {A A0 : AH} {R : Value → AH → Prop} {K : Value → AH → Prop} (hc : CallA P g args A0 fun u D => ∃ v B, u = v ∧ R v B ∧ Dis B A0 ∧ SubA (B ++ A0) D) (hs : SubA A0 A)
    (hk : ∀ v B, R v B → Dis B A → K v (B ++ A)) : CallA P g args A K := by
  have h1 : CallA P g args A fun v D => ∃ B, R v B ∧ Dis B A ∧ SubA (B ++ A) D := by
    refine CallA.go hc hs (fun v D ⟨u, B, _, _, h2, h3⟩ => SubA.trans h2.right h3) ?_
    rintro v D A' ⟨u, B, rfl, h0, h2, h3⟩ hD hA hx
    have hd : Dis B A := fun x hxa => by
      cases hb : Vm.look B x with
      | none => rfl
      | some o =>
        have e1 : Vm.look D x = some o := h3 _ _ (SubA.left B A0 _ _ hb)
        have e2 : Vm.look A0 x = none := by
          cases h0 : Vm.look A0 x with
          | none => rfl
          | some o2 => have := h2 x (by rw [h0]; simp); rw [hb] at this; cases this
        exact absurd (hx x (by rw [e1]; simp) e2) hxa
    exact ⟨B, h0, hd, SubA.both (SubA.trans (SubA.trans (SubA.left B A0) h3) hD) hA⟩
  refine CallA.use h1 (SubA.refl A) (fun v D ⟨B, _, hd, h3⟩ b hb => ?_) [] (SubA.nil _) (fun x hx => absurd rfl hx) (fun v D ⟨B, h0, hd, h3⟩ _ => ⟨B ++ A, h3, by rw [List.append_nil]; exact hk v B h0 hd⟩)
  cases hl : Vm.look A b with
  | none => exact absurd hl hb
  | some o => rw [h3 _ _ (hd.right _ _ hl)]; simp
theorem CallA.newX {P : Program} {g : FuncId} {args : Array Value} {A A0 : AH} {R : Value → AH → Prop} {K : Value → AH → Prop} (hc : CallA P g args A0 fun u D => ∃ v B, u = v ∧ R v B ∧ Dis B A0 ∧ SubA (B ++ A0) D) (hs : SubA A0 A)
    (hk : ∀ v B, R v B → Dis B A → ∃ A'', SubA A'' (B ++ A) ∧ K v A'') : CallA P g args A K := by
  refine CallA.use (K0 := fun v D => ∃ B, R v B ∧ Dis B A ∧ D = B ++ A) (CallA.new hc hs fun v B h0 hd => ⟨B, h0, hd, rfl⟩) (SubA.refl A) (fun v D ⟨B, _, hd, h3⟩ b hb => ?_) [] (SubA.nil _) (fun x hx => absurd rfl hx) (fun v D ⟨B, h0, hd, h3⟩ _ => ?_)
  · cases hl : Vm.look A b with
    | none => exact absurd hl hb
    | some o => rw [h3, hd.right _ _ hl]; simp
  · obtain ⟨A'', h4, h5⟩ := hk v B h0 hd
    exact ⟨A'', by rw [h3]; exact h4, by rw [List.append_nil]; exact h5⟩
theorem cons_out {B X : AH} {x : Nat} {o : Obj} (h : Vm.look B x = none) : SubA ((x, o) :: (B ++ X)) (B ++ ((x, o) :: X)) := fun b u hl => by
  simp only [Vm.look] at hl
  rw [look_append]
  split at hl
  · rename_i e; subst e; rw [h]; simp [Vm.look, hl]
  · rename_i e
    rw [look_append] at hl
    cases hb : Vm.look B b with
    | some w => rw [hb] at hl; exact hl
    | none => rw [hb] at hl; simp only [Vm.look, e, if_false]; exact hl
end Go.Proofs.YtfphceknmgadgaaDoor
namespace Go.Vm
theorem CallA.useX {P : Program} {g : FuncId} {args : Array Value} {A A0 : AH} {K0 K : Value → AH → Prop} (hc : CallA P g args A0 K0) (hs : SubA A0 A) (X : AH) (hX : SubA X A) (hd : Dis A0 X)
    (hk : ∀ v D, K0 v D → Dis D X → ∃ A'', SubA A'' D ∧ K v (A'' ++ X)) : CallA P g args A K := by
  intro h hA
  have h1 := hc h (hA.sub hs)
  have key : ∀ e h', ResA A0 h K0 e h' → ResA A h K e h' := by
    rintro e h' ⟨v, D, he, hD, kp, hK⟩
    have hdx : ∀ x, look X x ≠ none → look D x = none := fun x hx => by
      cases hl : look X x with
      | none => exact absurd hl hx
      | some o =>
        have hlt := hA.lt (hX _ _ hl)
        exact (kp.2 x hlt (hd x hx)).2
    obtain ⟨A'', h2, h3⟩ := hk v D hK hdx
    refine ⟨v, A'' ++ X, he, ?_, ?_, h3⟩
    · refine Sat.both (hD.sub h2) fun b o hl => ?_
      have hb := hA _ _ (hX _ _ hl)
      have hlt := hA.lt (hX _ _ hl)
      rw [(kp.2 b hlt (hd b (by rw [hl]; simp))).1]
      exact hb
    · refine ⟨kp.1, fun b hb hl => ?_⟩
      obtain ⟨q1, q2⟩ := kp.2 b hb (hs.none hl)
      exact ⟨q1, look_app_none (h2.none q2) (hX.none hl)⟩
  unfold RunC at h1 ⊢
  split
  · rename_i hcl
    rw [if_pos hcl] at h1
    exact h1.mono0 key
  · rename_i hcl
    rw [if_neg hcl] at h1
    intro w hw
    obtain ⟨v, w', r1, r2, r3⟩ := h1 w hw
    exact ⟨v, w', r1, r2, key _ _ r3⟩
theorem CallA.sub {P : Program} {g : FuncId} {args : Array Value} {A A0 : AH} {K : Value → AH → Prop} (hc : CallA P g args A0 K) (hs : SubA A0 A) : CallA P g args A K :=
  CallA.useX hc hs [] (SubA.nil _) (fun x hx => absurd rfl hx) fun v D h _ => ⟨D, SubA.refl _, by rw [List.append_nil]; exact h⟩
theorem MeantA.at [dd : DefD] {c : CxA} {k : List It} {ρ : Env} {A A' : AH} (ha : SubA A A') (hl : @MeantA dd c k ρ A ()) : @MeantA dd c k ρ A' () := fun A0 h0 h hA kp => hl A0 h0 h (hA.sub ha) (kp.sub ha)
end Go.Vm
namespace Go.Vm
theorem StR.as {α β : Type} {f : α → List Value} {g : β → List Value} {n : Nat} {A : AH} {p : Option Addr} {L : List α} {M : List β} (h : StR f n A p L) (e : M.map g = L.map f) : StR g n A p M := by
  have hlen : M.length = L.length := by have := congrArg List.length e; simpa using this
  rcases h with h | ⟨b, off, cs, ty, fr, h1, h2, h3⟩
  · exact .inl (List.eq_nil_of_length_eq_zero (by rw [hlen, h]; rfl))
  · refine .inr ⟨b, off, cs, ty, fr, h1, h2, fun i y hi => ?_⟩
    have hlt := (List.getElem?_eq_some_iff.1 hi).1
    have hx := List.getElem?_eq_getElem (show i < L.length by omega)
    have : (M.map g)[i]? = (L.map f)[i]? := by rw [e]
    rw [List.getElem?_map, List.getElem?_map, hi, hx] at this
    simp only [Option.map_some, Option.some.injEq] at this
    rw [this]
    exact h3 i _ hx
end Go.Vm
namespace Go.Proofs.YtfphceknmgadgaaDoor
open Go.Vm
theorem callsH_of_pure {P : Program} {g : FuncId} {args : Array Value} {A : AH} {v : Value} (hv : valA P g args A = some v) (hc : callable P g = true) {h : Heap} (hs : Sat A h) : CallsH P g args h fun e h' => e = .returned v ∧ Grew h h' := by
  have := (valA_out hv).2 h hs
  unfold RunC at this
  rwa [if_pos hc] at this
end Go.Proofs.YtfphceknmgadgaaDoor
