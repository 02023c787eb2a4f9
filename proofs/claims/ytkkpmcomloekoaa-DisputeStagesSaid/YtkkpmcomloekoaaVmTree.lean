/-
Regions that draw their order, where at a point two operations that act may come up: one evaluation along each of the orders.
Conditions: none. Generic: it speaks of no program.
-/
import Derived.Test.YtkkpmcomloekoaaVmHeld
namespace Go.Vm
set_option linter.unusedSimpArgs false
set_option linter.unusedVariables false

inductive Pl where
  | nil
  | one (i : Nat) (p : Pl)
  | act (i : Nat) (p : Pl)
  | two (i : Nat) (p : Pl) (j : Nat) (q : Pl)
/-- A line of operations, and what comes behind it. -/
def line : List Nat → Pl → Pl
  | [], p => p
  | i :: l, p => .one i (line l p)
def planT (P : Program) (ops : Array Oper) : Nat → Pl → Array Bool → Bool
  | 0, .nil, listed => (Region.ready .any ops listed).isEmpty
  | n + 1, .one i p, listed => (match ops[i]? with
    | some o => if heldOp P o.op then (Region.ready .any ops listed).contains i && Region.free .any ops listed i else Region.ready .any ops listed == [i]
    | none => false) && planT P ops n p (listed.setIfInBounds i true)
  | n + 1, .act i p, listed => (Region.ready .any ops listed == [i]) && planT P ops n p (listed.setIfInBounds i true)
  | n + 1, .two i p j q, listed => (Region.ready .any ops listed == [i, j]) && (planT P ops n p (listed.setIfInBounds i true) && planT P ops n q (listed.setIfInBounds j true))
  | _, _, _ => false
/-- An operation that acts, whatever it is. -/
def opGA (P : Program) (n : Nat) (bl : List Nat) (all : List Oper) (ρ : Env) (h : Heap) (X : List PanicEntry → Heap → Prop) (K : Env → Heap → Prop) (o : Option Oper) : Prop := match o with
  | some o => match o.guard with
    | none => stepW P n o ρ h (fun ρ' h' => need (Same bl h h') (K ρ' h')) X
    | some (j, want) => bnd (slotOf all j) fun s => bnd (get ρ s) fun v => ifU want v (stepW P n o ρ h (fun ρ' h' => need (Same bl h h') (K ρ' h')) X) (putK n o.dst undef ρ fun ρ' => K ρ' h)
  | none => False
@[congr] theorem opGA_congr {P : Program} {n : Nat} {bl : List Nat} {all : List Oper} {ρ : Env} {h : Heap} {X : List PanicEntry → Heap → Prop} {K : Env → Heap → Prop} {o o' : Option Oper} (e : o = o') : opGA P n bl all ρ h X K o = opGA P n bl all ρ h X K o' := by rw [e]
def denT (P : Program) (n : Nat) (bl : List Nat) (all : List Oper) (X : List PanicEntry → Heap → Prop) : Pl → Env → Heap → (Env → Heap → Prop) → Prop
  | .nil, ρ, h, K => K ρ h
  | .one i p, ρ, h, K => opHG P n bl all ρ h X (fun ρ' h' => denT P n bl all X p ρ' h' K) all[i]?
  | .act i p, ρ, h, K => opGA P n bl all ρ h X (fun ρ' h' => denT P n bl all X p ρ' h' K) all[i]?
  | .two i p j q, ρ, h, K => opGA P n bl all ρ h X (fun ρ' h' => denT P n bl all X p ρ' h' K) all[i]? ∧ opGA P n bl all ρ h X (fun ρ' h' => denT P n bl all X q ρ' h' K) all[j]?
section
variable {P : Program} {n : Nat} {bl : List Nat} {all : List Oper} {X : List PanicEntry → Heap → Prop} {Q : Exit → Act → World → Prop} {w0 : World} {h0 : Heap}
/-- A guard that is known: done, or skipped. -/
theorem guard_cases {o : Oper} {ρ : Env} {a : Act} {h : Heap} {K : Env → Heap → Prop} (hk : OkE n ρ a) (hd : opHG P n bl all ρ h X K (some o)) :
    (Region.wanted o (yielded all.toArray a.tmps) = true ∧ opHK P n bl ρ h X K (some o)) ∨ (Region.wanted o (yielded all.toArray a.tmps) = false ∧ putK n o.dst undef ρ fun ρ' => K ρ' h) := by
  unfold opHG at hd
  simp only at hd
  split at hd
  · rename_i hg
    exact .inl ⟨by unfold Region.wanted; rw [hg], hd⟩
  · rename_i j want hg
    obtain ⟨s, h1, hd⟩ := bnd_out hd
    obtain ⟨v, h2, hd⟩ := bnd_out hd
    have hy := hk.2.2 s v h2
    have dec : Region.wanted o (yielded all.toArray a.tmps) = (match v with | .bool b => b == want | _ => false) := by
      unfold Region.wanted
      rw [hg]
      simp only [yielded_of h1, hy]
      cases v <;> first | rfl | (rename_i b; cases b <;> cases want <;> rfl)
    unfold ifU at hd
    split at hd
    · rename_i b
      simp only at dec
      cases hb : (b == want) with
      | true => exact .inl ⟨by rw [dec, hb], hd.1 hb⟩
      | false => exact .inr ⟨by rw [dec, hb], hd.2 hb⟩
    · rename_i hnb
      refine .inr ⟨?_, hd⟩
      rw [dec]
      cases v <;> first | rfl | exact absurd rfl (hnb _)
/-- A guard that is known: done, or skipped. -/
theorem guard_casesA {o : Oper} {ρ : Env} {a : Act} {h : Heap} {K : Env → Heap → Prop} (hk : OkE n ρ a) (hd : opGA P n bl all ρ h X K (some o)) :
    (Region.wanted o (yielded all.toArray a.tmps) = true ∧ stepW P n o ρ h (fun ρ' h' => need (Same bl h h') (K ρ' h')) X) ∨ (Region.wanted o (yielded all.toArray a.tmps) = false ∧ putK n o.dst undef ρ fun ρ' => K ρ' h) := by
  unfold opGA at hd
  simp only at hd
  split at hd
  · rename_i hg
    exact .inl ⟨by unfold Region.wanted; rw [hg], hd⟩
  · rename_i j want hg
    obtain ⟨s, h1, hd⟩ := bnd_out hd
    obtain ⟨v, h2, hd⟩ := bnd_out hd
    have hy := hk.2.2 s v h2
    have dec : Region.wanted o (yielded all.toArray a.tmps) = (match v with | .bool b => b == want | _ => false) := by
      unfold Region.wanted
      rw [hg]
      simp only [yielded_of h1, hy]
      cases v <;> first | rfl | (rename_i b; cases b <;> cases want <;> rfl)
    unfold ifU at hd
    split at hd
    · rename_i b
      simp only at dec
      cases hb : (b == want) with
      | true => exact .inl ⟨by rw [dec, hb], hd.1 hb⟩
      | false => exact .inr ⟨by rw [dec, hb], hd.2 hb⟩
    · rename_i hnb
      refine .inr ⟨?_, hd⟩
      rw [dec]
      cases v <;> first | rfl | exact absurd rfl (hnb _)
theorem act_sound (hX : ∀ ch h a w, X ch h → OkE n [] a → w.heap = h → Rest w0 w → Q (.panic ch) a w) {i : Nat} {o : Oper} {ρ : Env} {a : Act} {w : World} {K : Env → Heap → Prop} {next : Act → World → Prop}
    (ho : all.toArray[i]? = some o) (hd : opGA P n bl all ρ w.heap X K (some o)) (hk : OkE n ρ a) (hr : Rest w0 w) (hsm : Same bl h0 w.heap)
    (hN : ∀ ρ' a' w', K ρ' w'.heap → OkE n ρ' a' → Rest w0 w' → Same bl h0 w'.heap → next a' w') : wpOp P all.toArray Q i next a w := by
  unfold wpOp
  simp only [ho]
  rcases guard_casesA hk hd with ⟨hwt, hd⟩ | ⟨hwt, hput⟩
  · rw [if_pos hwt]
    exact .inl (stepW_sound hX hd hk hr fun ρ' a' w' hK hk' hr' _ => hN ρ' a' w' hK.2 hk' hr' (hsm.trans hK.1))
  · rw [if_neg (by rw [hwt]; decide)]
    obtain ⟨ρ', hd, hk', _⟩ := putK_out hk hput
    exact hN ρ' _ w hd hk' hr hsm
theorem actH_sound (hX : ∀ ch h a w, X ch h → OkE n [] a → w.heap = h → Rest w0 w → Q (.panic ch) a w) {i : Nat} {o : Oper} {ρ : Env} {a : Act} {w : World} {K : Env → Heap → Prop} {next : Act → World → Prop}
    (ho : all.toArray[i]? = some o) (hh : ¬ heldOp P o.op = true) (hd : opHG P n bl all ρ w.heap X K (some o)) (hk : OkE n ρ a) (hr : Rest w0 w) (hsm : Same bl h0 w.heap)
    (hN : ∀ ρ' a' w', K ρ' w'.heap → OkE n ρ' a' → Rest w0 w' → Same bl h0 w'.heap → next a' w') : wpOp P all.toArray Q i next a w := by
  unfold wpOp
  simp only [ho]
  rcases guard_cases hk hd with ⟨hwt, hd⟩ | ⟨hwt, hput⟩
  · rw [if_pos hwt]
    unfold opHK at hd
    simp only at hd
    rw [if_neg hh] at hd
    exact .inl (stepW_sound hX hd hk hr fun ρ' a' w' hK hk' hr' _ => hN ρ' a' w' hK.2 hk' hr' (hsm.trans hK.1))
  · rw [if_neg (by rw [hwt]; decide)]
    obtain ⟨ρ', hd, hk', _⟩ := putK_out hk hput
    exact hN ρ' _ w hd hk' hr hsm
theorem take_sound (hs : Region.noSelect all.toArray = true) (hQ : ∀ c a w dst v, Q (.panic c) (a.put dst v) w → Q (.panic c) a w) {i : Nat} {o : Oper} {ρ : Env} {a : Act} {w : World} {K : Env → Heap → Prop} {fuel : Nat} {listed : Array Bool}
    (ho : all.toArray[i]? = some o) (hh : heldOp P o.op = true) (hrd : (Region.ready .any all.toArray listed).contains i = true) (hf : Region.free .any all.toArray listed i = true)
    (hd : opHG P n bl all ρ w.heap X K (some o)) (hk : OkE n ρ a) (hr : Rest w0 w) (hsm : Same bl h0 w.heap)
    (hN : ∀ ρ' a', K ρ' w.heap → OkE n ρ' a' → wpAnyH P .any all.toArray Q (Held bl h0 w0) fuel (listed.setIfInBounds i true) a' w) : wpAnyH P .any all.toArray Q (Held bl h0 w0) (fuel + 1) listed a w := by
  rcases guard_cases hk hd with ⟨hwt, hd⟩ | ⟨hwt, hput⟩
  · unfold opHK at hd
    simp only at hd
    rw [if_pos hh] at hd
    obtain ⟨hi, hd⟩ := hd
    obtain ⟨dst, op, ty, pos, aft, gd⟩ := o
    simp only at hh hi hd
    obtain ⟨v, hv, hput⟩ := opW_held (n := n) (dst := dst) (pos := pos) (aft := aft) (gd := gd) hh hi hd
    obtain ⟨ρ', hK, hk', he⟩ := putK_out hk hput
    refine wpAnyH_take (oi := ⟨dst, op, ty, pos, aft, gd⟩) (v := v) ho hs hf hrd (fun c a w => hQ c a w _ _) ?_ ⟨hsm, hr⟩ (hN ρ' _ hK hk')
    exact .inl ⟨hwt, fun w2 hw2 => hv a w2 hk (hsm.symm.trans hw2.1)⟩
  · obtain ⟨ρ', hK, hk', _⟩ := putK_out hk hput
    exact wpAnyH_take (oi := o) (v := undef) ho hs hf hrd (fun c a w => hQ c a w _ _) (.inr ⟨hwt, rfl⟩) ⟨hsm, hr⟩ (hN ρ' _ hK hk')
theorem denT_sound (hs : Region.noSelect all.toArray = true) (hQ : ∀ c a w dst v, Q (.panic c) (a.put dst v) w → Q (.panic c) a w)
    (hX : ∀ ch h a w, X ch h → OkE n [] a → w.heap = h → Rest w0 w → Q (.panic ch) a w) {K : Env → Heap → Prop}
    (hn : ∀ ρ' a' w', K ρ' w'.heap → OkE n ρ' a' → Rest w0 w' → Q .normal a' w') : ∀ (p : Pl) (m : Nat) (listed : Array Bool) (ρ : Env) (a : Act) (w : World),
    planT P all.toArray m p listed = true → denT P n bl all X p ρ w.heap K → OkE n ρ a → Rest w0 w → Same bl h0 w.heap → wpAnyH P .any all.toArray Q (Held bl h0 w0) m listed a w := by
  intro p
  induction p with
  | nil =>
    intro m listed ρ a w hp hd hk hr hsm
    cases m with
    | zero => exact ⟨by simpa [planT] using hp, hn ρ a w hd hk hr⟩
    | succ m => simp [planT] at hp
  | one i p ih =>
    intro m listed ρ a w hp hd hk hr hsm
    cases m with
    | zero => simp [planT] at hp
    | succ m =>
      simp only [planT, Bool.and_eq_true] at hp
      obtain ⟨hp1, hp2⟩ := hp
      unfold denT at hd
      cases ho : all[i]? with
      | none => rw [ho] at hd; exact hd.elim
      | some o =>
        have ho' : all.toArray[i]? = some o := by simpa using ho
        rw [ho] at hd
        rw [ho'] at hp1
        simp only at hp1
        by_cases hh : heldOp P o.op = true
        · rw [if_pos hh] at hp1
          simp only [Bool.and_eq_true] at hp1
          exact take_sound hs hQ ho' hh hp1.1 hp1.2 hd hk hr hsm fun ρ' a' hK hk' => ih _ _ _ _ _ hp2 hK hk' hr hsm
        · rw [if_neg hh] at hp1
          have hrd : Region.ready .any all.toArray listed = [i] := by simpa using hp1
          refine wpAnyH_all hrd (by simp) fun j hj => ?_
          have : j = i := by simpa using hj
          subst this
          exact actH_sound hX ho' hh hd hk hr hsm fun ρ' a' w' hK hk' hr' hsm' => ⟨⟨hsm', hr'⟩, ih _ _ _ _ _ hp2 hK hk' hr' hsm'⟩
  | act i p ih =>
    intro m listed ρ a w hp hd hk hr hsm
    cases m with
    | zero => simp [planT] at hp
    | succ m =>
      simp only [planT, Bool.and_eq_true] at hp
      obtain ⟨hp1, hp2⟩ := hp
      unfold denT at hd
      cases ho : all[i]? with
      | none => rw [ho] at hd; exact hd.elim
      | some o =>
        have ho' : all.toArray[i]? = some o := by simpa using ho
        rw [ho] at hd
        have hrd : Region.ready .any all.toArray listed = [i] := by simpa using hp1
        refine wpAnyH_all hrd (by simp) fun j hj => ?_
        have : j = i := by simpa using hj
        subst this
        exact act_sound hX ho' hd hk hr hsm fun ρ' a' w' hK hk' hr' hsm' => ⟨⟨hsm', hr'⟩, ih _ _ _ _ _ hp2 hK hk' hr' hsm'⟩
  | two i p j q ihp ihq =>
    intro m listed ρ a w hp hd hk hr hsm
    cases m with
    | zero => simp [planT] at hp
    | succ m =>
      simp only [planT, Bool.and_eq_true] at hp
      obtain ⟨hp1, hp2, hp3⟩ := hp
      unfold denT at hd
      obtain ⟨hd1, hd2⟩ := hd
      cases ho : all[i]? with
      | none => rw [ho] at hd1; exact hd1.elim
      | some o =>
        cases ho2 : all[j]? with
        | none => rw [ho2] at hd2; exact hd2.elim
        | some o2 =>
          have ho' : all.toArray[i]? = some o := by simpa using ho
          have ho2' : all.toArray[j]? = some o2 := by simpa using ho2
          rw [ho] at hd1
          rw [ho2] at hd2
          have hrd : Region.ready .any all.toArray listed = [i, j] := by simpa using hp1
          refine wpAnyH_all hrd (by simp) fun x hx => ?_
          rcases List.mem_cons.1 hx with rfl | hx
          · exact act_sound hX ho' hd1 hk hr hsm fun ρ' a' w' hK hk' hr' hsm' => ⟨⟨hsm', hr'⟩, ihp _ _ _ _ _ hp2 hK hk' hr' hsm'⟩
          · obtain rfl : x = j := by simpa using hx
            exact act_sound hX ho2' hd2 hk hr hsm fun ρ' a' w' hK hk' hr' hsm' => ⟨⟨hsm', hr'⟩, ihq _ _ _ _ _ hp3 hK hk' hr' hsm'⟩
end
/-- The rule, along a tree of orders. -/
theorem Meant.tree (bl : List Nat) (p : Pl) {c : Cx} {id : Nat} {l : List Oper} {k : List It} {ρ : Env} {h : Heap} (hm : c.P.follows .mixedOrders = true) (hs : Region.noSelect l.toArray = true)
    (hp : planT c.P l.toArray l.length p (Array.replicate l.length false) = true)
    (hd : denT c.P c.n bl l (fun ch h' => c.R (.panicked ch) h') p ρ h fun ρ' h' => den c k ρ' h') : @Meant c (.code (.region id l.toArray true) :: k) ρ h () := by
  intro hf b a w hb hn hk hw
  refine .of_wp (Q := fun e a' w' => match e with | .normal => TodoW c.P b (k.map It.item) a' w' (fun e w' => c.R e w'.heap ∧ Rest w w') | .panic ch => a'.defers = [] ∧ (c.R (.panicked ch) w'.heap ∧ Rest w w') | _ => False) ?_ ⟨c.fn, by rw [hb]; exact hf⟩ (fun e a' w' hq => hq)
  refine wp_region_held (S := Held bl h w) hm ?_
  subst hw
  have := denT_sound (w0 := w) (h0 := w.heap) (X := fun ch h' => c.R (.panicked ch) h') (bl := bl) (all := l) (Q := fun e a' w' => match e with | .normal => TodoW c.P b (k.map It.item) a' w' (fun e w' => c.R e w'.heap ∧ Rest w w') | .panic ch => a'.defers = [] ∧ (c.R (.panicked ch) w'.heap ∧ Rest w w') | _ => False)
    hs (fun c' a' w' dst v hq => ⟨by have h1 := hq.1; cases dst <;> exact h1, hq.2⟩) (fun ch h a w' hx hk hw hr => ⟨hk.1, by subst hw; exact ⟨hx, hr⟩⟩)
    (fun ρ' a' w' hK hk' hr' => den_sound' c _ _ _ _ (Nat.le_refl _) hK w hf b a' w' hb hn hk' rfl hr') p l.length (Array.replicate l.length false) ρ a { w with drawn := w.drawn + 1 } hp hd hk ⟨rfl, rfl, rfl⟩ (fun _ _ => rfl)
  simpa using this
variable (P : Program) (n : Nat) (bl : List Nat) (all : List Oper) (X : List PanicEntry → Heap → Prop) (ρ : Env) (h : Heap) (K : Env → Heap → Prop)
theorem denT_nil : denT P n bl all X .nil ρ h K = K ρ h := rfl
theorem denT_one (i : Nat) (p : Pl) : denT P n bl all X (.one i p) ρ h K = opHG P n bl all ρ h X (fun ρ' h' => denT P n bl all X p ρ' h' K) all[i]? := rfl
theorem denT_act (i : Nat) (p : Pl) : denT P n bl all X (.act i p) ρ h K = opGA P n bl all ρ h X (fun ρ' h' => denT P n bl all X p ρ' h' K) all[i]? := rfl
theorem denT_two (i : Nat) (p : Pl) (j : Nat) (q : Pl) : denT P n bl all X (.two i p j q) ρ h K = (opGA P n bl all ρ h X (fun ρ' h' => denT P n bl all X p ρ' h' K) all[i]? ∧ opGA P n bl all ρ h X (fun ρ' h' => denT P n bl all X q ρ' h' K) all[j]?) := rfl
variable (dst : Option Nat) (ty : TypeId) (pos : String) (aft : Array Edge)
theorem opGA_none (op : Op) : opGA P n bl all ρ h X K (some ⟨dst, op, ty, pos, aft, none⟩) = stepW P n ⟨dst, op, ty, pos, aft, none⟩ ρ h (fun ρ' h' => need (Same bl h h') (K ρ' h')) X := rfl
theorem opGA_some (op : Op) (j : Nat) (want : Bool) : opGA P n bl all ρ h X K (some ⟨dst, op, ty, pos, aft, some (j, want)⟩) = bnd (slotOf all j) fun s => bnd (get ρ s) fun v => ifU want v (stepW P n ⟨dst, op, ty, pos, aft, some (j, want)⟩ ρ h (fun ρ' h' => need (Same bl h h') (K ρ' h')) X) (putK n dst undef ρ fun ρ' => K ρ' h) := rfl
theorem denT_line_nil (p : Pl) : denT P n bl all X (line [] p) ρ h K = denT P n bl all X p ρ h K := rfl
theorem denT_line_cons (i : Nat) (l : List Nat) (p : Pl) : denT P n bl all X (line (i :: l) p) ρ h K = opHG P n bl all ρ h X (fun ρ' h' => denT P n bl all X (line l p) ρ' h' K) all[i]? := rfl
theorem vmT : type_of% (And.intro @denT_nil (And.intro @denT_one (And.intro @denT_act (And.intro @denT_two (And.intro @denT_line_nil (And.intro @denT_line_cons (And.intro @opGA_none (@opGA_some)))))))) := And.intro @denT_nil (And.intro @denT_one (And.intro @denT_act (And.intro @denT_two (And.intro @denT_line_nil (And.intro @denT_line_cons (And.intro @opGA_none (@opGA_some)))))))
end Go.Vm
