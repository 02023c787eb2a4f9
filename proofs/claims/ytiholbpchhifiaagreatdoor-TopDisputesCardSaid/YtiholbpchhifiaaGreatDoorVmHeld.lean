/-
Regions that draw their order, with calls that write: every call comes up alone, what else there is only reads blocks that no call writes: one evaluation along one order serves every order.
Conditions: none. Generic: it speaks of no program.
-/
import Derived.OrdersHeld
import Derived.Test.YtiholbpchhifiaaGreatDoorVmQEq
namespace Go.Vm
set_option linter.unusedSimpArgs false
set_option linter.unusedVariables false

def Same (bl : List Nat) (h h' : Heap) : Prop := ∀ b ∈ bl, h'[b]? = h[b]?
/-- Operations that do not look at the heap. -/
def freeOp (P : Program) : Op → Bool
  | .load .. => false
  | .call _ => false
  | op => quietOp P op
/-- Operations that are taken first: they read at most the blocks of the list. -/
def heldOp (P : Program) : Op → Bool
  | .load .. => true
  | op => freeOp P op
def inBl (bl : List Nat) (ρ : Env) : Op → Prop
  | .load _ x => match evO ρ x with | some (.pointer (some a)) => a.block ∈ bl | _ => False
  | _ => True
def planB (P : Program) (ops : Array Oper) : List Nat → Array Bool → Bool
  | [], listed => (Region.ready .any ops listed).isEmpty
  | i :: l, listed => (match ops[i]? with
    | some o => if heldOp P o.op then (Region.ready .any ops listed).contains i && Region.free .any ops listed i else Region.ready .any ops listed == [i]
    | none => false) && planB P ops l (listed.setIfInBounds i true)
def opHK (P : Program) (n : Nat) (bl : List Nat) (ρ : Env) (h : Heap) (X : List PanicEntry → Heap → Prop) (K : Env → Heap → Prop) (o : Option Oper) : Prop := match o with
  | some o => if heldOp P o.op then need (inBl bl ρ o.op) (opW P o.op o.type ρ h fun v h' => putK n o.dst v ρ fun ρ' => K ρ' h)
      else stepW P n o ρ h (fun ρ' h' => need (Same bl h h') (K ρ' h')) X
  | none => False
/-- What a guard asks: is it the wanted Boolean? what was skipped holds none. -/
def ifU (want : Bool) (v : Value) (A B : Prop) : Prop := match v with | .bool b => ifB (b == want) A B | _ => B
@[congr] theorem ifU_congr {want : Bool} {v v' : Value} {A B : Prop} (h : v = v') : ifU want v A B = ifU want v' A B := by rw [h]
theorem ifU_bool (want b : Bool) (A B : Prop) : ifU want (.bool b) A B = ifB (b == want) A B := rfl
theorem ifU_undef (want : Bool) (A B : Prop) : ifU want undef A B = B := rfl
/-- An operation that may be guarded: what decides it is known. -/
def opHG (P : Program) (n : Nat) (bl : List Nat) (all : List Oper) (ρ : Env) (h : Heap) (X : List PanicEntry → Heap → Prop) (K : Env → Heap → Prop) (o : Option Oper) : Prop := match o with
  | some o => match o.guard with
    | none => opHK P n bl ρ h X K (some o)
    | some (j, want) => bnd (slotOf all j) fun s => bnd (get ρ s) fun v => ifU want v (opHK P n bl ρ h X K (some o)) (putK n o.dst undef ρ fun ρ' => K ρ' h)
  | none => False
def denH (P : Program) (n : Nat) (bl : List Nat) (all : List Oper) (X : List PanicEntry → Heap → Prop) : List Nat → Env → Heap → (Env → Heap → Prop) → Prop
  | [], ρ, h, K => K ρ h
  | i :: l, ρ, h, K => opHG P n bl all ρ h X (fun ρ' h' => denH P n bl all X l ρ' h' K) all[i]?
theorem Same.trans {bl : List Nat} {h1 h2 h3 : Heap} (h : Same bl h1 h2) (h' : Same bl h2 h3) : Same bl h1 h3 := fun b hb => (h' b hb).trans (h b hb)
theorem Same.symm {bl : List Nat} {h1 h2 : Heap} (h : Same bl h1 h2) : Same bl h2 h1 := fun b hb => (h b hb).symm
theorem rdVar_same {P : Program} {bl : List Nat} {h h' : Heap} (hs : Same bl h h') {t : TypeId} {a : Addr} (hb : a.block ∈ bl) : rdVar P h' t a = rdVar P h t a := by
  unfold rdVar rdCells cellH
  rw [hs _ hb]
section
variable {P : Program} {n : Nat} {ρ : Env} {h : Heap} {K : Value → Heap → Prop} {dst : Option Nat} {ty : TypeId} {pos : String} {aft : Array Edge} {gd : Option (Nat × Bool)}
theorem opW_free {op : Op} (hq : freeOp P op = true) (hp : opW P op ty ρ h K) :
    ∃ v, (∀ (a : Act) (w : World), OkE n ρ a → (execOp a.eval ⟨dst, op, ty, pos, aft, gd⟩).run P w = .ok (.value v) w) ∧ K v h := by
  unfold opW at hp
  split at hp
  · obtain ⟨v, hv, hK⟩ := bnd_out hp
    exact ⟨v, fun a w hk => by simp [execOp, evO_eval hk hv], hK⟩
  · obtain ⟨v, hv, hK⟩ := bnd_out hp
    exact ⟨v, fun a w hk => by simp [execOp, evO_eval hk hv], hK⟩
  · obtain ⟨v, hv, hp⟩ := bnd_out hp
    unfold ifV at hp
    split at hp
    · rename_i b
      cases b with
      | true =>
        obtain ⟨u, hu, hK⟩ := bnd_out (hp.1 rfl)
        exact ⟨u, fun a w hk => by simp [execOp, evO_eval hk hv, evO_eval hk hu, asBool], hK⟩
      | false =>
        obtain ⟨u, hu, hK⟩ := bnd_out (hp.2 rfl)
        exact ⟨u, fun a w hk => by simp [execOp, evO_eval hk hv, evO_eval hk hu, asBool], hK⟩
    · exact hp.elim
  · cases hq
  · cases hq
  · rename_i t ps
    obtain ⟨vs, hv, hp⟩ := bnd_out hp
    obtain ⟨v, hb, hK⟩ := bnd_out hp
    obtain ⟨c, hc, rfl⟩ := bldV_sound hb
    refine ⟨_, fun a w hk => ?_, hK⟩
    have hpe := evP_eval hk hv
    have : (ps.map fun (x : Nat × Operand) => (x.1, a.eval x.2)).toList = vs := by rw [← hpe]; simp
    have hr := run_build (P := P) w t (ps.map fun (x : Nat × Operand) => (x.1, a.eval x.2)) c (by rw [this]; exact hc)
    simp [execOp, hr]
  · cases hq
  · cases hq
  · cases hq
  · obtain ⟨p, hp1, hp⟩ := bnd_out hp
    obtain ⟨ad, ha, hK⟩ := bnd_out hp
    have := addrOf_out ha
    subst this
    exact ⟨_, fun a w hk => by simp [execOp, evO_eval hk hp1], hK⟩
  · rename_i op t x y t'
    obtain ⟨u, hu, hp⟩ := bnd_out hp
    obtain ⟨v, hv, hp⟩ := bnd_out hp
    obtain ⟨r, hr, hK⟩ := binW_sound (P := P) (x := x) (y := y) hp
    refine ⟨r, fun a w hk => ?_, hK⟩
    simp only [execOp, evO_eval hk hu, evO_eval hk hv]
    rw [Sem.run_bind, hr w]
    rfl
  · obtain ⟨v, hv, hp⟩ := bnd_out hp
    obtain ⟨u, hu, hK⟩ := bnd_out hp
    refine ⟨u, fun a w hk => ?_, hK⟩
    unfold unV at hu
    split at hu
    · simp at hu; subst hu; simp [execOp, evO_eval hk hv, Op.unary, Op.intArith]
    · simp at hu; subst hu; simp [execOp, evO_eval hk hv, Op.unary]
    · cases hu
  · rename_i s d x
    obtain ⟨v, hv, hp⟩ := bnd_out hp
    simp only [freeOp, quietOp] at hq
    split at hq
    · rename_i k hd
      unfold cnvW at hp
      split at hp
      · rename_i h1 h2
        split at hp
        · exact ⟨_, fun a w hk => by simp [execOp, evO_eval hk hv, convert, underlying, h1, h2, Conv.intToInt], hp⟩
        · exact hp.elim
      · rename_i h1 h2; rw [hd] at h2; cases h2
      · rename_i h1 h2; rw [hd] at h2; cases h2
      · rename_i h1 h2 h3
        obtain ⟨_, w', hr, _, _⟩ := hp { (default : World) with heap := h } rfl
        cases hs : P.underlying s with
        | some ds => exact (h1 ds k hs hd).elim
        | none => simp [convert, underlying, hs] at hr
    · cases hq
  · obtain ⟨v, hv, hp⟩ := bnd_out hp
    obtain ⟨hc, hK⟩ := hp
    exact ⟨_, fun a w hk => by simp [execOp, evO_eval hk hv, run_makeInterface w _ _ hc], hK⟩
  · obtain ⟨us, hu, hp⟩ := bnd_out hp
    obtain ⟨vs, hv, hK⟩ := bnd_out hp
    exact ⟨_, fun a w hk => by simp [execOp, arr_eval hk hu, arr_eval hk hv, Instr.makeFunc], hK⟩
  · cases hq
  · cases hq
  · obtain ⟨v, hv, hp⟩ := bnd_out hp
    obtain ⟨l, hl, hp⟩ := bnd_out hp
    obtain ⟨r, hr, hp⟩ := bnd_out hp
    obtain ⟨u, hu, hK⟩ := slW_sound (P := P) hp
    refine ⟨u, fun a w hk => ?_, hK⟩
    have opt : ∀ {o : Option Operand} {x : Option Value}, optO ρ o = some x → o.map a.eval = x := by
      intro o x ho
      cases o with
      | none => simp [optO] at ho; simp [ho]
      | some y =>
        simp only [optO] at ho
        cases hy : evO ρ y with
        | none => simp [hy] at ho
        | some z => simp [hy] at ho; simp [evO_eval hk hy, ho]
    simp [execOp, evO_eval hk hv, opt hl, opt hr, hu w]
  · obtain ⟨v, hv, hp⟩ := bnd_out hp
    obtain ⟨l, hl, hp⟩ := bnd_out hp
    obtain ⟨r, hr, hp⟩ := bnd_out hp
    obtain ⟨mv, hm, hp⟩ := bnd_out hp
    obtain ⟨u, hu, hK⟩ := slW3_sound (P := P) hp
    refine ⟨u, fun a w hk => ?_, hK⟩
    have opt : ∀ {o : Option Operand} {x : Option Value}, optO ρ o = some x → o.map a.eval = x := by
      intro o x ho
      cases o with
      | none => simp [optO] at ho; simp [ho]
      | some y =>
        simp only [optO] at ho
        cases hy : evO ρ y with
        | none => simp [hy] at ho
        | some z => simp [hy] at ho; simp [evO_eval hk hy, ho]
    simp [execOp, evO_eval hk hv, opt hl, opt hr, evO_eval hk hm, hu w]
  · obtain ⟨p, hp1, hp⟩ := bnd_out hp
    obtain ⟨ad, ha, hp⟩ := bnd_out hp
    obtain ⟨f, hf, hp⟩ := bnd_out hp
    obtain ⟨hz, hK⟩ := hp
    have := addrOf_out ha
    subst this
    obtain ⟨fs, g, h1, h2, h3, h4⟩ := fld_out hf
    refine ⟨_, fun a w hk => ?_, hK⟩
    have hso : (sizeOf g.type).run P w = .ok f.2.2 w := run_sizeOf (b := f.2.1) h4
    simp [execOp, Instr.fieldAt, underlying, h1, h2, Instr.sureAddr, evO_eval hk hp1, fieldPlace, hso, hz, h3]
  · obtain ⟨v, hv, hp⟩ := bnd_out hp
    obtain ⟨u, hu, hK⟩ := bnd_out hp
    exact ⟨u, fun a w hk => by simp [execOp, evO_eval hk hv, fldV_sound hu], hK⟩
  · obtain ⟨v, hv, hp⟩ := bnd_out hp
    obtain ⟨i, hi, hp⟩ := bnd_out hp
    obtain ⟨u, hu, hK⟩ := ixaW_sound (P := P) hp
    exact ⟨u, fun a w hk => by simp [execOp, evO_eval hk hv, evO_eval hk hi, hu w], hK⟩
  · obtain ⟨v, hv, hp⟩ := bnd_out hp
    obtain ⟨i, hi, hp⟩ := bnd_out hp
    obtain ⟨u, hu, hK⟩ := idxW_sound (P := P) hp
    exact ⟨u, fun a w hk => by simp [execOp, evO_eval hk hv, evO_eval hk hi, hu w], hK⟩
  · cases hq
  · cases hq
  · cases hq
  · cases hq
  · cases hq
  · cases hq
  · obtain ⟨v, hv, hp'⟩ := bnd_out hp
    clear hp
    split at hp'
    · obtain ⟨u, hu, hK⟩ := bnd_out hp'
      exact ⟨u, fun a w hk => by simp [execOp, evO_eval hk hv, Instr.extract, hu], hK⟩
    · exact hp'.elim
  · rename_i b args ts
    cases b <;> simp [freeOp, quietOp] at hq
  · exact hp.elim
theorem opW_held {op : Op} {bl : List Nat} (hq : heldOp P op = true) (hi : inBl bl ρ op) (hp : opW P op ty ρ h K) :
    ∃ v, (∀ (a : Act) (w : World), OkE n ρ a → Same bl h w.heap → (execOp a.eval ⟨dst, op, ty, pos, aft, gd⟩).run P w = .ok (.value v) w) ∧ K v h := by
  by_cases hf : freeOp P op = true
  · obtain ⟨v, h1, h2⟩ := opW_free (n := n) (dst := dst) (pos := pos) (aft := aft) (gd := gd) hf hp
    exact ⟨v, fun a w hk _ => h1 a w hk, h2⟩
  · unfold heldOp at hq
    split at hq
    · unfold opW at hp
      obtain ⟨p, hp1, hp⟩ := bnd_out hp
      obtain ⟨ad, ha, hp⟩ := bnd_out hp
      obtain ⟨v, hv, hK⟩ := bnd_out hp
      have := addrOf_out ha
      subst this
      simp only [inBl, hp1] at hi
      exact ⟨v, fun a w hk hs => by simp [execOp, Instr.loadAt, Instr.sureAddr, evO_eval hk hp1, rdVar_sound rfl ((rdVar_same hs hi).trans hv)], hK⟩
    · exact absurd hq hf
end
section
variable {P : Program} {n : Nat} {bl : List Nat} {all : List Oper} {X : List PanicEntry → Heap → Prop} {Q : Exit → Act → World → Prop} {w0 : World} {h0 : Heap}
def Held (bl : List Nat) (h0 : Heap) (w0 w : World) : Prop := Same bl h0 w.heap ∧ Rest w0 w
theorem denH_sound (hs : Region.noSelect all.toArray = true) (hQ : ∀ c a w dst v, Q (.panic c) (a.put dst v) w → Q (.panic c) a w)
    (hX : ∀ ch h a w, X ch h → OkE n [] a → w.heap = h → Rest w0 w → Q (.panic ch) a w) {K : Env → Heap → Prop}
    (hn : ∀ ρ' a' w', K ρ' w'.heap → OkE n ρ' a' → Rest w0 w' → Q .normal a' w') : ∀ (l : List Nat) (listed : Array Bool) (ρ : Env) (a : Act) (w : World),
    planB P all.toArray l listed = true → denH P n bl all X l ρ w.heap K → OkE n ρ a → Rest w0 w → Same bl h0 w.heap → wpAnyH P .any all.toArray Q (Held bl h0 w0) l.length listed a w := by
  intro l
  induction l with
  | nil =>
    intro listed ρ a w hp hd hk hr hsm
    exact ⟨by simpa [planB] using hp, hn ρ a w hd hk hr⟩
  | cons i l ih =>
    intro listed ρ a w hp hd hk hr hsm
    unfold planB at hp
    simp only [Bool.and_eq_true] at hp
    obtain ⟨hp1, hp2⟩ := hp
    unfold denH at hd
    cases ho : all[i]? with
    | none => rw [ho] at hd; exact hd.elim
    | some o =>
      have ho' : all.toArray[i]? = some o := by simpa using ho
      rw [ho] at hd
      rw [ho'] at hp1
      simp only at hp1
      have main : Region.wanted o (yielded all.toArray a.tmps) = true → opHK P n bl ρ w.heap X (fun ρ' h' => denH P n bl all X l ρ' h' K) (some o) → wpAnyH P .any all.toArray Q (Held bl h0 w0) (l.length + 1) listed a w := by
        intro hwt hd
        unfold opHK at hd
        simp only at hd
        by_cases hh : heldOp P o.op = true
        · rw [if_pos hh] at hd
          rw [if_pos hh] at hp1
          simp only [Bool.and_eq_true] at hp1
          obtain ⟨hi, hd⟩ := hd
          obtain ⟨dst, op, ty, pos, aft, gd⟩ := o
          simp only at hh hi hd
          obtain ⟨v, hv, hput⟩ := opW_held (n := n) (dst := dst) (pos := pos) (aft := aft) (gd := gd) hh hi hd
          obtain ⟨ρ', hK, hk', he⟩ := putK_out hk hput
          refine wpAnyH_take (oi := ⟨dst, op, ty, pos, aft, gd⟩) (v := v) ho' hs hp1.2 hp1.1 (fun c a w => hQ c a w _ _) ?_ ⟨hsm, hr⟩ (ih _ _ _ _ hp2 hK hk' hr hsm)
          exact .inl ⟨hwt, fun w2 hw2 => hv a w2 hk (hsm.symm.trans hw2.1)⟩
        · rw [if_neg hh] at hd
          rw [if_neg hh] at hp1
          have hrd : Region.ready .any all.toArray listed = [i] := by simpa using hp1
          refine wpAnyH_all hrd (by simp) fun j hj => ?_
          have : j = i := by simpa using hj
          subst this
          unfold wpOp
          simp only [ho']
          rw [if_pos hwt]
          refine .inl (stepW_sound hX hd hk hr fun ρ' a' w' hK hk' hr' _ => ?_)
          have h2 : Same bl h0 w'.heap := hsm.trans hK.1
          exact ⟨⟨h2, hr'⟩, ih _ _ _ _ hp2 hK.2 hk' hr' h2⟩
      have skip : Region.wanted o (yielded all.toArray a.tmps) = false → putK n o.dst undef ρ (fun ρ' => denH P n bl all X l ρ' w.heap K) → wpAnyH P .any all.toArray Q (Held bl h0 w0) (l.length + 1) listed a w := by
        intro hwt hput
        obtain ⟨ρ', hd, hk', _⟩ := putK_out hk hput
        by_cases hh : heldOp P o.op = true
        · rw [if_pos hh] at hp1
          simp only [Bool.and_eq_true] at hp1
          exact wpAnyH_take (oi := o) (v := undef) ho' hs hp1.2 hp1.1 (fun c a w => hQ c a w _ _) (.inr ⟨hwt, rfl⟩) ⟨hsm, hr⟩ (ih _ _ _ _ hp2 hd hk' hr hsm)
        · rw [if_neg hh] at hp1
          have hrd : Region.ready .any all.toArray listed = [i] := by simpa using hp1
          refine wpAnyH_all hrd (by simp) fun j hj => ?_
          have : j = i := by simpa using hj
          subst this
          unfold wpOp
          simp only [ho']
          rw [if_neg (by rw [hwt]; decide)]
          exact ⟨⟨hsm, hr⟩, ih _ _ _ _ hp2 hd hk' hr hsm⟩
      unfold opHG at hd
      simp only at hd
      split at hd
      · rename_i hg
        exact main (by unfold Region.wanted; rw [hg]) hd
      · rename_i j want hg
        obtain ⟨s, h1, hd⟩ := bnd_out hd
        obtain ⟨v, h2, hd⟩ := bnd_out hd
        have hy := hk.2.2 s v h2
        have dec : Region.wanted o (yielded all.toArray a.tmps) = (match v with | .bool b => b == want | _ => false) := by
          unfold Region.wanted
          rw [hg]
          simp only [yielded_of h1, hy]
          cases v <;> first | rfl | (rename_i b; cases b <;> cases want <;> rfl)
        unfold ifU at hd
        split at hd
        · rename_i b
          simp only at dec
          cases hb : (b == want) with
          | true => exact main (by rw [dec, hb]) (hd.1 hb)
          | false => exact skip (by rw [dec, hb]) (hd.2 hb)
        · rename_i hnb
          refine skip ?_ hd
          rw [dec]
          cases v <;> first | rfl | exact absurd rfl (hnb _)
end
/-- The rule: every call of the region comes up alone, in the order of the plan; what else there is reads at most the blocks of the list. -/
theorem Meant.held (bl pl : List Nat) {c : Cx} {id : Nat} {l : List Oper} {k : List It} {ρ : Env} {h : Heap} (hm : c.P.follows .mixedOrders = true) (hs : Region.noSelect l.toArray = true) (hl : pl.length = l.length)
    (hp : planB c.P l.toArray pl (Array.replicate l.length false) = true)
    (hd : denH c.P c.n bl l (fun ch h' => c.R (.panicked ch) h') pl ρ h fun ρ' h' => den c k ρ' h') : @Meant c (.code (.region id l.toArray true) :: k) ρ h () := by
  intro hf b a w hb hn hk hw
  refine .of_wp (Q := fun e a' w' => match e with | .normal => TodoW c.P b (k.map It.item) a' w' (fun e w' => c.R e w'.heap ∧ Rest w w') | .panic ch => a'.defers = [] ∧ (c.R (.panicked ch) w'.heap ∧ Rest w w') | _ => False) ?_ ⟨c.fn, by rw [hb]; exact hf⟩ (fun e a' w' hq => hq)
  refine wp_region_held (S := Held bl h w) hm ?_
  subst hw
  have := denH_sound (w0 := w) (h0 := w.heap) (X := fun ch h' => c.R (.panicked ch) h') (bl := bl) (all := l) (Q := fun e a' w' => match e with | .normal => TodoW c.P b (k.map It.item) a' w' (fun e w' => c.R e w'.heap ∧ Rest w w') | .panic ch => a'.defers = [] ∧ (c.R (.panicked ch) w'.heap ∧ Rest w w') | _ => False)
    hs (fun c' a' w' dst v hq => ⟨by have h1 := hq.1; cases dst <;> exact h1, hq.2⟩) (fun ch h a w' hx hk hw hr => ⟨hk.1, by subst hw; exact ⟨hx, hr⟩⟩)
    (fun ρ' a' w' hK hk' hr' => den_sound' c _ _ _ _ (Nat.le_refl _) hK w hf b a' w' hb hn hk' rfl hr') pl (Array.replicate l.length false) ρ a { w with drawn := w.drawn + 1 } hp hd hk ⟨rfl, rfl, rfl⟩ (fun _ _ => rfl)
  rw [hl] at this
  simpa using this
/-! equations -/
@[congr] theorem opHK_congr {P : Program} {n : Nat} {bl : List Nat} {ρ : Env} {h : Heap} {X : List PanicEntry → Heap → Prop} {K : Env → Heap → Prop} {o o' : Option Oper} (e : o = o') : opHK P n bl ρ h X K o = opHK P n bl ρ h X K o' := by rw [e]
@[congr] theorem opHG_congr {P : Program} {n : Nat} {bl : List Nat} {all : List Oper} {ρ : Env} {h : Heap} {X : List PanicEntry → Heap → Prop} {K : Env → Heap → Prop} {o o' : Option Oper} (e : o = o') : opHG P n bl all ρ h X K o = opHG P n bl all ρ h X K o' := by rw [e]
section
variable (P : Program) (n : Nat) (bl : List Nat) (all : List Oper) (X : List PanicEntry → Heap → Prop) (ρ : Env) (h : Heap) (K : Env → Heap → Prop)
variable (dst : Option Nat) (ty : TypeId) (pos : String) (aft : Array Edge) (gd : Option (Nat × Bool))
theorem denH_nil : denH P n bl all X [] ρ h K = K ρ h := rfl
theorem denH_cons (i : Nat) (l : List Nat) : denH P n bl all X (i :: l) ρ h K = opHG P n bl all ρ h X (fun ρ' h' => denH P n bl all X l ρ' h' K) all[i]? := rfl
theorem opHG_none (op : Op) : opHG P n bl all ρ h X K (some ⟨dst, op, ty, pos, aft, none⟩) = opHK P n bl ρ h X K (some ⟨dst, op, ty, pos, aft, none⟩) := rfl
theorem opHG_some (op : Op) (j : Nat) (want : Bool) : opHG P n bl all ρ h X K (some ⟨dst, op, ty, pos, aft, some (j, want)⟩) = bnd (slotOf all j) fun s => bnd (get ρ s) fun v => ifU want v (opHK P n bl ρ h X K (some ⟨dst, op, ty, pos, aft, some (j, want)⟩)) (putK n dst undef ρ fun ρ' => K ρ' h) := rfl
theorem opHK_act (op : Op) (hh : heldOp P op = false) : opHK P n bl ρ h X K (some ⟨dst, op, ty, pos, aft, gd⟩) = stepW P n ⟨dst, op, ty, pos, aft, gd⟩ ρ h (fun ρ' h' => need (Same bl h h') (K ρ' h')) X := by
  simp only [opHK, hh, Bool.false_eq_true, if_false]
theorem opHK_bi (b : Builtin) (xs : List Operand) (ts : Array TypeId) : opHK P n bl ρ h X K (some ⟨dst, .call ⟨.builtin b, xs.toArray, ts⟩, ty, pos, aft, gd⟩) = stepW P n ⟨dst, .call ⟨.builtin b, xs.toArray, ts⟩, ty, pos, aft, gd⟩ ρ h (fun ρ' h' => need (Same bl h h') (K ρ' h')) X := rfl
theorem opHK_len (x : Operand) (t : TypeId) : opHK P n bl ρ h X K (some ⟨dst, .call ⟨.builtin .len, #[x], #[t]⟩, ty, pos, aft, gd⟩) = stepW P n ⟨dst, .call ⟨.builtin .len, #[x], #[t]⟩, ty, pos, aft, gd⟩ ρ h (fun ρ' h' => need (Same bl h h') (K ρ' h')) X := rfl
theorem opHK_box (t : TypeId) (x : Operand) : opHK P n bl ρ h X K (some ⟨dst, .box t x, ty, pos, aft, gd⟩) = stepW P n ⟨dst, .box t x, ty, pos, aft, gd⟩ ρ h (fun ρ' h' => need (Same bl h h') (K ρ' h')) X := rfl
theorem opHK_makeMap (t : TypeId) : opHK P n bl ρ h X K (some ⟨dst, .makeMap t none, ty, pos, aft, gd⟩) = stepW P n ⟨dst, .makeMap t none, ty, pos, aft, gd⟩ ρ h (fun ρ' h' => need (Same bl h h') (K ρ' h')) X := rfl
theorem opHK_lookup (t : TypeId) (x i : Operand) (ok : Bool) : opHK P n bl ρ h X K (some ⟨dst, .lookup t x i ok, ty, pos, aft, gd⟩) = stepW P n ⟨dst, .lookup t x i ok, ty, pos, aft, gd⟩ ρ h (fun ρ' h' => need (Same bl h h') (K ρ' h')) X := rfl
theorem opHK_mapUpdate (t : TypeId) (x i y : Operand) : opHK P n bl ρ h X K (some ⟨dst, .mapUpdate t x i y, ty, pos, aft, gd⟩) = stepW P n ⟨dst, .mapUpdate t x i y, ty, pos, aft, gd⟩ ρ h (fun ρ' h' => need (Same bl h h') (K ρ' h')) X := rfl
theorem opHK_insert (t : TypeId) (x i y : Operand) : opHK P n bl ρ h X K (some ⟨dst, .insert t x i y, ty, pos, aft, gd⟩) = stepW P n ⟨dst, .insert t x i y, ty, pos, aft, gd⟩ ρ h (fun ρ' h' => need (Same bl h h') (K ρ' h')) X := rfl
theorem opHK_makeSlice (t : TypeId) (l c : Operand) : opHK P n bl ρ h X K (some ⟨dst, .makeSlice t l c, ty, pos, aft, gd⟩) = stepW P n ⟨dst, .makeSlice t l c, ty, pos, aft, gd⟩ ρ h (fun ρ' h' => need (Same bl h h') (K ρ' h')) X := rfl
theorem opHK_call (f : Operand) (xs : List Operand) (ts : Array TypeId) : opHK P n bl ρ h X K (some ⟨dst, .call ⟨.value f, xs.toArray, ts⟩, ty, pos, aft, gd⟩) = stepW P n ⟨dst, .call ⟨.value f, xs.toArray, ts⟩, ty, pos, aft, gd⟩ ρ h (fun ρ' h' => need (Same bl h h') (K ρ' h')) X := rfl
theorem opHK_store (t : TypeId) (x y : Operand) : opHK P n bl ρ h X K (some ⟨dst, .store t x y, ty, pos, aft, gd⟩) = stepW P n ⟨dst, .store t x y, ty, pos, aft, gd⟩ ρ h (fun ρ' h' => need (Same bl h h') (K ρ' h')) X := rfl
theorem opHK_alloc (t : TypeId) : opHK P n bl ρ h X K (some ⟨dst, .alloc t, ty, pos, aft, gd⟩) = stepW P n ⟨dst, .alloc t, ty, pos, aft, gd⟩ ρ h (fun ρ' h' => need (Same bl h h') (K ρ' h')) X := rfl
theorem opHK_buildSlice (t : TypeId) (i : Nat) (ps : List (Nat × Operand)) : opHK P n bl ρ h X K (some ⟨dst, .buildSlice t i ps.toArray, ty, pos, aft, gd⟩) = stepW P n ⟨dst, .buildSlice t i ps.toArray, ty, pos, aft, gd⟩ ρ h (fun ρ' h' => need (Same bl h h') (K ρ' h')) X := rfl
theorem opHK_load (t : TypeId) (x : Operand) : opHK P n bl ρ h X K (some ⟨dst, .load t x, ty, pos, aft, gd⟩) = bnd (evO ρ x) fun p => bnd (addrOf p) fun a => need (a.block ∈ bl) (bnd (rdVar P h t a) fun v => putK n dst v ρ fun ρ' => K ρ' h) := by
  simp only [opHK, heldOp, if_true, inBl, opW]
  cases evO ρ x with
  | none => simp [bnd, need]
  | some p =>
    simp only [bnd_some]
    cases hp : addrOf p with
    | none => 
      unfold addrOf at hp
      split at hp
      · cases hp
      · simp only [need, bnd]; split <;> simp_all
    | some a =>
      have := addrOf_out hp
      subst this
      rfl
theorem opHK_move (x : Operand) : opHK P n bl ρ h X K (some ⟨dst, .move x, ty, pos, aft, gd⟩) = stepW P n ⟨dst, .move x, ty, pos, aft, gd⟩ ρ h (fun ρ' _ => K ρ' h) X := by
  simp only [opHK, heldOp, freeOp, quietOp, inBl, if_true, need, true_and]; rfl
theorem opHK_assign (x : Operand) : opHK P n bl ρ h X K (some ⟨dst, .assign x, ty, pos, aft, gd⟩) = stepW P n ⟨dst, .assign x, ty, pos, aft, gd⟩ ρ h (fun ρ' _ => K ρ' h) X := by
  simp only [opHK, heldOp, freeOp, quietOp, inBl, if_true, need, true_and]; rfl
theorem opHK_pick (x a b : Operand) : opHK P n bl ρ h X K (some ⟨dst, .pick x a b, ty, pos, aft, gd⟩) = stepW P n ⟨dst, .pick x a b, ty, pos, aft, gd⟩ ρ h (fun ρ' _ => K ρ' h) X := by
  simp only [opHK, heldOp, freeOp, quietOp, inBl, if_true, need, true_and]; rfl
theorem opHK_build (t : TypeId) (ps : List (Nat × Operand)) : opHK P n bl ρ h X K (some ⟨dst, .build t ps.toArray, ty, pos, aft, gd⟩) = stepW P n ⟨dst, .build t ps.toArray, ty, pos, aft, gd⟩ ρ h (fun ρ' _ => K ρ' h) X := by
  simp only [opHK, heldOp, freeOp, quietOp, inBl, if_true, need, true_and]; rfl
theorem opHK_nilCheck (x : Operand) : opHK P n bl ρ h X K (some ⟨dst, .nilCheck x, ty, pos, aft, gd⟩) = stepW P n ⟨dst, .nilCheck x, ty, pos, aft, gd⟩ ρ h (fun ρ' _ => K ρ' h) X := by
  simp only [opHK, heldOp, freeOp, quietOp, inBl, if_true, need, true_and]; rfl
theorem opHK_binOp (op : BinOp) (t : TypeId) (x y : Operand) (t' : TypeId) : opHK P n bl ρ h X K (some ⟨dst, .binOp op t x y t', ty, pos, aft, gd⟩) = stepW P n ⟨dst, .binOp op t x y t', ty, pos, aft, gd⟩ ρ h (fun ρ' _ => K ρ' h) X := by
  simp only [opHK, heldOp, freeOp, quietOp, inBl, if_true, need, true_and]; rfl
theorem opHK_unOp (op : UnOp) (t : TypeId) (x : Operand) : opHK P n bl ρ h X K (some ⟨dst, .unOp op t x, ty, pos, aft, gd⟩) = stepW P n ⟨dst, .unOp op t x, ty, pos, aft, gd⟩ ρ h (fun ρ' _ => K ρ' h) X := by
  simp only [opHK, heldOp, freeOp, quietOp, inBl, if_true, need, true_and]; rfl
theorem opHK_makeInterface (t : TypeId) (x : Operand) : opHK P n bl ρ h X K (some ⟨dst, .makeInterface t x, ty, pos, aft, gd⟩) = stepW P n ⟨dst, .makeInterface t x, ty, pos, aft, gd⟩ ρ h (fun ρ' _ => K ρ' h) X := by
  simp only [opHK, heldOp, freeOp, quietOp, inBl, if_true, need, true_and]; rfl
theorem opHK_fieldAddr (t : TypeId) (x : Operand) (i : Nat) : opHK P n bl ρ h X K (some ⟨dst, .fieldAddr t x i, ty, pos, aft, gd⟩) = stepW P n ⟨dst, .fieldAddr t x i, ty, pos, aft, gd⟩ ρ h (fun ρ' _ => K ρ' h) X := by
  simp only [opHK, heldOp, freeOp, quietOp, inBl, if_true, need, true_and]; rfl
theorem opHK_field (t : TypeId) (x : Operand) (i : Nat) : opHK P n bl ρ h X K (some ⟨dst, .field t x i, ty, pos, aft, gd⟩) = stepW P n ⟨dst, .field t x i, ty, pos, aft, gd⟩ ρ h (fun ρ' _ => K ρ' h) X := by
  simp only [opHK, heldOp, freeOp, quietOp, inBl, if_true, need, true_and]; rfl
theorem opHK_indexAddr (t : TypeId) (x i : Operand) : opHK P n bl ρ h X K (some ⟨dst, .indexAddr t x i, ty, pos, aft, gd⟩) = stepW P n ⟨dst, .indexAddr t x i, ty, pos, aft, gd⟩ ρ h (fun ρ' _ => K ρ' h) X := by
  simp only [opHK, heldOp, freeOp, quietOp, inBl, if_true, need, true_and]; rfl
theorem opHK_index (t : TypeId) (x i : Operand) : opHK P n bl ρ h X K (some ⟨dst, .index t x i, ty, pos, aft, gd⟩) = stepW P n ⟨dst, .index t x i, ty, pos, aft, gd⟩ ρ h (fun ρ' _ => K ρ' h) X := by
  simp only [opHK, heldOp, freeOp, quietOp, inBl, if_true, need, true_and]; rfl
theorem opHK_extract (x : Operand) (i : Nat) : opHK P n bl ρ h X K (some ⟨dst, .extract x i, ty, pos, aft, gd⟩) = stepW P n ⟨dst, .extract x i, ty, pos, aft, gd⟩ ρ h (fun ρ' _ => K ρ' h) X := by
  simp only [opHK, heldOp, freeOp, quietOp, inBl, if_true, need, true_and]; rfl
theorem opHK_slice (t : TypeId) (x : Operand) (lo hi : Option Operand) : opHK P n bl ρ h X K (some ⟨dst, .slice t x lo hi none, ty, pos, aft, gd⟩) = stepW P n ⟨dst, .slice t x lo hi none, ty, pos, aft, gd⟩ ρ h (fun ρ' _ => K ρ' h) X := by
  simp only [opHK, heldOp, freeOp, quietOp, inBl, if_true, need, true_and]; rfl
end
theorem vmH : type_of% (And.intro @denH_nil (And.intro @denH_cons (And.intro @opHG_none (And.intro @opHK_call (And.intro @opHK_store (And.intro @opHK_alloc (And.intro @opHK_buildSlice (And.intro @opHK_load (And.intro @opHK_move (And.intro @opHK_assign (And.intro @opHK_pick (And.intro @opHK_build (And.intro @opHK_nilCheck (And.intro @opHK_binOp (And.intro @opHK_unOp (And.intro @opHK_makeInterface (And.intro @opHK_fieldAddr (And.intro @opHK_field (And.intro @opHK_indexAddr (And.intro @opHK_index (And.intro @opHK_extract (And.intro @opHK_slice (And.intro @opHG_some (And.intro @ifU_bool (And.intro @ifU_undef (And.intro @opHK_bi (And.intro @opHK_len (And.intro @opHK_box (And.intro @opHK_makeMap (And.intro @opHK_lookup (And.intro @opHK_mapUpdate (And.intro @opHK_insert (@opHK_makeSlice))))))))))))))))))))))))))))))))) := And.intro @denH_nil (And.intro @denH_cons (And.intro @opHG_none (And.intro @opHK_call (And.intro @opHK_store (And.intro @opHK_alloc (And.intro @opHK_buildSlice (And.intro @opHK_load (And.intro @opHK_move (And.intro @opHK_assign (And.intro @opHK_pick (And.intro @opHK_build (And.intro @opHK_nilCheck (And.intro @opHK_binOp (And.intro @opHK_unOp (And.intro @opHK_makeInterface (And.intro @opHK_fieldAddr (And.intro @opHK_field (And.intro @opHK_indexAddr (And.intro @opHK_index (And.intro @opHK_extract (And.intro @opHK_slice (And.intro @opHG_some (And.intro @ifU_bool (And.intro @ifU_undef (And.intro @opHK_bi (And.intro @opHK_len (And.intro @opHK_box (And.intro @opHK_makeMap (And.intro @opHK_lookup (And.intro @opHK_mapUpdate (And.intro @opHK_insert (@opHK_makeSlice))))))))))))))))))))))))))))))))
end Go.Vm
