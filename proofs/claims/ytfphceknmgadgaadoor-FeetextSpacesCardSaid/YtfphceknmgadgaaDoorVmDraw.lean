/-
Regions that draw their order and leave the heap as it is: one evaluation in the order of the text serves every order.
Conditions: none. Generic: it speaks of no program.
-/
import Derived.Test.YtfphceknmgadgaaDoorVmEq
set_option linter.unusedSimpArgs false
set_option linter.unusedVariables false
namespace Go.Vm
def quietOp (P : Program) : Op → Bool
  | .move _ | .assign _ | .pick .. | .build .. | .load .. | .nilCheck _ | .binOp .. | .unOp .. | .makeInterface .. | .makeFunc .. | .fieldAddr .. | .field .. | .indexAddr .. | .index .. | .extract .. => true
  | .slice .. => true
  | .convert _ d _ => match P.underlying d with | some (.int _) => true | _ => false
  | .call { callee := .builtin .len, .. } => true
  | _ => false
def semiOp (sp : Bool) : Op → Bool
  | .move _ | .pick .. | .extract .. | .unOp .. => true
  | .binOp op .. => match op with | .quo | .rem | .shl | .shr => false | _ => true
  | .call { callee := .builtin .len, .. } => true
  | .load .. | .nilCheck _ | .fieldAddr .. | .field .. | .build .. => !sp
  | _ => false
def semiG (sp : Bool) : List Oper → Bool
  | [] => true
  | o :: l => semiOp sp o.op && semiG sp l
def callQ (P : Program) (n : Nat) (dst : Option Nat) (f : Value) (vs : List Value) (ρ : Env) (h : Heap) (K : Env → Prop) (_t : Tg K := ()) : Prop :=
  match f with
  | .func (.func g) fs cs => need (callable P g = true) (∃ v, CallsH P g (fs ++ vs.toArray ++ cs) h (fun e h' => e = .returned v ∧ h' = h) ∧ putK n dst v ρ K)
  | _ => False
def stepQ (P : Program) (n : Nat) (o : Oper) (ρ : Env) (h : Heap) (K : Env → Prop) : Prop :=
  match o.op with
  | .call { callee := .value f, args, .. } => bnd (evO ρ f) fun fv => bnd (evL ρ args.toList) fun vs => callQ P n o.dst fv vs ρ h K
  | op => need (quietOp P op = true) (opW P op o.type ρ h fun v _ => putK n o.dst v ρ K)
def denQ (P : Program) (n : Nat) (sp : Bool) (all : List Oper) (h : Heap) : Nat → Option (Nat × Bool) → List Oper → Env → (Env → Prop) → Prop
  | 0, _, _, _, _ => False
  | _ + 1, _, [], ρ, K => K ρ
  | m + 1, cur, o :: rest, ρ, K =>
    if o.guard = cur then stepQ P n o ρ h (fun ρ' => denQ P n sp all h m cur rest ρ' K)
    else match o.guard with
      | none => False
      | some (j, want) => bnd (slotOf all j) fun s => bnd (get ρ s) fun v => match v with
        | .bool b => need (grpOk all s j want [] (grpOf cur (o :: rest)) = true)
          (match semiG sp (grpOf cur (o :: rest)), aftOf cur (o :: rest) with
          | true, p :: after => match closes want s p.op with
            | some y => denQ P n sp all h m (some (j, want)) (grpOf cur (o :: rest)) ρ (fun ρ' => bnd (evO ρ' y) fun c => joinK n p.dst want b c (hid (grpOf cur (o :: rest)) ρ) fun ρ'' => denQ P n sp all h m cur after ρ'' K)
            | none => False
          | _, after => ifB (b == want) (denQ P n sp all h m (some (j, want)) (grpOf cur (o :: rest)) ((s, some (.bool want)) :: ρ) (fun ρ' => denQ P n sp all h m cur after ρ' K)) (denQ P n sp all h m cur after (hid (grpOf cur (o :: rest)) ((s, some (.bool (!want))) :: ρ)) K))
        | _ => False
section
variable {P : Program} {n : Nat} {ρ : Env} {h : Heap} {K : Value → Heap → Prop} {dst : Option Nat} {ty : TypeId} {pos : String} {aft : Array Edge} {gd : Option (Nat × Bool)}
theorem opW_quiet [dd : DefD] {op : Op} (hq : quietOp P op = true) (hp : opW P op ty ρ h K) :
    ∃ v, (∀ (a : Act) (w : World), OkE n ρ a → w.heap = h → (execOp a.eval ⟨dst, op, ty, pos, aft, gd⟩).run P w = .ok (.value v) w) ∧ K v h := by
  unfold opW at hp
  split at hp
  · obtain ⟨v, hv, hK⟩ := bnd_out hp
    exact ⟨v, fun a w hk hw => by simp [execOp, evO_eval hk hv], hK⟩
  · obtain ⟨v, hv, hK⟩ := bnd_out hp
    exact ⟨v, fun a w hk hw => by simp [execOp, evO_eval hk hv], hK⟩
  · obtain ⟨v, hv, hp⟩ := bnd_out hp
    unfold ifV at hp
    split at hp
    · rename_i b
      cases b with
      | true =>
        obtain ⟨u, hu, hK⟩ := bnd_out (hp.1 rfl)
        exact ⟨u, fun a w hk hw => by simp [execOp, evO_eval hk hv, evO_eval hk hu, asBool], hK⟩
      | false =>
        obtain ⟨u, hu, hK⟩ := bnd_out (hp.2 rfl)
        exact ⟨u, fun a w hk hw => by simp [execOp, evO_eval hk hv, evO_eval hk hu, asBool], hK⟩
    · exact hp.elim
  · cases hq
  · cases hq
  · rename_i t ps
    obtain ⟨vs, hv, hp⟩ := bnd_out hp
    obtain ⟨v, hb, hK⟩ := bnd_out hp
    obtain ⟨c, hc, rfl⟩ := bldV_sound hb
    refine ⟨_, fun a w hk hw => ?_, hK⟩
    have hpe := evP_eval hk hv
    have : (ps.map fun (x : Nat × Operand) => (x.1, a.eval x.2)).toList = vs := by rw [← hpe]; simp
    have hr := run_build (P := P) w t (ps.map fun (x : Nat × Operand) => (x.1, a.eval x.2)) c (by rw [this]; exact hc)
    simp [execOp, hr]
  · cases hq
  · obtain ⟨p, hp1, hp⟩ := bnd_out hp
    obtain ⟨ad, ha, hp⟩ := bnd_out hp
    obtain ⟨v, hv, hK⟩ := bnd_out hp
    have := addrOf_out ha
    subst this
    exact ⟨v, fun a w hk hw => by simp [execOp, Instr.loadAt, Instr.sureAddr, evO_eval hk hp1, rdVar_sound hw hv], hK⟩
  · cases hq
  · obtain ⟨p, hp1, hp⟩ := bnd_out hp
    obtain ⟨ad, ha, hK⟩ := bnd_out hp
    have := addrOf_out ha
    subst this
    exact ⟨_, fun a w hk hw => by simp [execOp, evO_eval hk hp1], hK⟩
  · rename_i op t x y t'
    obtain ⟨u, hu, hp⟩ := bnd_out hp
    obtain ⟨v, hv, hp⟩ := bnd_out hp
    obtain ⟨r, hr, hK⟩ := binW_sound (P := P) (x := x) (y := y) hp
    refine ⟨r, fun a w hk hw => ?_, hK⟩
    simp only [execOp, evO_eval hk hu, evO_eval hk hv]
    rw [Sem.run_bind, hr w]
    rfl
  · obtain ⟨v, hv, hp⟩ := bnd_out hp
    obtain ⟨u, hu, hK⟩ := bnd_out hp
    refine ⟨u, fun a w hk hw => ?_, hK⟩
    unfold unV at hu
    split at hu
    · simp at hu; subst hu; simp [execOp, evO_eval hk hv, Op.unary, Op.intArith]
    · simp at hu; subst hu; simp [execOp, evO_eval hk hv, Op.unary]
    · cases hu
  · rename_i s d x
    obtain ⟨v, hv, hp⟩ := bnd_out hp
    simp only [quietOp] at hq
    split at hq
    · rename_i k hd
      unfold cnvW at hp
      split at hp
      · rename_i h1 h2
        split at hp
        · exact ⟨_, fun a w hk hw => by simp [execOp, evO_eval hk hv, convert, underlying, h1, h2, Conv.intToInt], hp⟩
        · exact hp.elim
      · rename_i h1 h2; rw [hd] at h2; cases h2
      · rename_i h1 h2; rw [hd] at h2; cases h2
      · rename_i h1 h2 h3
        obtain ⟨_, w', hr, _, _⟩ := hp { (default : World) with heap := h } rfl
        cases hs : P.underlying s with
        | some ds => exact (h1 ds k hs hd).elim
        | none => simp [convert, underlying, hs] at hr
    · cases hq
  · obtain ⟨v, hv, hp⟩ := bnd_out hp
    obtain ⟨hc, hK⟩ := hp
    exact ⟨_, fun a w hk hw => by simp [execOp, evO_eval hk hv, run_makeInterface w _ _ hc], hK⟩
  · obtain ⟨us, hu, hp⟩ := bnd_out hp
    obtain ⟨vs, hv, hK⟩ := bnd_out hp
    exact ⟨_, fun a w hk hw => by simp [execOp, arr_eval hk hu, arr_eval hk hv, Instr.makeFunc], hK⟩
  · cases hq
  · cases hq
  · obtain ⟨v, hv, hp⟩ := bnd_out hp
    obtain ⟨l, hl, hp⟩ := bnd_out hp
    obtain ⟨r, hr, hp⟩ := bnd_out hp
    obtain ⟨u, hu, hK⟩ := slW_sound (P := P) hp
    refine ⟨u, fun a w hk hw => ?_, hK⟩
    have opt : ∀ {o : Option Operand} {x : Option Value}, optO ρ o = some x → o.map a.eval = x := by
      intro o x ho
      cases o with
      | none => simp [optO] at ho; simp [ho]
      | some y =>
        simp only [optO] at ho
        cases hy : evO ρ y with
        | none => simp [hy] at ho
        | some z => simp [hy] at ho; simp [evO_eval hk hy, ho]
    simp [execOp, evO_eval hk hv, opt hl, opt hr, hu w]
  · obtain ⟨v, hv, hp⟩ := bnd_out hp
    obtain ⟨l, hl, hp⟩ := bnd_out hp
    obtain ⟨r, hr, hp⟩ := bnd_out hp
    obtain ⟨mv, hm, hp⟩ := bnd_out hp
    obtain ⟨u, hu, hK⟩ := slW3_sound (P := P) hp
    refine ⟨u, fun a w hk hw => ?_, hK⟩
    have opt : ∀ {o : Option Operand} {x : Option Value}, optO ρ o = some x → o.map a.eval = x := by
      intro o x ho
      cases o with
      | none => simp [optO] at ho; simp [ho]
      | some y =>
        simp only [optO] at ho
        cases hy : evO ρ y with
        | none => simp [hy] at ho
        | some z => simp [hy] at ho; simp [evO_eval hk hy, ho]
    simp [execOp, evO_eval hk hv, opt hl, opt hr, evO_eval hk hm, hu w]
  · obtain ⟨p, hp1, hp⟩ := bnd_out hp
    obtain ⟨ad, ha, hp⟩ := bnd_out hp
    obtain ⟨f, hf, hp⟩ := bnd_out hp
    obtain ⟨hz, hK⟩ := hp
    have := addrOf_out ha
    subst this
    obtain ⟨fs, g, h1, h2, h3, h4⟩ := fld_out hf
    refine ⟨_, fun a w hk hw => ?_, hK⟩
    have hso : (sizeOf g.type).run P w = .ok f.2.2 w := run_sizeOf (b := f.2.1) h4
    simp [execOp, Instr.fieldAt, underlying, h1, h2, Instr.sureAddr, evO_eval hk hp1, fieldPlace, hso, hz, h3]
  · obtain ⟨v, hv, hp⟩ := bnd_out hp
    obtain ⟨u, hu, hK⟩ := bnd_out hp
    exact ⟨u, fun a w hk hw => by simp [execOp, evO_eval hk hv, fldV_sound hu], hK⟩
  · obtain ⟨v, hv, hp⟩ := bnd_out hp
    obtain ⟨i, hi, hp⟩ := bnd_out hp
    obtain ⟨u, hu, hK⟩ := ixaW_sound (P := P) hp
    exact ⟨u, fun a w hk hw => by simp [execOp, evO_eval hk hv, evO_eval hk hi, hu w], hK⟩
  · obtain ⟨v, hv, hp⟩ := bnd_out hp
    obtain ⟨i, hi, hp⟩ := bnd_out hp
    obtain ⟨u, hu, hK⟩ := idxW_sound (P := P) hp
    exact ⟨u, fun a w hk hw => by simp [execOp, evO_eval hk hv, evO_eval hk hi, hu w], hK⟩
  · cases hq
  · cases hq
  · cases hq
  · cases hq
  · cases hq
  · cases hq
  · obtain ⟨v, hv, hp'⟩ := bnd_out hp
    clear hp
    split at hp'
    · obtain ⟨u, hu, hK⟩ := bnd_out hp'
      exact ⟨u, fun a w hk hw => by simp [execOp, evO_eval hk hv, Instr.extract, hu], hK⟩
    · exact hp'.elim
  · rename_i b args ts
    obtain ⟨vs, hv, hp'⟩ := bnd_out hp
    clear hp
    split at hp'
    · rename_i u0 t hts0
      have hts : ts = #[t] := by apply Array.ext'; simpa using hts0
      subst hts
      obtain ⟨u, hu, hK⟩ := lenW_sound (P := P) (ty := ty) hp'
      refine ⟨u, fun a w hk hw => ?_, hK⟩
      simp [execOp, resolve, invoke, builtin, arr_eval hk hv, hu w hw]
    all_goals first | cases hq | exact hp'.elim
  · exact hp.elim
end
section
variable {P : Program} {n : Nat} {all : List Oper} {h : Heap} {w0 : World}
def Cls (w0 : World) (h : Heap) (w : World) : Prop := w.heap = h ∧ Rest w0 w
theorem stepQ_sound [dd : DefD] {o : Oper} {ρ : Env} {K : Env → Prop} {a : Act} {next : Act → Prop} (hs : stepQ P n o ρ h K) (hk : OkE n ρ a)
    (hn : ∀ ρ' a', K ρ' → OkE n ρ' a' → (∀ t, o.dst ≠ some t → get ρ' t = get ρ t) → next a') : o.quiet P a (Cls w0 h) next := by
  obtain ⟨dst, op, ty, pos, aft, gd⟩ := o
  unfold stepQ at hs
  split at hs
  · rename_i f args ts hop
    simp only at hop
    subst hop
    obtain ⟨fv, hf, hs'⟩ := bnd_out hs
    clear hs
    obtain ⟨vs, hv, hs⟩ := bnd_out hs'
    clear hs'
    unfold callQ at hs
    split at hs
    · rename_i g fs cs
      obtain ⟨hc, v, hcall, hput⟩ := hs
      obtain ⟨ρ', hK, hk', he⟩ := putK_out hk hput
      refine ⟨v, fun w hw => ?_, hn ρ' _ hK hk' he⟩
      have hrun : (execOp a.eval ⟨dst, .call ⟨.value f, args, ts⟩, ty, pos, aft, gd⟩).run P w = .ok (.enter g (fs ++ vs.toArray ++ cs)) w := by
        simp only [execOp, resolve, evO_eval hk hf, Deferred.ofValue, Sem.run_bind, Sem.run_pure, Result.andThen_ok, invoke, arr_eval hk hv]
        exact callable_run hc
      unfold Oper.quietAt
      rw [hrun]
      refine ⟨rfl, (hcall w hw.1).mono fun e w' ⟨⟨h1, h2⟩, h3⟩ => ⟨h1, h2, hw.2.trans h3⟩⟩
    · exact hs.elim
  · obtain ⟨hq, hs⟩ := hs
    obtain ⟨v, hv, hput⟩ := opW_quiet (n := n) (dst := dst) (pos := pos) (aft := aft) (gd := gd) hq hs
    obtain ⟨ρ', hK, hk', he⟩ := putK_out hk hput
    refine ⟨v, fun w hw => ?_, hn ρ' _ hK hk' he⟩
    unfold Oper.quietAt
    rw [hv a w hk hw.1]
    exact ⟨rfl, rfl⟩
theorem skip_quiet [dd : DefD] {s j : Nat} {want b : Bool} {C : World → Prop} {Q : Act → Prop} (hj : slotOf all j = some s) (hb : b ≠ want) {rest' : List Oper} : ∀ (l : List Oper) (sk : List Nat) (ρ : Env) (a : Act), grpOk all s j want sk l = true → OkE n ρ a →
    a.tmps[s]? = some (.bool b) → (∀ s' ∈ sk, a.tmps[s']? = some undef ∨ a.tmps[s']? = none) → (∀ a', OkE n (hid l ρ) a' → a'.tmps[s]? = some (.bool b) → wpQuiet P all.toArray C Q rest' a') → wpQuiet P all.toArray C Q (l ++ rest') a := by
  intro l
  induction l with
  | nil => intro sk ρ a _ hk hs _ hn; exact hn a hk hs
  | cons x l ih =>
    intro sk ρ a h hk hs hsk hn
    unfold grpOk at h
    split at h
    · rename_i d j' w' hd hg
      split at h
      · cases h
      · rename_i hds
        have hput : OkE n ((d, none) :: ρ) (a.put x.dst undef) := by rw [hd]; exact hk.hide d undef
        have hs' : (a.put x.dst undef).tmps[s]? = some (.bool b) := by
          rw [hd]; simp only [Act.put, Array.getElem?_setIfInBounds]; rw [if_neg hds]; exact hs
        have hsk' : ∀ s' ∈ d :: sk, (a.put x.dst undef).tmps[s']? = some undef ∨ (a.put x.dst undef).tmps[s']? = none := by
          intro s' hm
          rw [hd]; simp only [Act.put, Array.getElem?_setIfInBounds]
          rcases List.mem_cons.1 hm with rfl | hm
          · simp only [if_true]; split <;> simp
          · split
            · split <;> simp
            · exact hsk s' hm
        have hhid : hid (x :: l) ρ = hid l ((d, none) :: ρ) := by simp [hid, hd]
        rw [hhid] at hn
        have go : Region.wanted x (yielded all.toArray a.tmps) = false → grpOk all s j want (d :: sk) l = true → wpQuiet P all.toArray C Q (x :: l ++ rest') a := by
          intro hw hok
          show wpQuiet P all.toArray C Q (x :: (l ++ rest')) a
          unfold wpQuiet
          rw [if_neg (by simp [hw])]
          exact ih (d :: sk) _ _ hok hput hs' hsk' hn
        split at h
        · rename_i hjw
          obtain ⟨rfl, rfl⟩ := hjw
          refine go ?_ h
          unfold Region.wanted
          simp only [hg, yielded_of hj, hs]
          simpa using hb
        · split at h
          · rename_i s' hs2
            split at h
            · rename_i hm
              refine go ?_ h
              unfold Region.wanted
              rcases hsk s' hm with e | e
              · simp only [hg, yielded_of hs2, e, undef]; rfl
              · simp only [hg, yielded_of hs2, e]; rfl
            · cases h
          · cases h
    · cases h
theorem denQ_some [dd : DefD] {sp : Bool} : ∀ (m : Nat) (cur : Option (Nat × Bool)) (l : List Oper) (ρ : Env) (K : Env → Prop), denQ P n sp all h m cur l ρ K → ∃ ρ', K ρ' := by
  intro m
  induction m with
  | zero => intro cur l ρ K hd; cases hd
  | succ m ih =>
    intro cur l ρ K hd
    have put : ∀ {dst : Option Nat} {v : Value} {ρ : Env} {K : Env → Prop}, putK n dst v ρ K → ∃ ρ', K ρ' := by
      intro dst v ρ K hv
      cases dst with
      | none => exact ⟨ρ, hv⟩
      | some d => exact ⟨_, hv.2⟩
    cases l with
    | nil => exact ⟨ρ, hd⟩
    | cons o l =>
      unfold denQ at hd
      split at hd
      · unfold stepQ at hd
        split at hd
        · obtain ⟨fv, hf, hd'⟩ := bnd_out hd
          clear hd
          obtain ⟨vs, hv, hd⟩ := bnd_out hd'
          clear hd'
          unfold callQ at hd
          split at hd
          · obtain ⟨_, v, _, h1⟩ := hd
            obtain ⟨ρ', h1⟩ := put h1
            exact ih _ _ _ _ h1
          · exact hd.elim
        · obtain ⟨hq, hs⟩ := hd
          obtain ⟨v, _, h1⟩ := opW_quiet (n := n) (dst := none) (pos := "") (aft := #[]) (gd := none) hq hs
          obtain ⟨ρ', h1⟩ := put h1
          exact ih _ _ _ _ h1
      · split at hd
        · exact hd.elim
        · rename_i j want hg
          obtain ⟨s, hs, hd'⟩ := bnd_out hd
          clear hd
          obtain ⟨v, hv, hd⟩ := bnd_out hd'
          clear hd'
          split at hd
          · rename_i b
            obtain ⟨_, hd⟩ := hd
            split at hd
            · split at hd
              · obtain ⟨ρ1, h1⟩ := ih _ _ _ _ hd
                obtain ⟨c, _, h1⟩ := bnd_out h1
                unfold joinK at h1
                split at h1
                · obtain ⟨ρ', h1⟩ := put h1
                  exact ih _ _ _ _ h1
                · exact h1.elim
              · exact hd.elim
            · by_cases hb : (b == want) = true
              · obtain ⟨ρ1, h1⟩ := ih _ _ _ _ (hd.1 hb)
                exact ih _ _ _ _ h1
              · exact ih _ _ _ _ (hd.2 (by simpa using hb))
          · exact hd.elim
set_option maxHeartbeats 1000000 in
theorem denQ_sound [dd : DefD] {sp : Bool} {Q : Act → Prop} : ∀ (m : Nat) (cur : Option (Nat × Bool)) (rest : List Oper) (ρ : Env) (K : Env → Prop) (a : Act) (rest' : List Oper),
    denQ P n sp all h m cur rest ρ K → OkE n ρ a → CurOk all ρ cur rest →
    (∀ ρ' a', K ρ' → OkE n ρ' a' → Ext rest ρ ρ' → wpQuiet P all.toArray (Cls w0 h) Q rest' a') → wpQuiet P all.toArray (Cls w0 h) Q (rest ++ rest') a := by
  intro m
  induction m with
  | zero => intro cur rest ρ K a rest' hd; cases hd
  | succ m ih =>
    intro cur rest ρ K a rest' hd hk hc hn
    cases rest with
    | nil => exact hn ρ a hd hk (fun t _ => rfl)
    | cons o l =>
      unfold denQ at hd
      split at hd
      · rename_i hg
        have hw := wanted_of hk hc hg
        show wpQuiet P all.toArray (Cls w0 h) Q (o :: (l ++ rest')) a
        unfold wpQuiet
        rw [if_pos hw]
        refine stepQ_sound hd hk fun ρ' a' h1 h2 h4 => ?_
        refine ih cur l ρ' K a' rest' h1 h2 ?_ fun ρ'' a'' k1 k2 k4 => hn ρ'' a'' k1 k2 fun t ht => ?_
        · cases cur with
          | none => trivial
          | some c =>
            obtain ⟨j, want⟩ := c
            obtain ⟨s, e1, e2, e3⟩ := hc
            exact ⟨s, e1, by rw [h4 s (e3 o (List.mem_cons_self ..)), e2], fun x hx => e3 x (List.mem_cons_of_mem _ hx)⟩
        · rw [k4 t (fun x hx => ht x (List.mem_cons_of_mem _ hx)), h4 t (ht o (List.mem_cons_self ..))]
      · rename_i hg
        split at hd
        · exact hd.elim
        · rename_i j want hgd
          obtain ⟨s, hs, hd'⟩ := bnd_out hd
          clear hd
          obtain ⟨v, hv, hd⟩ := bnd_out hd'
          clear hd'
          split at hd
          · rename_i b
            obtain ⟨hok, hd⟩ := hd
            have hsp := grp_split cur (o :: l)
            generalize hgr : grpOf cur (o :: l) = g at *
            generalize haf : aftOf cur (o :: l) = after at *
            have hdst := grpOk_dst _ _ hok
            have hgl : ∀ x ∈ g, x ∈ o :: l := fun x hx => by rw [← hsp]; exact List.mem_append_left _ hx
            have hal : ∀ x ∈ after, x ∈ o :: l := fun x hx => by rw [← hsp]; exact List.mem_append_right _ hx
            rw [← hsp, List.append_assoc]
            have hcurE : ∀ {ρ1 : Env}, Ext g ρ ρ1 → CurOk all ρ1 cur after := by
              intro ρ1 he
              cases cur with
              | none => trivial
              | some c =>
                obtain ⟨j', want'⟩ := c
                obtain ⟨s', e1, e2, e3⟩ := hc
                exact ⟨s', e1, by rw [he s' (fun x hx => e3 x (hgl x hx)), e2], fun x hx => e3 x (hal x hx)⟩
            have hskip : ∀ {rest2 : List Oper}, b ≠ want → (∀ a', OkE n (hid g ρ) a' → a'.tmps[s]? = some (.bool b) → wpQuiet P all.toArray (Cls w0 h) Q rest2 a') → wpQuiet P all.toArray (Cls w0 h) Q (g ++ rest2) a :=
              fun hb h2 => skip_quiet hs hb g [] ρ a hok hk (hk.2.2 s _ hv) (fun s' hs' => by cases hs') h2
            split at hd
            · rename_i p after' hpu
              split at hd
              · rename_i y hy
                have hpin : ∀ x, x ∈ (p :: after') → x ∈ o :: l := fun x hx => hal x hx
                have fin : ∀ (a' : Act) (c : Bool), putK n p.dst (.bool c) (hid g ρ) (fun ρ'' => denQ P n sp all h m cur after' ρ'' K) → OkE n (hid g ρ) a' →
                    wpQuiet P all.toArray (Cls w0 h) Q (after' ++ rest') (a'.put p.dst (.bool c)) := by
                  intro a' c h1 h2
                  obtain ⟨ρ', h4, h5, h6⟩ := putK_out h2 h1
                  have he : ∀ t, (∀ x ∈ o :: l, x.dst ≠ some t) → get ρ' t = get ρ t := fun t ht => by
                    rw [h6 t (ht p (hpin p (List.mem_cons_self ..))), hid_get g ρ (fun x hx => ht x (hgl x hx))]
                  refine ih cur after' ρ' K _ rest' h4 h5 ?_ fun ρ'' a'' k1 k2 k4 => hn ρ'' a'' k1 k2 fun t ht => ?_
                  · cases cur with
                    | none => trivial
                    | some c =>
                      obtain ⟨j', want'⟩ := c
                      obtain ⟨s', e1, e2, e3⟩ := hc
                      exact ⟨s', e1, by rw [he s' (fun x hx => e3 x hx), e2], fun x hx => e3 x (hpin x (List.mem_cons_of_mem _ hx))⟩
                  · rw [k4 t (fun x hx => ht x (hpin x (List.mem_cons_of_mem _ hx))), he t ht]
                have hpw : ∀ (ρ1 : Env) (a' : Act), OkE n ρ1 a' → CurOk all ρ1 cur (p :: after') → Region.wanted p (yielded all.toArray a'.tmps) = true := by
                  intro ρ1 a' h1 h2
                  refine wanted_of h1 h2 ?_
                  have : ∀ (l : List Oper), aftOf cur l = p :: after' → p.guard = cur := by
                    intro l
                    induction l with
                    | nil => intro h; simp [aftOf] at h
                    | cons x l ihl =>
                      intro h
                      unfold aftOf at h
                      split at h
                      · rename_i hx; simp at h; rw [← h.1]; exact hx
                      · exact ihl h
                  exact this _ haf
                have pickQ : ∀ (a' : Act) (c' : Bool), a'.eval (.tmp s) = .bool b → (b = want → a'.eval y = .bool c') → wpQuiet P all.toArray (Cls w0 h) Q (after' ++ rest') (a'.put p.dst (.bool (joinB want b c'))) → p.quiet P a' (Cls w0 h) (wpQuiet P all.toArray (Cls w0 h) Q (after' ++ rest')) := by
                  intro a' c' hcond hyv hnext
                  refine ⟨.bool (joinB want b c'), fun w _ => ?_, hnext⟩
                  have hrun : (execOp a'.eval p).run P w = .ok (.value (.bool (joinB want b c'))) w := by
                    rcases closes_out hy with ⟨e, hop⟩ | ⟨e, hop⟩
                    · subst e
                      cases b with
                      | false => simp [execOp, hop, hcond, hyv rfl, asBool, joinB]
                      | true => simp [execOp, hop, hcond, asBool, joinB, Act.eval]; simp [Act.eval] at hcond; simp [hcond]
                    · subst e
                      cases b with
                      | true => simp [execOp, hop, hcond, hyv rfl, asBool, joinB]
                      | false => simp [execOp, hop, hcond, asBool, joinB, Act.eval]; simp [Act.eval] at hcond; simp [hcond]
                  unfold Oper.quietAt
                  rw [hrun]
                  exact ⟨rfl, rfl⟩
                by_cases hb : b = want
                · refine ih (some (j, want)) g ρ _ a ((p :: after') ++ rest') hd hk ⟨s, hs, by rw [hv, hb], hdst⟩ fun ρ1 a' k1 k2 k4 => ?_
                  obtain ⟨c, hc1, k1⟩ := bnd_out k1
                  unfold joinK at k1
                  split at k1
                  · rename_i c'
                    have hOk : OkE n (hid g ρ) a' := ⟨k2.1, k2.2.1, fun t u ht => by
                      obtain ⟨h1, h2⟩ := hid_le _ _ ht
                      exact k2.2.2 t u (by rw [k4 t h1]; exact h2)⟩
                    show wpQuiet P all.toArray (Cls w0 h) Q (p :: (after' ++ rest')) a'
                    unfold wpQuiet
                    rw [if_pos (hpw ρ1 a' k2 (hcurE k4))]
                    exact pickQ a' c' (evO_eval k2 (by simp only [evO]; rw [k4 s hdst]; exact hv)) (fun _ => evO_eval k2 hc1) (fin a' _ k1 hOk)
                  · exact k1.elim
                · obtain ⟨ρ1, h1⟩ := denQ_some m _ g ρ _ hd
                  obtain ⟨c, hc1, h1⟩ := bnd_out h1
                  unfold joinK at h1
                  split at h1
                  · rename_i c'
                    refine hskip hb fun a' h2 h3 => ?_
                    show wpQuiet P all.toArray (Cls w0 h) Q (p :: (after' ++ rest')) a'
                    unfold wpQuiet
                    have hch : CurOk all (hid g ρ) cur (p :: after') := hcurE (fun t ht => hid_get g ρ ht)
                    rw [if_pos (hpw _ a' h2 hch)]
                    have hcond : a'.eval (.tmp s) = .bool b := by
                      simp only [Act.eval]; rw [Array.getD_eq_getD_getElem?, h3]; rfl
                    exact pickQ a' c' hcond (fun e => absurd e hb) (fin a' _ h1 h2)
                  · exact h1.elim
              · exact hd.elim
            · rename_i after _ _ _
              by_cases hb : b = want
              · subst hb
                refine ih (some (j, b)) g ((s, some (.bool b)) :: ρ) _ a (after ++ rest') (hd.1 (by simp)) (hk.again hv) ⟨s, hs, (get_again hv s).trans hv, hdst⟩ fun ρ1 a' k1 k2 k4 => ?_
                replace k4 : Ext g ρ ρ1 := fun t ht => (k4 t ht).trans (get_again hv t)
                refine ih cur after ρ1 K a' rest' k1 k2 (hcurE k4) fun ρ'' a'' q1 q2 q4 => hn ρ'' a'' q1 q2 fun t ht => ?_
                rw [q4 t (fun x hx => ht x (hal x hx)), k4 t (fun x hx => ht x (hgl x hx))]
              · have hbw : (!want) = b := by cases b <;> cases want <;> simp at hb ⊢
                have hd2 := hd.2 (by simpa using hb)
                rw [hbw] at hd2
                refine skip_quiet hs hb g [] ((s, some (.bool b)) :: ρ) a hok (hk.again hv) (hk.2.2 s _ hv) (fun s' hs' => by cases hs') fun a' h2 h3 => ?_
                have he : Ext g ρ (hid g ((s, some (.bool b)) :: ρ)) := fun t ht => (hid_get g _ ht).trans (get_again hv t)
                refine ih cur after (hid g ((s, some (.bool b)) :: ρ)) K a' rest' hd2 h2 (hcurE he) fun ρ'' a'' q1 q2 q4 => hn ρ'' a'' q1 q2 fun t ht => ?_
                rw [q4 t (fun x hx => ht x (hal x hx)), he t (fun x hx => ht x (hgl x hx))]
          · exact hd.elim
end
theorem Meant.quiet [dd : DefD] (sp : Bool) {c : Cx} {id : Nat} {l : List Oper} {k : List It} {ρ : Env} {h : Heap} (hm : c.P.follows .mixedOrders = true) (hB : Region.lexB .any l.toArray = true)
    (hd : denQ c.P c.n sp l h 400 none l ρ fun ρ' => den c k ρ' h) : @Meant dd c (.code (.region id l.toArray true) :: k) ρ h () := by
  intro hf b a w hb hn hk hw
  refine .of_wp (Q := fun e a' w' => match e with | .normal => TodoW c.P b (k.map It.item) a' w' (fun e w' => c.R e w'.heap ∧ Rest w w') | .panic ch => a'.defers = DefD.ds ∧ (c.R (.panicked ch) w'.heap ∧ Rest w w') | _ => False) ?_ ⟨c.fn, by rw [hb]; exact hf⟩ (fun e a' w' hq => hq)
  refine wp_region_quiet (C := Cls w h) hm hB ⟨hw, rfl, rfl, rfl⟩ ?_
  have := denQ_sound (w0 := w) (Q := fun a' => ∀ w', Cls w h w' → TodoW c.P b (k.map It.item) a' w' (fun e w' => c.R e w'.heap ∧ Rest w w')) 400 none l ρ _ a [] hd hk trivial
    (fun ρ' a' k1 k2 _ => wpQuiet_nil (fun w' hw' => den_sound' c _ _ _ _ (Nat.le_refl _) k1 w hf b a' w' hb hn k2 hw'.1 hw'.2))
  simpa using this
end Go.Vm
