/-
Functions that defer: their regions one by one, evaluated over the blocks that are known; a call that may panic; the whole call.
Conditions: none. Generic: it speaks of no program.
-/
import Derived.Test.YtfphceknmgadgaaDoorVmAL
import Derived.Recover
set_option linter.unusedSimpArgs false
set_option linter.unusedVariables false
namespace Go.Vm
section
variable {P : Program} {imp : Imp} {n id : Nat} {ops : List Oper} {ρ : Env} {A : AH} {Q : Exit → Act → World → Prop} {a : Act} {w : World} {KK : Env → AH → Prop}
theorem wp_regionA [dd : DefD] (hk : OkE n ρ a) (hs : Sat A w.heap) (h : ∀ ν, Fresh ν A → denOpsA P imp n ops 400 none ops ν 0 ρ A (fun _ _ ρ' A' => KK ρ' A'))
    (hX : ∀ ch a' w', PanP imp.X A w.heap ch w'.heap → OkE n [] a' → Rest w w' → Q (.panic ch) a' w')
    (hK : ∀ ρ' A' a' w', KK ρ' A' → OkE n ρ' a' → Sat A' w'.heap → Keep A w.heap A' w'.heap → Rest w w' → Q .normal a' w') : (Code.region id ops.toArray false).wp P Q a w := by
  have h1 : denOps P n ops 400 none ops ρ w.heap (fun ρ' h' => ∃ A', KK ρ' A' ∧ Sat A' h' ∧ Keep A w.heap A' h') (fun ch h' => PanP imp.X A w.heap ch h') := by
    refine denOpsA_to (K := fun _ _ ρ' A' => KK ρ' A') _ _ _ _ _ _ _ _ _ (fun ch h' p => p) (fun ρ' h' p => ?_) (St.start hs) (Fut.fresh h)
    obtain ⟨ν1, n1, A1, st, kp, f⟩ := p
    exact ⟨A1, st.get f, st.sat, kp⟩
  have h2 := denOps_sound (all := ops) (w0 := w) (Q := Q) (fun ch h a' w' q1 q2 q3 q4 => hX ch a' w' (by rw [q3]; exact q1) q2 q4) 400 none ops ρ _ a w [] h1 hk (Rest.refl w) trivial
    (fun ρ' a' w' ⟨A', k1, k2, k3⟩ k4 k5 _ => wpList_nil (hK ρ' A' a' w' k1 k4 k2 k3 k5))
  rw [List.append_nil] at h2
  exact wp_region_lit h2
theorem wp_regionP [dd : DefD] (pl : List (Nat × Nat)) (As : AH) (hAs : SubA As A) (hm : P.follows .mixedOrders = true) (hns : Region.noSelect ops.toArray = true) (hl : (pl.length == ops.length) = true) (hrs : resetsOk ops.toArray (rsOf pl) = true) (hpl : planSB imp ops.toArray (rsOf pl) pl (Array.replicate ops.length false) = true)
    (hk : OkE n ρ a) (hs : Sat A w.heap) (h : ∀ ν, Fresh ν A → denSA P imp n ops pl As ν 0 ρ A (fun _ _ ρ' A' => KK ρ' A'))
    (hX : ∀ ch a' w', PanP imp.X A w.heap ch w'.heap → a'.defers = DefD.ds → Rest w w' → Q (.panic ch) a' w') (hQ : ∀ c a w dst v, Q (.panic c) (Act.put a dst v) w → Q (.panic c) a w)
    (hK : ∀ ρ' A' a' w', KK ρ' A' → OkE n ρ' a' → Sat A' w'.heap → Keep A w.heap A' w'.heap → Rest w w' → Q .normal a' w') : (Code.region id ops.toArray true).wp P Q a w := by
  simp only [beq_iff_eq] at hl
  refine wp_region_any hm (wpAny_of_C (Inv := InvS A w.heap w) (le := leS) (rs := rsOf pl) (QA := fun a' s => ∃ ρ', OkE n ρ' a' ∧ Fut s.ν s.n s.A fun _ => KK ρ' s.A) ?_ _ _ _ ⟨A, fun i => w.heap.size + i, 0, As⟩ _ ⟨St.start hs, Keep.refl _ _, ⟨rfl, rfl, rfl⟩, hAs⟩ ?_)
  · rintro a' s w' ⟨ρ', hk', f⟩ ⟨h1, h2, h3, _⟩
    exact hK ρ' s.A a' w' (h1.get f) hk' h1.sat h2 h3
  · have := denSA_sound (P := P) (imp := imp) (nt := n) (all := ops) (A0 := A) (h0 := w.heap) (w0 := w) (rs := rsOf pl) (K := fun _ _ ρ' A' => KK ρ' A') (Q := Q)
      (fun ch a' w' h1 h2 h3 => hX ch a' w' h2 h1 h3) (by simpa using hns) (by simpa using hrs) hQ (QA := fun a' s => ∃ ρ', OkE n ρ' a' ∧ Fut s.ν s.n s.A fun _ => KK ρ' s.A) (fun ρ' a' A' ν' n' As' hk' f => ⟨ρ', hk', f⟩)
      pl (Array.replicate ops.length false) ρ a A As (fun i => w.heap.size + i) 0 (by simpa using hpl) hk (St.start hs).inj ⟨w.heap, St.start hs⟩ (Fut.fresh h)
    rw [hl] at this
    simpa using this
theorem wpList_callE [dd : DefD] {l : Array Oper} {g : FuncId} {fv : Operand} {xs : Array Operand} {ts : Array TypeId} {vs : List Value} {f : Value} {d : Nat} {ty : TypeId} {pos : String} {aft : Array Edge} {fs cs : Array Value} {X : List PanicEntry → AH → Prop} {K : Value → AH → Prop}
    (hk : OkE n ρ a) (hs : Sat A w.heap) (hf : evO ρ fv = some (.func (.func g) fs cs)) (hv : evL ρ xs.toList = some vs) (hcl : callable P g = true) (hd : d < n)
    (hc : CallE P g (fs ++ vs.toArray ++ cs) A X K)
    (hX : ∀ ch A' w', X ch A' → Sat A' w'.heap → Keep A w.heap A' w'.heap → Rest w w' → Q (.panic ch) a w')
    (hK : ∀ v A' a' w', K v A' → OkE n ((d, some v) :: ρ) a' → Sat A' w'.heap → Keep A w.heap A' w'.heap → Rest w w' → Q .normal a' w') :
    wpList P l Q [⟨some d, .call ⟨.value fv, xs, ts⟩, ty, pos, aft, none⟩] a w := by
  have hcc : CallsH P g (fs ++ vs.toArray ++ cs) w.heap (ResE A w.heap X K) := by
    have := hc w.heap hs
    unfold RunC at this
    rwa [if_pos hcl] at this
  have hrun : (execOp a.eval ⟨some d, .call ⟨.value fv, xs, ts⟩, ty, pos, aft, none⟩).run P w = .ok (.enter g (fs ++ vs.toArray ++ cs)) w := by
    simp only [execOp, resolve, evO_eval hk hf, Deferred.ofValue, Sem.run_bind, Sem.run_pure, Result.andThen_ok, invoke, arr_eval hk hv]
    exact callable_run hcl
  unfold wpList
  rw [if_pos (by simp [Region.wanted])]
  refine .inl ?_
  unfold Oper.wp
  rw [hrun]
  simp only [Oper.upon]
  refine (hcc w rfl).mono fun e w' ⟨hR, hre⟩ => ?_
  rcases hR with ⟨v, A', rfl, h1, h2, h3⟩ | ⟨ch, A', rfl, h1, h2, h3⟩
  · exact hK v A' _ w' h3 (hk.put hd v) h1 h2 hre
  · exact hX ch A' w' h3 h1 h2 hre
theorem wpList_opW [dd : DefD] {l : Array Oper} {o : Oper} {tl : List Oper} (hg : o.guard = none) (hk : OkE n ρ a) (hs : Sat A w.heap)
    (h : ∀ ν, Fresh ν A → stepA P imp n o ν 0 ρ A (fun _ _ ρ' A' => KK ρ' A'))
    (hX : ∀ ch w', PanP imp.X A w.heap ch w'.heap → Rest w w' → Q (.panic ch) a w')
    (hK : ∀ ρ' A' a' w', KK ρ' A' → OkE n ρ' a' → Sat A' w'.heap → Keep A w.heap A' w'.heap → Rest w w' → wpList P l Q tl a' w') : wpList P l Q (o :: tl) a w := by
  have h1 : stepW P n o ρ w.heap (fun ρ' h' => ∃ A', KK ρ' A' ∧ Sat A' h' ∧ Keep A w.heap A' h') (fun ch h' => PanP imp.X A w.heap ch h') := by
    refine stepA_to (K := fun _ _ ρ' A' => KK ρ' A') (fun ch h' p => p) (fun ρ' h' p => ?_) (St.start hs) (Fut.fresh h)
    obtain ⟨ν1, n1, A1, st, kp, f⟩ := p
    exact ⟨A1, st.get f, st.sat, kp⟩
  unfold wpList
  rw [if_pos (by simp [Region.wanted, hg])]
  exact .inl (stepW_soundX (w0 := w) (fun ch h w' q1 q2 q3 => hX ch w' (by rw [q2]; exact q1) q3) h1 hk (Rest.refl w) (fun ρ' a' w' ⟨A', k1, k2, k3⟩ k4 k5 _ => hK ρ' A' a' w' k1 k4 k2 k3 k5))
end
theorem okE_args {n : Nat} {args : List Value} (ha : args.length ≤ n) : @OkE dd0 n (argE 0 args) { tmps := args.toArray ++ Array.replicate (n - args.toArray.size) undef, defers := [] } := by
  refine ⟨rfl, by simp; omega, fun t v ht => ?_⟩
  obtain ⟨j, h1, h2⟩ := argE_get args 0 t v ht
  have hj : j < args.length := by
    rcases Nat.lt_or_ge j args.length with h | h
    · exact h
    · rw [List.getElem?_eq_none h] at h2; cases h2
  have : t = j := by omega
  subst this
  simp only [Array.getElem?_append]
  rw [if_pos (by simpa using hj)]
  simpa using h2
theorem callA_of_defers {P : Program} {f : FuncId} {fn : Func} {c : Code} {args : List Value} {A : AH} {K : Value → AH → Prop} (hf : P.funcs[f]? = some fn) (hb : fn.body = some c) (hcl : callable P f = true) {n : Nat} (hn : fn.ntmps = n) (ha : args.length ≤ n)
    (h : ∀ (a : Act) (w : World), a.defers = [] → @OkE dd0 n (argE 0 args) a → Sat A w.heap → c.wp P (bodyPostD P fn fun e w' => ResA A w.heap K e w'.heap ∧ Rest w w') a w) : CallA P f args.toArray A K := by
  intro h0 hs
  unfold RunC
  rw [if_pos hcl]
  intro w hw
  subst hw
  refine calls_of_wp_defers hf hb ?_
  rw [hn]
  exact h _ w rfl (okE_args ha) hs
theorem OkE.defers {n : Nat} {ρ : Env} {a : Act} (d1 d2 : DefD) (hk : @OkE d1 n ρ a) (h : a.defers = d2.ds) : @OkE d2 n ρ a := ⟨h, hk.2⟩
end Go.Vm
