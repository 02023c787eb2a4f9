/-
The second evaluator is sound, continued: operations, code, calls; the rules for loops.
Conditions: none. Generic: it speaks of no program.
-/
import Derived.Test.YtfphceknmgadgaaDoorVmAS
set_option linter.unusedSimpArgs false
set_option linter.unusedVariables false
namespace Go.Vm
theorem lenA_det {P : Program} {t : TypeId} {x : Value} {A : AH} {K0 : Value → Prop} (h0 : lenA P t x A K0) : ∃ v, (∀ K, lenA P t x A K ↔ K v) ∧ ∀ h K, Sat A h → (lenW P t x h K ↔ K v) := by
  have main : ∀ x : Value, (∀ r, x ≠ .map (some r)) → lenW P t x #[] K0 → ∃ v, ∀ h (K : Value → Prop), lenW P t x h K ↔ K v := by
    intro x hx h0
    unfold lenW at h0
    split at h0
    · obtain ⟨hu, _⟩ := h0
      exact ⟨_, fun h K => need_iff hu⟩
    · obtain ⟨s, hs, _⟩ := bnd_out h0
      exact ⟨_, fun h K => bnd_iff hs _⟩
    · split at h0
      · rename_i hu
        exact ⟨.int .i64 0, fun h K => by simp only [lenW, hu]⟩
      · exact h0.elim
    · exact (hx _ rfl).elim
    · exact h0.elim
  by_cases hx : ∃ r, x = .map (some r)
  · obtain ⟨r, rfl⟩ := hx
    unfold lenA lenO lenM at h0
    simp only at h0
    split at h0
    · rename_i a b es c hu ho
      refine ⟨.int .i64 es.size, fun K => by simp only [lenA, lenO, hu, ho, lenM], fun h K hs => ?_⟩
      rw [len_map, hu, hs _ _ ho]
      exact Iff.rfl
    · exact h0.elim
  · have hx' : ∀ r, x ≠ .map (some r) := fun r e => hx ⟨r, e⟩
    have e : ∀ K, lenA P t x A K = lenW P t x #[] K := by
      intro K
      unfold lenA
      split
      · exact (hx' _ rfl).elim
      · rfl
    rw [e] at h0
    obtain ⟨v, hv⟩ := main x hx' h0
    exact ⟨v, fun K => by rw [e]; exact hv _ K, fun h K _ => hv h K⟩
theorem cnvN_to {P : Program} {s d : TypeId} {x : Value} {A : AH} {ν : Nu} {n : Nat} {h : Heap} {K : Nu → Nat → Value → AH → Prop} {K' : Value → Heap → Prop} (st : St ν n A h)
    (f : Fut ν n A fun ν' => cnvN P s d (P.underlying s) (P.underlying d) x A ν' n K) (hK : ∀ v h', PostV K A h v h' → K' v h') : cnvW P s d x h K' := by
  have h0 := st.get f
  unfold cnvW
  split
  · rename_i h1 h2
    rw [h1, h2] at h0
    simp only [h1, h2] at f
    cases x <;> first | exact h0.elim | exact hK _ _ (PostV.same st f)
  · rename_i h1 h2
    rw [h1, h2] at h0
    simp only [h1, h2] at f
    cases x <;> first | exact h0.elim | exact hK _ _ (PostV.same st f)
  · rename_i h1 h2
    rw [h1, h2] at h0
    simp only [h1, h2] at f
    cases x <;> first | exact h0.elim | exact hK _ _ (PostV.same st f)
  · rename_i h1 h2 h3
    have e : (∀ ν', cnvN P s d (P.underlying s) (P.underlying d) x A ν' n K = SemN P (convert s d x) A ν' n K) ∨ (∀ ν', cnvN P s d (P.underlying s) (P.underlying d) x A ν' n K = SemR P (convert s d x) A ν' n K) := by
      generalize P.underlying s = us at *
      generalize P.underlying d = ud at *
      by_cases hr : (∃ e, us = some (.slice e)) ∧ ud = some .string
      · obtain ⟨⟨e, rfl⟩, rfl⟩ := hr
        exact .inr fun ν' => rfl
      · refine .inl fun ν' => ?_
        unfold cnvN
        split
        · exact (h1 _ _ rfl rfl).elim
        · exact (h2 _ rfl rfl).elim
        · exact (h3 rfl rfl).elim
        · exact (hr ⟨⟨_, rfl⟩, rfl⟩).elim
        · rfl
    rcases e with e | e
    · exact (SemN_to st (f.mono fun ν' h1 => (e ν' ▸ h1))).mono hK
    · exact (SemR_to st (f.mono fun ν' h1 => (e ν' ▸ h1))).mono hK
theorem rangeN_to {P : Program} {t : TypeId} {x : Value} {A : AH} {ν : Nu} {n : Nat} {h : Heap} {K : Nu → Nat → Value → AH → Prop} (st : St ν n A h) (f : Fut ν n A fun ν' => rangeN P t x A ν' n K) : RunW P (Instr.range t x) h fun v h' => PostV K A h v h' := by
  by_cases hx : ∃ s, x = .string s
  · obtain ⟨s, rfl⟩ := hx
    have h0 := st.get f
    obtain ⟨ν1, s1, f1⟩ := st.alloc (.stringIter s 0) (G := fun ν' b => K ν' (n + 1) (.pointer (some ⟨b, 0, none⟩)) ((b, .stringIter s 0) :: A)) (f.mono fun ν' h1 => h1.2)
    exact rw_range_string h0.1 ⟨ν1, n + 1, _, s1, Keep.push, f1⟩
  · have e : ∀ ν', rangeN P t x A ν' n K = SemN P (Instr.range t x) A ν' n K := by
      intro ν'
      unfold rangeN
      split
      · exact (hx ⟨_, rfl⟩).elim
      · rfl
    exact SemN_to st (f.mono fun ν' h1 => (e ν' ▸ h1))
theorem nextN_to {P : Program} {x : Value} {b : Bool} {ty : TypeId} {A : AH} {ν : Nu} {n : Nat} {h : Heap} {K : Nu → Nat → Value → AH → Prop} (st : St ν n A h) (f : Fut ν n A fun ν' => nextN P x b ty A ν' n K) : RunW P (Instr.next x b ty) h fun v h' => PostV K A h v h' := by
  by_cases hx : ∃ r, x = .pointer (some ⟨r, 0, none⟩) ∧ b = true
  · obtain ⟨r, rfl, rfl⟩ := hx
    have f1 : Fut ν n A fun ν' => nextO r (look A r) A ν' n K := f
    have h0 := st.get f1
    unfold nextO at h0 f1
    cases ho : look A r with
    | none => rw [ho] at h0; exact h0.elim
    | some o =>
      cases o with
      | stringIter s pos =>
        rw [ho] at f1
        refine rw_next_string (st.sat r _ ho) ?_
        split
        · rename_i hp
          have f2 : Fut ν n A fun ν' => K ν' n (.tuple #[.bool true, .int .i64 pos, .int .i32 (Utf8.decode s pos).1]) (putB A r (.stringIter s (pos + (Utf8.decode s pos).2))) := f1.mono fun ν' h1 => h1.1 (by simpa using hp)
          have hnone : ∀ b' u, look (putB A r u) b' = none ↔ look A b' = none := by
            intro b' u
            rw [look_putB]
            by_cases hbb : b' = r
            · subst hbb; simp [ho]
            · simp [hbb]
          refine ⟨ν, n, _, ⟨?_, st.inj, fun i hi => by simpa using st.old i hi⟩, ⟨by simp, fun b' hb' hl => ?_⟩, fun ν' h1 h2 h3 => f2 ν' h1 h2 fun i hi => (hnone _ _).1 (h3 i hi)⟩
          · intro b' o' hl
            rw [look_putB] at hl
            rw [Array.getElem?_setIfInBounds]
            by_cases hbb : b' = r
            · subst hbb
              rw [if_pos rfl, ho] at hl
              simp only [Option.map_some, Option.some.injEq] at hl
              subst hl
              have := st.sat.lt ho
              simp [this]
            · rw [if_neg hbb] at hl
              rw [if_neg (fun e => hbb e.symm)]
              exact st.sat _ _ hl
          · have hbb : b' ≠ r := fun e => by subst e; rw [ho] at hl; cases hl
            rw [Array.getElem?_setIfInBounds, if_neg (fun e => hbb e.symm)]
            exact ⟨rfl, (hnone _ _).2 hl⟩
        · rename_i hp
          exact PostV.same st (f1.mono fun ν' h1 => h1.2 (by simpa using hp))
      | _ => rw [ho] at h0; exact h0.elim
  · have e : ∀ ν', nextN P x b ty A ν' n K = SemN P (Instr.next x b ty) A ν' n K := by
      intro ν'
      unfold nextN
      split
      · exact (hx ⟨_, rfl, rfl⟩).elim
      · rfl
    exact SemN_to st (f.mono fun ν' h1 => (e ν' ▸ h1))
section
variable {P : Program} {imp : Imp} {nt : Nat} {ν : Nu} {n : Nat} {ρ : Env} {A : AH} {h : Heap} {K : Nu → Nat → Env → AH → Prop} {X : List PanicEntry → Heap → Prop} {K' : Env → Heap → Prop}
theorem putK_mono {dst : Option Nat} {v : Value} {K K' : Env → Prop} (h : putK nt dst v ρ K) (hk : ∀ ρ', K ρ' → K' ρ') : putK nt dst v ρ K' := by
  cases dst with
  | none => exact hk _ h
  | some d => exact ⟨h.1, hk _ h.2⟩
theorem put_k {dst : Option Nat} {h' : Heap} {v : Value} (hK : ∀ ρ' h', PostE K A h ρ' h' → K' ρ' h') (p : PostV (fun ν n v A => putK nt dst v ρ fun ρ' => K ν n ρ' A) A h v h') : putK nt dst v ρ fun ρ' => K' ρ' h' :=
  putK_mono (put_to p) fun ρ' h1 => hK _ _ h1
theorem fut_bnd {α : Type} {o : Option α} {v : α} (hv : o = some v) {G : Nu → α → Prop} (f : Fut ν n A fun ν' => bnd o (G ν')) : Fut ν n A fun ν' => G ν' v := f.mono fun ν' h1 => (bnd_iff hv _).1 h1
theorem sem_put {s : Sem Value} {dst : Option Nat} (hK : ∀ ρ' h', PostE K A h ρ' h' → K' ρ' h') (st : St ν n A h) (f : Fut ν n A fun ν' => SemN P s A ν' n fun ν n u A => putK nt dst u ρ fun ρ' => K ν n ρ' A) : RunW P s h fun v h' => putK nt dst v ρ fun ρ' => K' ρ' h' :=
  (SemN_to st f).mono fun v h' p => put_k hK p
theorem semR_put {s : Sem Value} {dst : Option Nat} (hK : ∀ ρ' h', PostE K A h ρ' h' → K' ρ' h') (st : St ν n A h) (f : Fut ν n A fun ν' => SemR P s A ν' n fun ν n u A => putK nt dst u ρ fun ρ' => K ν n ρ' A) : RunW P s h fun v h' => putK nt dst v ρ fun ρ' => K' ρ' h' :=
  (SemR_to st f).mono fun v h' p => put_k hK p
theorem alloc_put {o : Obj} {dst : Option Nat} {V : Nat → Value} (hK : ∀ ρ' h', PostE K A h ρ' h' → K' ρ' h') (st : St ν n A h) (f : Fut ν n A fun ν' => putK nt dst (V (ν' n)) ρ fun ρ' => K ν' (n + 1) ρ' ((ν' n, o) :: A)) : putK nt dst (V h.size) ρ fun ρ' => K' ρ' (h.push o) := by
  obtain ⟨ν1, s1, f1⟩ := st.alloc o (G := fun ν' b => putK nt dst (V b) ρ fun ρ' => K ν' (n + 1) ρ' ((b, o) :: A)) f
  exact put_k hK ⟨ν1, n + 1, _, s1, Keep.push, f1⟩
theorem stepA_to {o : Oper} (hX : ∀ ch h', PanP imp.X A h ch h' → X ch h') (hK : ∀ ρ' h', PostE K A h ρ' h' → K' ρ' h') (st : St ν n A h) (f : Fut ν n A fun ν' => stepA P imp nt o ν' n ρ A K) : stepW P nt o ρ h K' X := by
  obtain ⟨dst, op, ty, pos, aft, gd⟩ := o
  have h0 := st.get f
  unfold stepA at h0
  split at h0
  · -- a call
    rename_i g args ts hop
    simp only at hop
    subst hop
    obtain ⟨fv, hf, h0⟩ := bnd_out h0
    obtain ⟨vs, hv, h0⟩ := bnd_out h0
    have f1 : Fut ν n A fun ν' => callN P imp fv vs A ν' n fun ν n v A => putK nt dst v ρ fun ρ' => K ν n ρ' A := fut_bnd hv (fut_bnd hf f)
    unfold callN at h0
    split at h0
    · rename_i g fs cs _
      have hc := CalN_to st (K := fun ν n v A => putK nt dst v ρ fun ρ' => K ν n ρ' A) f1
      refine (bnd_iff hf _).2 ((bnd_iff hv _).2 ?_)
      show if callable P g = true then _ else _
      unfold RunC at hc
      by_cases hcl : callable P g = true
      · rw [if_pos hcl] at hc ⊢
        refine CallsH.monoP hc ?_ (fun h' hx => by rcases hx with ⟨_, hx, _⟩ | ⟨_, hx, _⟩ <;> cases hx)
        rintro _ h' (⟨v, rfl, p⟩ | ⟨ch, rfl, p⟩)
        · exact put_k hK p
        · exact hX _ _ p
      · rw [if_neg hcl] at hc ⊢
        intro w hw
        obtain ⟨v, w', h1, h2, ⟨u, hu, p⟩ | ⟨ch, hu, _⟩⟩ := hc w hw
        · cases hu
          exact ⟨v, w', h1, h2, put_k hK p⟩
        · cases hu
    · exact h0.elim
  · rename_i t x hop
    simp only at hop
    subst hop
    obtain ⟨p, hp, h0⟩ := bnd_out h0
    obtain ⟨a, ha, h0⟩ := bnd_out h0
    obtain ⟨v, hv, h0⟩ := bnd_out h0
    exact (bnd_iff hp _).2 ((bnd_iff ha _).2 ((bnd_iff (rdVarA_to st.sat hv) _).2 (put_k hK (PostV.same st (fut_bnd hv (fut_bnd ha (fut_bnd hp f)))))))
  · rename_i t x y hop
    simp only at hop
    subst hop
    obtain ⟨p, hp, h0⟩ := bnd_out h0
    obtain ⟨a, ha, h0⟩ := bnd_out h0
    obtain ⟨v, hv, h0⟩ := bnd_out h0
    obtain ⟨s, hs, h0⟩ := bnd_out h0
    obtain ⟨hz, h0⟩ := h0
    obtain ⟨A', hw, h0⟩ := bnd_out h0
    obtain ⟨h', hw', st', kp, hnone⟩ := wrA_to st hw
    have f1 := fut_bnd hs (fut_bnd hv (fut_bnd ha (fut_bnd hp f)))
    have f2 : Fut ν n A fun ν' => putK nt dst undef ρ fun ρ' => K ν' n ρ' A' := f1.mono fun ν' h1 => (bnd_iff hw _).1 h1.2
    have f3 : Fut ν n A' fun ν' => putK nt dst undef ρ fun ρ' => K ν' n ρ' A' := fun ν' h1 h2 h3 => f2 ν' h1 h2 fun i hi => (hnone _).1 (h3 i hi)
    exact (bnd_iff hp _).2 ((bnd_iff ha _).2 ((bnd_iff hv _).2 ((bnd_iff hs _).2 ⟨hz, (bnd_iff hw' _).2 (put_k hK ⟨ν, n, A', st', kp, f3⟩)⟩)))
  · rename_i e hop
    simp only at hop
    subst hop
    obtain ⟨z, hz, h0⟩ := bnd_out h0
    exact (bnd_iff hz _).2 (alloc_put (V := fun b => .pointer (some ⟨b, 0, none⟩)) hK st (fut_bnd hz f))
  · rename_i e x hop
    simp only at hop
    subst hop
    obtain ⟨z, hz, h0⟩ := bnd_out h0
    exact (bnd_iff hz _).2 (alloc_put (V := fun b => .pointer (some ⟨b, 0, none⟩)) hK st (fut_bnd hz f))
  · rename_i t m ps hop
    simp only at hop
    subst hop
    obtain ⟨vs, hv, h0⟩ := bnd_out h0
    obtain ⟨r, hr, h0⟩ := bnd_out h0
    exact (bnd_iff hv _).2 ((bnd_iff hr _).2 (alloc_put (V := fun b => .slice (some ⟨b, 0, none⟩) m m) hK st (fut_bnd hr (fut_bnd hv f))))
  · rename_i t hop
    simp only at hop
    subst hop
    exact alloc_put (V := fun b => .map (some b)) hK st f
  · rename_i s d x hop
    simp only at hop
    subst hop
    obtain ⟨v, hv, h0⟩ := bnd_out h0
    exact (bnd_iff hv _).2 (cnvN_to (K := fun ν n u A => putK nt dst u ρ fun ρ' => K ν n ρ' A) st (fut_bnd hv f) fun v h' p => put_k hK p)
  · rename_i t l c hop
    simp only at hop
    subst hop
    obtain ⟨u, hu, h0⟩ := bnd_out h0
    obtain ⟨v, hv, h0⟩ := bnd_out h0
    exact (bnd_iff hu _).2 ((bnd_iff hv _).2 (sem_put hK st (fut_bnd hv (fut_bnd hu f))))
  · rename_i t x i ok hop
    simp only at hop
    subst hop
    obtain ⟨u, hu, h0⟩ := bnd_out h0
    obtain ⟨v, hv, h0⟩ := bnd_out h0
    exact (bnd_iff hu _).2 ((bnd_iff hv _).2 (semR_put hK st (fut_bnd hv (fut_bnd hu f))))
  · rename_i t x i y hop
    simp only at hop
    subst hop
    obtain ⟨u, hu, h0⟩ := bnd_out h0
    obtain ⟨v, hv, h0⟩ := bnd_out h0
    obtain ⟨q, hq, h0⟩ := bnd_out h0
    exact (bnd_iff hu _).2 ((bnd_iff hv _).2 ((bnd_iff hq _).2 (sem_put hK st (fut_bnd hq (fut_bnd hv (fut_bnd hu f))))))
  · rename_i t x i y hop
    simp only at hop
    subst hop
    obtain ⟨u, hu, h0⟩ := bnd_out h0
    obtain ⟨v, hv, h0⟩ := bnd_out h0
    obtain ⟨q, hq, h0⟩ := bnd_out h0
    exact (bnd_iff hu _).2 ((bnd_iff hv _).2 ((bnd_iff hq _).2 (sem_put hK st (fut_bnd hq (fut_bnd hv (fut_bnd hu f))))))
  · rename_i t x hop
    simp only at hop
    subst hop
    obtain ⟨u, hu, h0⟩ := bnd_out h0
    exact (bnd_iff hu _).2 ((rangeN_to (K := fun ν n u A => putK nt dst u ρ fun ρ' => K ν n ρ' A) st (fut_bnd hu f)).mono fun v h' p => put_k hK p)
  · rename_i x s hop
    simp only at hop
    subst hop
    obtain ⟨u, hu, h0⟩ := bnd_out h0
    exact (bnd_iff hu _).2 ((nextN_to (K := fun ν n u A => putK nt dst u ρ fun ρ' => K ν n ρ' A) st (fut_bnd hu f)).mono fun v h' p => put_k hK p)
  · rename_i x t a ok hop
    simp only at hop
    subst hop
    obtain ⟨u, hu, h0⟩ := bnd_out h0
    exact (bnd_iff hu _).2 (semR_put hK st (fut_bnd hu f))
  · rename_i b args ts hop
    simp only at hop
    subst hop
    obtain ⟨vs, hv, h0⟩ := bnd_out h0
    have f1 := fut_bnd hv f
    refine (bnd_iff hv _).2 ?_
    split at h0
    · rename_i v t hts _
      obtain ⟨u, h1, h2⟩ := lenA_det h0
      simp only [hts]
      refine (h2 h (fun u => putK nt dst u ρ fun ρ' => K' ρ' h) st.sat).2 (put_k hK (PostV.same st (f1.mono fun ν' h3 => ?_)))
      simp only [hts] at h3
      exact (h1 _).1 h3
    · exact sem_put hK st f1
    · exact semR_put hK st f1
    · exact sem_put hK st f1
    · exact sem_put hK st f1
    · exact sem_put hK st f1
    · exact semR_put hK st f1
    · exact sem_put hK st f1
    · exact put_k hK (PostV.same st f1)
    · exact put_k hK (PostV.same st f1)
    · exact h0.elim
  · rename_i x hop
    simp only at hop
    subst hop
    obtain ⟨v, hv, h0⟩ := bnd_out h0
    unfold panX at h0
    split at h0
    · rename_i X0 t u hx
      exact (bnd_iff hv _).2 (hX _ _ ⟨X0, A, hx, st.sat, Keep.refl _ _, h0⟩)
    · exact h0.elim
  · rename_i n1 n2 n3 n4 n5 n6 n7 n8 n9 n10 n11 n12 n13 n14 n15 n16 n17
    simp only at n1 n2 n3 n4 n5 n6 n7 n8 n9 n10 n11 n12 n13 n14 n15 n16 n17
    obtain ⟨hfr, h0⟩ := h0
    have e : ∀ ν', stepA P imp nt ⟨dst, op, ty, pos, aft, gd⟩ ν' n ρ A K = need (freeOp P op = true) (stepW P nt ⟨dst, op, ty, pos, aft, gd⟩ ρ #[] (fun ρ' _ => K ν' n ρ' A) fun _ _ => False) := by
      intro ν'
      unfold stepA
      split
      all_goals first | rfl | (rename_i hop; simp only at hop; subst hop; first | (cases hfr; done) | exact (n8 _ _ _ rfl).elim)
    have f1 := f.mono fun ν' h1 => (e ν' ▸ h1).2
    have hcall : ∀ c, op ≠ .call c := fun c hc => by subst hc; cases hfr
    have hpan : ∀ x, op ≠ .panic x := fun c hc => by subst hc; cases hfr
    have ew : ∀ (h : Heap) (K : Env → Heap → Prop) (X : List PanicEntry → Heap → Prop), stepW P nt ⟨dst, op, ty, pos, aft, gd⟩ ρ h K X = opW P op ty ρ h fun v h' => putK nt dst v ρ fun ρ' => K ρ' h' := by
      intro h K X
      unfold stepW
      split
      · exact absurd ‹_› (hcall _)
      · exact absurd ‹_› (hpan _)
      · rfl
    rw [ew] at h0 ⊢
    obtain ⟨v, hv⟩ := freeV hfr n8 h0
    refine (hv h _).2 (put_k hK (PostV.same st (f1.mono fun ν' h1 => ?_)))
    rw [ew] at h1
    exact (hv #[] _).1 h1
theorem PostE.same' {ρ' : Env} (st : St ν n A h) (f : Fut ν n A fun ν' => K ν' n ρ' A) : PostE K A h ρ' h := ⟨ν, n, A, st, Keep.refl _ _, f⟩
theorem denOpsA_to {all : List Oper} : ∀ (m : Nat) (cur : Option (Nat × Bool)) (l : List Oper) (ρ : Env) (A : AH) (n : Nat) (ν : Nu) (h : Heap) (K : Nu → Nat → Env → AH → Prop) (K' : Env → Heap → Prop),
    (∀ ch h', PanP imp.X A h ch h' → X ch h') → (∀ ρ' h', PostE K A h ρ' h' → K' ρ' h') → St ν n A h → Fut ν n A (fun ν' => denOpsA P imp nt all m cur l ν' n ρ A K) → denOps P nt all m cur l ρ h K' X := by
  intro m
  induction m with
  | zero => intro cur l ρ A n ν h K K' hX hK st f; exact (st.get f).elim
  | succ m ih =>
    intro cur l ρ A n ν h K K' hX hK st f
    cases l with
    | nil => exact hK _ _ (PostE.same' st f)
    | cons o l =>
      have h0 := st.get f
      unfold denOpsA at h0
      unfold denOps
      by_cases hg : o.guard = cur
      · rw [if_pos hg]
        have f1 : Fut ν n A fun ν' => stepA P imp nt o ν' n ρ A fun ν n ρ' A => denOpsA P imp nt all m cur l ν n ρ' A K := f.mono fun ν' h1 => by
          unfold denOpsA at h1; rw [if_pos hg] at h1; exact h1
        refine stepA_to hX (fun ρ1 h1 p => ?_) st f1
        obtain ⟨ν1, n1, A1, st1, kp, f1⟩ := p
        exact ih cur l ρ1 A1 n1 ν1 h1 K K' (fun ch h' p => hX _ _ (p.from kp)) (fun ρ' h' p => hK _ _ (p.from kp)) st1 f1
      · rw [if_neg hg] at h0 ⊢
        split at h0
        · exact h0.elim
        · rename_i j want hgd
          obtain ⟨s, hs, h0⟩ := bnd_out h0
          obtain ⟨v, hv, h0⟩ := bnd_out h0
          cases v with
          | bool b =>
            obtain ⟨hok, h0⟩ := h0
            have f1 : Fut ν n A fun ν' => (match pureG (grpOf cur (o :: l)), aftOf cur (o :: l) with
                | true, p :: after => match closes want s p.op with
                  | some y => denOpsA P imp nt all m (some (j, want)) (grpOf cur (o :: l)) ν' n ρ A fun ν n ρ' A => bnd (evO ρ' y) fun c => joinK nt p.dst want b c (hid (grpOf cur (o :: l)) ρ) fun ρ'' => denOpsA P imp nt all m cur after ν n ρ'' A K
                  | none => False
                | _, after => ifB (b == want) (denOpsA P imp nt all m (some (j, want)) (grpOf cur (o :: l)) ν' n ((s, some (.bool want)) :: ρ) A fun ν n ρ' A => denOpsA P imp nt all m cur after ν n ρ' A K) (denOpsA P imp nt all m cur after ν' n (hid (grpOf cur (o :: l)) ((s, some (.bool (!want))) :: ρ)) A K)) := f.mono fun ν' h1 => by
              unfold denOpsA at h1
              rw [if_neg hg, hgd] at h1
              simp only at h1
              exact ((bnd_iff hv _).1 ((bnd_iff hs _).1 h1)).2
            rw [hgd]
            refine (bnd_iff hs _).2 ((bnd_iff hv _).2 ⟨hok, ?_⟩)
            generalize hgr : grpOf cur (o :: l) = g at *
            generalize haf : aftOf cur (o :: l) = aft at *
            cases hpu : pureG g with
            | true =>
              cases aft with
              | cons p after =>
                simp only [hpu] at f1 h0 ⊢
                cases hy : closes want s p.op with
                | none => simp only [hy] at h0
                | some y =>
                  simp only [hy] at f1 ⊢
                  refine ih _ _ _ _ _ _ _ _ _ hX (fun ρ1 h1 p1 => ?_) st f1
                  obtain ⟨ν1, n1, A1, st1, kp, f2⟩ := p1
                  obtain ⟨c, hc, _⟩ := bnd_out (st1.get f2)
                  have f3 := fut_bnd hc f2
                  refine (bnd_iff hc _).2 ?_
                  have h3 := st1.get f3
                  unfold joinK at h3 f3 ⊢
                  cases c with
                  | bool c =>
                    simp only at h3 f3 ⊢
                    cases hd : p.dst with
                    | none =>
                      rw [hd] at f3
                      exact ih _ _ _ _ _ _ _ _ _ (fun ch h' q => hX _ _ (q.from kp)) (fun ρ' h' q => hK _ _ (q.from kp)) st1 f3
                    | some d =>
                      rw [hd] at f3 h3
                      exact ⟨h3.1, ih _ _ _ _ _ _ _ _ _ (fun ch h' q => hX _ _ (q.from kp)) (fun ρ' h' q => hK _ _ (q.from kp)) st1 (f3.mono fun ν' q => q.2)⟩
                  | _ => exact h3.elim
              | nil =>
                simp only [hpu] at f1 h0 ⊢
                refine ⟨fun q => ?_, fun q => ?_⟩
                · refine ih _ _ _ _ _ _ _ _ _ hX (fun ρ1 h1 p1 => ?_) st (f1.mono fun ν' h1 => h1.1 q)
                  obtain ⟨ν1, n1, A1, st1, kp, f2⟩ := p1
                  exact ih _ _ _ _ _ _ _ _ _ (fun ch h' q => hX _ _ (q.from kp)) (fun ρ' h' q => hK _ _ (q.from kp)) st1 f2
                · exact ih _ _ _ _ _ _ _ _ _ hX hK st (f1.mono fun ν' h1 => h1.2 q)
            | false =>
              simp only [hpu] at f1 h0 ⊢
              refine ⟨fun q => ?_, fun q => ?_⟩
              · refine ih _ _ _ _ _ _ _ _ _ hX (fun ρ1 h1 p1 => ?_) st (f1.mono fun ν' h1 => h1.1 q)
                obtain ⟨ν1, n1, A1, st1, kp, f2⟩ := p1
                exact ih _ _ _ _ _ _ _ _ _ (fun ch h' q => hX _ _ (q.from kp)) (fun ρ' h' q => hK _ _ (q.from kp)) st1 f2
              · exact ih _ _ _ _ _ _ _ _ _ hX hK st (f1.mono fun ν' h1 => h1.2 q)
          | _ => exact h0.elim
end
end Go.Vm
