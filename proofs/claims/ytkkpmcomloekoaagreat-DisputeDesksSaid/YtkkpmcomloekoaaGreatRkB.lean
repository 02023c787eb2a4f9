/-
Disputes: the reference's Step, Expire and Open.
Conditions: none.
-/
import Derived.Test.YtkkpmcomloekoaaGreatRkA
import Derived.Test.YtkkpmcomloekoaaGreatDss
import Derived.Test.YtkkpmcomloekoaaGreatDsn
import Derived.Test.YtkkpmcomloekoaaGreatDsq
import Derived.Test.YtkkpmcomloekoaaGreatRec4
import Derived.Test.YtkkpmcomloekoaaGreatVmAU
namespace Go.Proofs.YtkkpmcomloekoaaGreat
open Go.Vm
set_option linter.unusedSimpArgs false
set_option linter.unusedVariables false
set_option maxHeartbeats 4000000
set_option maxRecDepth 20000
theorem vbRkB : type_of% (And.intro @slIndexByte_v (And.intro @indexByte_v (And.intro @indexRune_v (And.intro @containsRune_v (And.intro @classOf_v (And.intro @isWordByte_v (And.intro @letter_v (And.intro @digit_v (And.intro @wordAt_v (And.intro @rword_v (And.intro @isName_v (And.intro @risName_v (And.intro @possible_v (And.intro @days_v (And.intro @due_v (And.intro @rkind_v (And.intro @rdays_v (And.intro @rdaysS_v (And.intro @rdue_v (And.intro @evName_v (And.intro @evCheck_v (And.intro @dNext_v (And.intro @rNext_v (And.intro @dTurn_v (And.intro @recId_v (And.intro @rId13_v (And.intro @rId27_v (And.intro @moneyCur_v (And.intro @rCur01_v (And.intro @inTotal_v (And.intro @rwithin1_v (And.intro @exCard_v (And.intro @recCheck_v (And.intro @dspId_v (And.intro @awk46_v (And.intro @rdate_v (And.intro @rdue46_v (And.intro @revCheck_v (@rrecCheck_v))))))))))))))))))))))))))))))))))))))) := And.intro @slIndexByte_v (And.intro @indexByte_v (And.intro @indexRune_v (And.intro @containsRune_v (And.intro @classOf_v (And.intro @isWordByte_v (And.intro @letter_v (And.intro @digit_v (And.intro @wordAt_v (And.intro @rword_v (And.intro @isName_v (And.intro @risName_v (And.intro @possible_v (And.intro @days_v (And.intro @due_v (And.intro @rkind_v (And.intro @rdays_v (And.intro @rdaysS_v (And.intro @rdue_v (And.intro @evName_v (And.intro @evCheck_v (And.intro @dNext_v (And.intro @rNext_v (And.intro @dTurn_v (And.intro @recId_v (And.intro @rId13_v (And.intro @rId27_v (And.intro @moneyCur_v (And.intro @rCur01_v (And.intro @inTotal_v (And.intro @rwithin1_v (And.intro @exCard_v (And.intro @recCheck_v (And.intro @dspId_v (And.intro @awk46_v (And.intro @rdate_v (And.intro @rdue46_v (And.intro @revCheck_v (@rrecCheck_v))))))))))))))))))))))))))))))))))))))
/-- What a call of the reference's desk leaves. -/
def RkQ (X : AH) (db : Nat) (rp : Option Addr) (rcap : Nat) (R : List Rs) (u : Value) (D : AH) (q : Int × List Fd) : Prop := u = .int .i64 q.1 ∧ ∃ E' fv' F', RkP E' db fv' rp rcap R F' ∧ F'.map Fo.d = q.2 ∧ Dis E' X ∧ SubA (E' ++ X) D
theorem mv_use {g : FuncId} {args : Array Value} {A E X : AH} {db : Nat} {fv : Value} {rp : Option Addr} {rcap : Nat} {R : List Rs} {G : List Fd} {K : Value → AH → Prop} (hc : CallA Tryz.prog g args (E ++ X) fun u D => u = .tuple #[] ∧ ∃ E' F', RkP E' db fv rp rcap R F' ∧ F'.map Fo.d = G ∧ Dis E' X ∧ SubA (E' ++ X) D) (hs : SubA (E ++ X) A)
    (hk : ∀ E' F', RkP E' db fv rp rcap R F' → F'.map Fo.d = G → Dis E' X → K (.tuple #[]) (E' ++ X)) : CallA Tryz.prog g args A K :=
  CallA.useX hc hs [] (SubA.nil _) (fun x hx => absurd rfl hx) fun v D ⟨e, E', F', h1, h2, h3, h4⟩ _ => ⟨E' ++ X, h4, by rw [List.append_nil, e]; exact hk E' F' h1 h2 h3⟩
theorem findS_in {X : AH} {rp : Option Addr} {R : List Rs} {c : Txt} (hR : RsR X rp R) (hb : BigR R) : InR X ((findS c R).getD noRs) ∧ (((findS c R).getD noRs).d.cl.length ≤ 8000000000000 ∧ ((findS c R).getD noRs).d.df.length ≤ 8000000000000) ∧ ((findS c R).getD noRs).d = (findR c (R.map Rs.d)).getD noRn := by
  have h := findS_d c R
  cases hf : findS c R with
  | none => rw [hf] at h; rw [← h]; exact ⟨⟨TxR.nil, TxR.nil⟩, by decide, rfl⟩
  | some w => rw [hf] at h; rw [← h]; exact ⟨hR.2 w (findS_mem hf), hb w (findS_mem hf), rfl⟩
theorem okDate_iff {date : Int} : (okDate date = false) = (date < 0 ∨ 99999 < date) := by
  unfold okDate
  apply propext
  simp only [Bool.and_eq_false_iff, decide_eq_false_iff_not]
  omega
theorem next8 {s e : Int} (h1 : 1 ≤ s) (h2 : s ≤ 6) (h3 : 1 ≤ e) (h4 : e ≤ 6) (h : (nextF s e).2 ≠ 0) : (nextF s e).2 = 8 := by
  revert h
  unfold nextF
  grind (splits := 40)
theorem rstep_h (E : AH) (X : AH) (db : Nat) (fv : Value) (rp : Option Addr) (rcap : Nat) (R : List Rs) (F : List Fo) (hE : RkP E db fv rp rcap R F) (hEX : Dis E X) (hR : RsR X rp R) (hb : BigR R) (hRl : R.length ≤ 32) (hF : FdsOk (F.map Fo.d)) (id : Txt) (event date : Int) (L : List Itm) (p : Option Addr) (cap : Nat) (hL : StR itC 3 X p L) : CallA Tryz.prog 12 #[.pointer (some ⟨db, 0, none⟩), .string (bs id), .int .i64 event, .int .i64 date, .slice p L.length cap] (E ++ X) (fun u_ A_ => RkQ X db rp rcap R u_ A_ (stepX (R.map Rs.d) (F.map Fo.d) id event date L)) := by
  refine callA_of_denA ⟨Tryz.prog, 12, Tryz.f12, 89, [0, 1, 2, 3, 4, 10, 11, 12, 14, 15, 16], [34, 41], [(16, .p [(0, 0), (1, 0), (2, 0), (3, 0), (4, 0), (5, 0), (6, 0), (7, 0), (8, 0), (9, 0), (10, 0), (11, 1), (12, 2), (13, 0)])], _⟩ (args := [_, _, _, _, _]) Tryz.func12 rfl (by kernel_rfl) Tryz.ntmps12 (by simp) (by kernel_rfl) ?_
  intro ν fr; have nuE := fr.nu
  have hlen := hF.2.1
  rw [List.length_map] at hlen
  have fi := rfind46_w E db fv rp rcap R F hE hlen id (E ++ X) (SubA.left E X)
  have hE0 := hE
  obtain ⟨fp, fcap, rfl, hc, l1', hs, hsv⟩ := hE.out
  have l1 := SubA.left E X _ _ l1'
  cases hp : posF id (F.map Fo.d) with
  | none =>
    have hx : stepX (R.map Rs.d) (F.map Fo.d) id event date L = (6, F.map Fo.d) := by unfold stepX; rw [hp]
    simp only [hp, posV] at fi
    rw [hx]
    simp (maxDischargeDepth := 16) only [argE_nil, argE_cons, ↓vmD, vmV, vmStd, Nat.reduceMul, ↓reduceIte, Nat.reduceAdd, Nat.reduceSub, Nat.reduceEqDiff, Nat.reduceLT, Nat.reduceLeDiff, reduceCtorEq, Int.reduceToNat, Int.reduceLT, Int.reduceLE, Int.reduceEq, Int.reduceNeg, Int.reduceBEq, Int.reduceBNe, String.reduceEq, forall_const, ↓vmDA, vmVA, ↓vmQA, vmR, vmRA, ↓vmSA, vmSV, tyS, nuE, SubA.skip, SubA.refl, fr.2, vbRkB, l1, fi]
    exact ⟨E, _, F, hE, rfl, hEX, SubA.refl _⟩
  | some i =>
  obtain ⟨f, hf, hfd⟩ := pos_facts hp
  have hx : stepX (R.map Rs.d) (F.map Fo.d) id event date L = if stepE (R.map Rs.d) f.d event date L ≠ 0 then (stepE (R.map Rs.d) f.d event date L, F.map Fo.d) else (0, (F.map Fo.d).set i (enterX (R.map Rs.d) f.d (nextF f.d.c.st event).1 date)) := by unfold stepX; rw [hp]; simp only [hfd]
  simp only [hp, posV] at fi
  have hlt := (List.getElem?_eq_some_iff.1 hf).1
  obtain ⟨bk, off, cs, ty, fr0, hp0, hbk', hcr, hcc⟩ := hs.at hf
  obtain ⟨sp, scap, hsv1, _⟩ := hsv f (List.mem_of_getElem? hf)
  simp only [foC, hsv1] at hcr
  subst hp0
  have hbk := SubA.left E X _ _ hbk'
  have li : ((i : Int) < 0) = False := eq_false (by omega)
  have li2 : ((i : Int) < (F.length : Int)) = True := eq_true (by omega)
  have f0 := fr.2 0
  obtain ⟨n1, n2⟩ := look_ne f0 l1
  have bad : ∀ A' k, SubA (E ++ X) A' → stepE (R.map Rs.d) f.d event date L = k → k ≠ 0 → RkQ X db rp rcap R (.int .i64 k) A' (stepX (R.map Rs.d) (F.map Fo.d) id event date L) := fun A' k hA' hk h0 => by
    rw [hx, if_pos (by rw [hk]; exact h0), hk]
    exact ⟨rfl, E, _, F, hE, rfl, hEX, hA'⟩
  obtain ⟨ok1, ok2, ok3, ok4, ok5⟩ := hF.1 f.d (List.mem_map_of_mem (List.mem_of_getElem? hf))
  have s0 : ∀ o, SubA (E ++ X) ((ν 0, o) :: (E ++ X)) := fun o => SubA.fresh f0 (SubA.refl _)
  by_cases k1 : event < 1
  · simp (maxDischargeDepth := 16) only [argE_nil, argE_cons, ↓vmD, vmV, vmStd, Nat.reduceMul, ↓reduceIte, Nat.reduceAdd, Nat.reduceSub, Nat.reduceEqDiff, Nat.reduceLT, Nat.reduceLeDiff, reduceCtorEq, Int.reduceToNat, Int.reduceLT, Int.reduceLE, Int.reduceEq, Int.reduceNeg, Int.reduceBEq, Int.reduceBNe, String.reduceEq, forall_const, ↓vmDA, vmVA, ↓vmQA, vmR, vmRA, ↓vmSA, vmSV, tyS, nuE, SubA.skip, SubA.refl, fr.2, vbRkB, l1, fi, li, li2, eq_true k1]
    exact bad _ _ (SubA.refl _) (if_pos (.inl k1)) (by decide)
  by_cases k2 : 6 < event
  · simp (maxDischargeDepth := 16) only [argE_nil, argE_cons, ↓vmD, vmV, vmStd, Nat.reduceMul, ↓reduceIte, Nat.reduceAdd, Nat.reduceSub, Nat.reduceEqDiff, Nat.reduceLT, Nat.reduceLeDiff, reduceCtorEq, Int.reduceToNat, Int.reduceLT, Int.reduceLE, Int.reduceEq, Int.reduceNeg, Int.reduceBEq, Int.reduceBNe, String.reduceEq, forall_const, ↓vmDA, vmVA, ↓vmQA, vmR, vmRA, ↓vmSA, vmSV, tyS, nuE, SubA.skip, SubA.refl, fr.2, vbRkB, l1, fi, li, li2, eq_false k1, eq_true k2]
    exact bad _ _ (SubA.refl _) (if_pos (.inr k2)) (by decide)
  by_cases k3 : (nextF f.d.c.st event).2 = 0
  rotate_left
  · have k3' := next8 ok2 ok3 (by omega) (by omega) k3
    simp (maxDischargeDepth := 16) only [argE_nil, argE_cons, ↓vmD, vmV, vmStd, Nat.reduceMul, ↓reduceIte, Nat.reduceAdd, Nat.reduceSub, Nat.reduceEqDiff, Nat.reduceLT, Nat.reduceLeDiff, reduceCtorEq, Int.reduceToNat, Int.reduceLT, Int.reduceLE, Int.reduceEq, Int.reduceNeg, Int.reduceBEq, Int.reduceBNe, String.reduceEq, forall_const, ↓vmDA, vmVA, ↓vmQA, vmR, vmRA, ↓vmSA, vmSV, tyS, nuE, SubA.skip, SubA.refl, fr.2, vbRkB, l1, fi, li, li2, eq_false k1, eq_false k2, hbk, hcr, k3']
    exact bad _ _ (s0 _) (by unfold stepE; rw [if_neg (by omega), if_pos k3]) (by decide)
  cases k4 : okDate date with
  | false =>
    have k4' := k4
    rw [okDate_iff] at k4'
    simp (maxDischargeDepth := 16) only [argE_nil, argE_cons, ↓vmD, vmV, vmStd, Nat.reduceMul, ↓reduceIte, Nat.reduceAdd, Nat.reduceSub, Nat.reduceEqDiff, Nat.reduceLT, Nat.reduceLeDiff, reduceCtorEq, Int.reduceToNat, Int.reduceLT, Int.reduceLE, Int.reduceEq, Int.reduceNeg, Int.reduceBEq, Int.reduceBNe, String.reduceEq, forall_const, ↓vmDA, vmVA, ↓vmQA, vmR, vmRA, ↓vmSA, vmSV, tyS, nuE, SubA.skip, SubA.refl, fr.2, vbRkB, l1, fi, li, li2, eq_false k1, eq_false k2, hbk, hcr, k3, k4]
    exact bad _ _ (s0 _) (by unfold stepE; rw [if_neg (by omega), if_neg (by simpa using k3), if_pos (by omega)]) (by decide)
  | true =>
  have k4' : ¬ (date < 0 ∨ 99999 < date) := by rw [← okDate_iff, k4]; simp
  by_cases k6 : date < f.d.last
  · simp (maxDischargeDepth := 16) only [argE_nil, argE_cons, ↓vmD, vmV, vmStd, Nat.reduceMul, ↓reduceIte, Nat.reduceAdd, Nat.reduceSub, Nat.reduceEqDiff, Nat.reduceLT, Nat.reduceLeDiff, reduceCtorEq, Int.reduceToNat, Int.reduceLT, Int.reduceLE, Int.reduceEq, Int.reduceNeg, Int.reduceBEq, Int.reduceBNe, String.reduceEq, forall_const, ↓vmDA, vmVA, ↓vmQA, vmR, vmRA, ↓vmSA, vmSV, tyS, nuE, SubA.skip, SubA.refl, fr.2, vbRkB, l1, fi, li, li2, eq_false k1, eq_false k2, hbk, hcr, k3, k4, eq_true k6]
    exact bad _ _ (s0 _) (by unfold stepE; rw [if_neg (by omega), if_neg (by simpa using k3), if_pos (.inr (.inr k6))]) (by decide)
  have hst : stepE (R.map Rs.d) f.d event date L = if event ≤ 4 ∧ f.d.c.du < date then 24 else if suffF L (if event = 1 then needsF ((findR f.d.c.rea (R.map Rs.d)).getD noRn) 2 else []) = false then 25 else 0 := by
    unfold stepE; rw [if_neg (by omega), if_neg (by simpa using k3), if_neg (by omega)]
  by_cases k7 : event ≤ 4 ∧ f.d.c.du < date
  · simp (maxDischargeDepth := 16) only [argE_nil, argE_cons, ↓vmD, vmV, vmStd, Nat.reduceMul, ↓reduceIte, Nat.reduceAdd, Nat.reduceSub, Nat.reduceEqDiff, Nat.reduceLT, Nat.reduceLeDiff, reduceCtorEq, Int.reduceToNat, Int.reduceLT, Int.reduceLE, Int.reduceEq, Int.reduceNeg, Int.reduceBEq, Int.reduceBNe, String.reduceEq, forall_const, ↓vmDA, vmVA, ↓vmQA, vmR, vmRA, ↓vmSA, vmSV, tyS, nuE, SubA.skip, SubA.refl, fr.2, vbRkB, l1, fi, li, li2, eq_false k1, eq_false k2, hbk, hcr, k3, k4, eq_false k6, eq_true k7.1, eq_true k7.2]
    exact bad _ _ (s0 _) (by rw [hst, if_pos k7]) (by decide)
  rw [if_neg k7] at hst
  have mv := rmove_h E X db _ rp rcap R F hE hEX hR hRl i f hf (by omega) event date k3
  by_cases k8 : event = 1
  · have k9 : (f.d.c.du < date) = False := eq_false (by omega)
    have k10 : (event ≤ 4) = True := eq_true (by omega)
    rw [if_pos k8] at hst
    have sX : ∀ o, SubA X ((ν 0, o) :: (E ++ X)) := fun o => SubA.trans hEX.right (s0 o)
    have fw := fun o => rfind_w X R rp rcap f.d.c.rea hR (by omega) _ (sX o)
    obtain ⟨w1, w2, w3⟩ := findS_in (c := f.d.c.rea) hR hb
    rw [← w3] at hst
    generalize hy : (findS f.d.c.rea R).getD noRs = w at fw w1 w2 w3 hst
    simp (maxDischargeDepth := 16) only [argE_nil, argE_cons, ↓vmD, vmV, vmStd, Nat.reduceMul, ↓reduceIte, Nat.reduceAdd, Nat.reduceSub, Nat.reduceEqDiff, Nat.reduceLT, Nat.reduceLeDiff, reduceCtorEq, Int.reduceToNat, Int.reduceLT, Int.reduceLE, Int.reduceEq, Int.reduceNeg, Int.reduceBEq, Int.reduceBNe, String.reduceEq, forall_const, ↓vmDA, vmVA, ↓vmQA, vmR, vmRA, ↓vmSA, vmSV, tyS, nuE, SubA.skip, SubA.refl, fr.2, vbRkB, l1, fi, li, li2, eq_false k1, eq_false k2, hbk, hcr, k3, k4, eq_false k6, eq_true k8, k9, k10, fw, rsC, n1, n2]
    have g1 := fr.2 1
    have sE2 : ∀ o1 o2, SubA (E ++ X) ((ν 1, o2) :: (ν 0, o1) :: (E ++ X)) := fun o1 o2 => SubA.fresh (by simp only [Vm.look, nuE, if_false]; exact g1) (s0 o1)
    refine CallA.newX (rneeds_h X w 2 w1 w2) (SubA.trans hEX.right (sE2 _ _)) ?_
    intro v2 B2 ho2 hd2
    obtain ⟨q2, cap2, rfl, hq2⟩ := own_tx ho2
    have dB2 : Dis B2 (E ++ X) := Dis.subr hd2 (sE2 _ _)
    refine ⟨B2 ++ (E ++ X), SubA.app (sE2 _ _), ?_⟩
    intro ν fr; have nuE := fr.nu
    have sv := rproved_w (B2 ++ (E ++ X)) L p cap (hL.mono (SubA.trans hEX.right dB2.right)) (needsF w.d 2) q2 cap2 (hq2.mono (SubA.left _ _)) _ (SubA.refl _)
    cases h4 : suffF L (needsF w.d 2) with
    | false =>
      rw [h4] at sv
      simp (maxDischargeDepth := 16) only [argE_nil, argE_cons, ↓vmD, vmV, vmStd, Nat.reduceMul, ↓reduceIte, Nat.reduceAdd, Nat.reduceSub, Nat.reduceEqDiff, Nat.reduceLT, Nat.reduceLeDiff, reduceCtorEq, Int.reduceToNat, Int.reduceLT, Int.reduceLE, Int.reduceEq, Int.reduceNeg, Int.reduceBEq, Int.reduceBNe, String.reduceEq, forall_const, ↓vmDA, vmVA, ↓vmQA, vmR, vmRA, ↓vmSA, vmSV, tyS, nuE, SubA.skip, SubA.refl, fr.2, vbRkB, sv]
      exact bad _ _ dB2.right (by rw [hst, h4]; rfl) (by decide)
    | true =>
      rw [h4] at sv
      simp (maxDischargeDepth := 16) only [argE_nil, argE_cons, ↓vmD, vmV, vmStd, Nat.reduceMul, ↓reduceIte, Nat.reduceAdd, Nat.reduceSub, Nat.reduceEqDiff, Nat.reduceLT, Nat.reduceLeDiff, reduceCtorEq, Int.reduceToNat, Int.reduceLT, Int.reduceLE, Int.reduceEq, Int.reduceNeg, Int.reduceBEq, Int.reduceBNe, String.reduceEq, forall_const, ↓vmDA, vmVA, ↓vmQA, vmR, vmRA, ↓vmSA, vmSV, tyS, nuE, SubA.skip, SubA.refl, fr.2, vbRkB, sv]
      refine mv_use mv dB2.right ?_
      intro E2 F2 hE2 hF2 d2
      intro ν fr; have nuE := fr.nu
      simp (maxDischargeDepth := 16) only [argE_nil, argE_cons, ↓vmD, vmV, vmStd, Nat.reduceMul, ↓reduceIte, Nat.reduceAdd, Nat.reduceSub, Nat.reduceEqDiff, Nat.reduceLT, Nat.reduceLeDiff, reduceCtorEq, Int.reduceToNat, Int.reduceLT, Int.reduceLE, Int.reduceEq, Int.reduceNeg, Int.reduceBEq, Int.reduceBNe, String.reduceEq, forall_const, ↓vmDA, vmVA, ↓vmQA, vmR, vmRA, ↓vmSA, vmSV, tyS, nuE, SubA.skip, SubA.refl, fr.2, vbRkB]
      rw [hx, if_neg (by rw [hst, h4]; simp)]
      exact ⟨rfl, E2, _, F2, hE2, hF2, d2, SubA.refl _⟩
  · rw [if_neg k8] at hst
    have k10 : ((event ≤ 4) = True ∧ (f.d.c.du < date) = False) ∨ (event ≤ 4) = False := by
      by_cases h : event ≤ 4
      · exact .inl ⟨eq_true h, eq_false (by omega)⟩
      · exact .inr (eq_false h)
    have sv := fun o => rproved_w (E ++ X) L p cap (hL.mono hEX.right) [] none 0 TxR.nil ((ν 0, o) :: (E ++ X)) (s0 o)
    simp only [List.length_nil] at sv
    rcases k10 with ⟨k10, k11⟩ | k10
    all_goals
      cases h4 : suffF L (([] : List Txt)) with
      | false =>
        rw [h4] at sv
        first
          | simp (maxDischargeDepth := 16) only [argE_nil, argE_cons, ↓vmD, vmV, vmStd, Nat.reduceMul, ↓reduceIte, Nat.reduceAdd, Nat.reduceSub, Nat.reduceEqDiff, Nat.reduceLT, Nat.reduceLeDiff, reduceCtorEq, Int.reduceToNat, Int.reduceLT, Int.reduceLE, Int.reduceEq, Int.reduceNeg, Int.reduceBEq, Int.reduceBNe, String.reduceEq, forall_const, ↓vmDA, vmVA, ↓vmQA, vmR, vmRA, ↓vmSA, vmSV, tyS, nuE, SubA.skip, SubA.refl, fr.2, vbRkB, l1, fi, li, li2, eq_false k1, eq_false k2, hbk, hcr, k3, k4, eq_false k6, eq_false k8, k10, k11, n1, n2, sv]
          | simp (maxDischargeDepth := 16) only [argE_nil, argE_cons, ↓vmD, vmV, vmStd, Nat.reduceMul, ↓reduceIte, Nat.reduceAdd, Nat.reduceSub, Nat.reduceEqDiff, Nat.reduceLT, Nat.reduceLeDiff, reduceCtorEq, Int.reduceToNat, Int.reduceLT, Int.reduceLE, Int.reduceEq, Int.reduceNeg, Int.reduceBEq, Int.reduceBNe, String.reduceEq, forall_const, ↓vmDA, vmVA, ↓vmQA, vmR, vmRA, ↓vmSA, vmSV, tyS, nuE, SubA.skip, SubA.refl, fr.2, vbRkB, l1, fi, li, li2, eq_false k1, eq_false k2, hbk, hcr, k3, k4, eq_false k6, eq_false k8, k10, n1, n2, sv]
        exact bad _ _ (s0 _) (by rw [hst, h4]; rfl) (by decide)
      | true =>
        rw [h4] at sv
        first
          | simp (maxDischargeDepth := 16) only [argE_nil, argE_cons, ↓vmD, vmV, vmStd, Nat.reduceMul, ↓reduceIte, Nat.reduceAdd, Nat.reduceSub, Nat.reduceEqDiff, Nat.reduceLT, Nat.reduceLeDiff, reduceCtorEq, Int.reduceToNat, Int.reduceLT, Int.reduceLE, Int.reduceEq, Int.reduceNeg, Int.reduceBEq, Int.reduceBNe, String.reduceEq, forall_const, ↓vmDA, vmVA, ↓vmQA, vmR, vmRA, ↓vmSA, vmSV, tyS, nuE, SubA.skip, SubA.refl, fr.2, vbRkB, l1, fi, li, li2, eq_false k1, eq_false k2, hbk, hcr, k3, k4, eq_false k6, eq_false k8, k10, k11, n1, n2, sv]
          | simp (maxDischargeDepth := 16) only [argE_nil, argE_cons, ↓vmD, vmV, vmStd, Nat.reduceMul, ↓reduceIte, Nat.reduceAdd, Nat.reduceSub, Nat.reduceEqDiff, Nat.reduceLT, Nat.reduceLeDiff, reduceCtorEq, Int.reduceToNat, Int.reduceLT, Int.reduceLE, Int.reduceEq, Int.reduceNeg, Int.reduceBEq, Int.reduceBNe, String.reduceEq, forall_const, ↓vmDA, vmVA, ↓vmQA, vmR, vmRA, ↓vmSA, vmSV, tyS, nuE, SubA.skip, SubA.refl, fr.2, vbRkB, l1, fi, li, li2, eq_false k1, eq_false k2, hbk, hcr, k3, k4, eq_false k6, eq_false k8, k10, n1, n2, sv]
        refine mv_use mv (s0 _) ?_
        intro E2 F2 hE2 hF2 d2
        intro ν fr; have nuE := fr.nu
        simp (maxDischargeDepth := 16) only [argE_nil, argE_cons, ↓vmD, vmV, vmStd, Nat.reduceMul, ↓reduceIte, Nat.reduceAdd, Nat.reduceSub, Nat.reduceEqDiff, Nat.reduceLT, Nat.reduceLeDiff, reduceCtorEq, Int.reduceToNat, Int.reduceLT, Int.reduceLE, Int.reduceEq, Int.reduceNeg, Int.reduceBEq, Int.reduceBNe, String.reduceEq, forall_const, ↓vmDA, vmVA, ↓vmQA, vmR, vmRA, ↓vmSA, vmSV, tyS, nuE, SubA.skip, SubA.refl, fr.2, vbRkB]
        rw [hx, if_neg (by rw [hst, h4]; simp)]
        exact ⟨rfl, E2, _, F2, hE2, hF2, d2, SubA.refl _⟩

set_option linter.unusedSimpArgs false
set_option linter.unusedVariables false
set_option maxHeartbeats 4000000
set_option maxRecDepth 20000
theorem next7 {st : Int} (h1 : 1 ≤ st) (h2 : st ≤ 6) : ((nextF st 7).2 = 0) = (st < 4) := by
  have : st = 1 ∨ st = 2 ∨ st = 3 ∨ st = 4 ∨ st = 5 ∨ st = 6 := by omega
  rcases this with h | h | h | h | h | h <;> subst h <;> decide
/-- What the reference's Expire leaves. -/
def RxP (X : AH) (db : Nat) (fv : Value) (rp : Option Addr) (rcap : Nat) (R : List Rs) (u : Value) (D : AH) (q : List Txt × List Fd) : Prop := ∃ B E' F', OwnL strC 1 9 u B q.1 ∧ RkP E' db fv rp rcap R F' ∧ F'.map Fo.d = q.2 ∧ Dis E' (B ++ X) ∧ Dis B X ∧ SubA (E' ++ (B ++ X)) D
theorem rexp_h (E : AH) (X : AH) (db : Nat) (fv : Value) (rp : Option Addr) (rcap : Nat) (R : List Rs) (F : List Fo) (hE : RkP E db fv rp rcap R F) (hEX : Dis E X) (hR : RsR X rp R) (hRl : R.length ≤ 32) (hF : FdsOk (F.map Fo.d)) (date : Int) : CallA Tryz.prog 10 #[.pointer (some ⟨db, 0, none⟩), .int .i64 date] (E ++ X) (fun u_ A_ => RxP X db fv rp rcap R u_ A_ (expX (R.map Rs.d) (F.map Fo.d) date)) := by
  refine callA_of_denA ⟨Tryz.prog, 10, Tryz.f10, 51, [0, 1, 4, 5, 6, 7], [34], [], _⟩ (args := [_, _]) Tryz.func10 rfl (by kernel_rfl) Tryz.ntmps10 (by simp) (by kernel_rfl) ?_
  intro ν fr; have nuE := fr.nu
  cases k1 : okDate date with
  | false =>
    have hx : expX (R.map Rs.d) (F.map Fo.d) date = ([], F.map Fo.d) := by unfold expX; rw [if_pos k1]
    rw [hx]
    simp (maxDischargeDepth := 16) only [argE_nil, argE_cons, ↓vmD, vmV, vmStd, Nat.reduceMul, ↓reduceIte, Nat.reduceAdd, Nat.reduceSub, Nat.reduceEqDiff, Nat.reduceLT, Nat.reduceLeDiff, reduceCtorEq, Int.reduceToNat, Int.reduceLT, Int.reduceLE, Int.reduceEq, Int.reduceNeg, Int.reduceBEq, Int.reduceBNe, String.reduceEq, forall_const, ↓vmDA, vmVA, ↓vmQA, vmR, vmRA, ↓vmSA, vmSV, tyS, nuE, SubA.skip, SubA.refl, fr.2, vbRkB, k1]
    exact ⟨[], E, F, OwnL.nil _ _ _, hE, rfl, hEX, Dis.nil _, SubA.refl _⟩
  | true =>
  have hx : expX (R.map Rs.d) (F.map Fo.d) date = (((F.map Fo.d).filter fun f => dueB f date).map (fun f => f.c.id), (F.map Fo.d).map (expF (R.map Rs.d) date)) := by unfold expX; rw [if_neg (by rw [k1]; simp)]
  obtain ⟨fp, fcap, e, hcap⟩ : ∃ fp fcap, fv = .slice fp F.length fcap ∧ F.length ≤ fcap := by
    obtain ⟨fp, fcap, e, hc, _⟩ := hE.out
    exact ⟨fp, fcap, e, hc⟩
  subst e
  have hl64 := hF.2.1
  rw [List.length_map] at hl64
  simp (maxDischargeDepth := 16) only [argE_nil, argE_cons, ↓vmD, vmV, vmStd, Nat.reduceMul, ↓reduceIte, Nat.reduceAdd, Nat.reduceSub, Nat.reduceEqDiff, Nat.reduceLT, Nat.reduceLeDiff, reduceCtorEq, Int.reduceToNat, Int.reduceLT, Int.reduceLE, Int.reduceEq, Int.reduceNeg, Int.reduceBEq, Int.reduceBNe, String.reduceEq, forall_const, ↓vmDA, vmVA, ↓vmQA, vmR, vmRA, ↓vmSA, vmSV, tyS, nuE, SubA.skip, SubA.refl, fr.2, vbRkB, k1]
  generalize hD0 : F.map Fo.d = D0 at *
  have hDl : D0.length = F.length := by rw [← hD0]; simp
  obtain ⟨e, m, v, B, E1, F1, he, hv, hm, ho, hE1, hF1, d1, dB, hsub⟩ : ∃ (e m : Nat) (v : Value) (B E1 : AH) (F1 : List Fo), e = 0 ∧ v = .slice none 0 0 ∧ F.length = e + m ∧ OwnL strC 1 9 v B (((D0.take e).filter fun f => dueB f date).map (fun f => f.c.id)) ∧ RkP E1 db (.slice fp F.length fcap) rp rcap R F1 ∧ F1.map Fo.d = (D0.take e).map (expF (R.map Rs.d) date) ++ D0.drop e ∧ Dis E1 (B ++ X) ∧ Dis B X ∧ SubA (E1 ++ (B ++ X)) (E ++ X) :=
    ⟨0, F.length, _, [], E, F, rfl, rfl, by omega, OwnL.nil _ _ _, hE, by rw [hD0]; simp, hEX, Dis.nil _, SubA.refl _⟩
  rw [show (6, some (Value.int .i64 0)) = (6, some (Value.int .i64 (e : Int))) by rw [he]; rfl]
  rw [show (5, some (Value.slice none 0 0)) = (5, some v) by rw [hv]]
  refine LoopA.at hsub ?_
  clear he hv hsub nuE fr hE hD0 hEX
  induction m generalizing e v B E1 F1 with
  | zero =>
    have lt : ((e : Int) < (F.length : Int)) = False := eq_false (by omega)
    rw [List.take_of_length_le (by omega)] at ho hF1
    rw [List.drop_of_length_le (by omega), List.append_nil] at hF1
    obtain ⟨fp', fcap', e', _, l1', _⟩ := hE1.out
    have l1 := SubA.left E1 (B ++ X) _ _ l1'
    refine LoopA.intro (by kernel_rfl) ?_
    intro ν fr; have nuE := fr.nu
    simp (maxDischargeDepth := 16) only [argE_nil, argE_cons, ↓vmD, vmV, vmStd, Nat.reduceMul, ↓reduceIte, Nat.reduceAdd, Nat.reduceSub, Nat.reduceEqDiff, Nat.reduceLT, Nat.reduceLeDiff, reduceCtorEq, Int.reduceToNat, Int.reduceLT, Int.reduceLE, Int.reduceEq, Int.reduceNeg, Int.reduceBEq, Int.reduceBNe, String.reduceEq, forall_const, ↓vmDA, vmVA, ↓vmQA, vmR, vmRA, ↓vmSA, vmSV, tyS, nuE, SubA.skip, SubA.refl, fr.2, vbRkB, lt, l1]
    rw [hx]
    exact ⟨B, E1, F1, ho, hE1, hF1, d1, dB, SubA.refl _⟩
  | succ m ih =>
    have lt : ((e : Int) < (F.length : Int)) = True := eq_true (by omega)
    have we : IntKind.i64.wrap ((e : Int) + 1) = ((e + 1 : Nat) : Int) := by rw [w_i64 (by omega) (by omega)]; omega
    have hlt : e < D0.length := by omega
    have hg := List.getElem?_eq_getElem hlt
    generalize D0[e] = g at hg
    have hF1l : F1.length = F.length := by have := congrArg List.length hF1; simp at this; omega
    have htl : ((D0.take e).map (expF (R.map Rs.d) date)).length = e := by simp; omega
    have hg1 : (F1.map Fo.d)[e]? = some g := by
      rw [hF1, List.getElem?_append_right (by omega), htl, Nat.sub_self, List.getElem?_drop]; simpa using hg
    have hF1s : ∀ y, (F1.map Fo.d).set e y = (D0.take e).map (expF (R.map Rs.d) date) ++ y :: D0.drop (e + 1) := fun y => by
      rw [hF1, List.set_append_right _ _ (by omega), htl, Nat.sub_self, List.drop_eq_getElem_cons hlt]; rfl
    have htk : D0.take (e + 1) = D0.take e ++ [g] := by rw [List.take_add_one, hg]; rfl
    rw [List.getElem?_map, Option.map_eq_some_iff] at hg1
    obtain ⟨f, hf, hfd⟩ := hg1
    subst hfd
    obtain ⟨ok1, ok2, ok3, ok4, ok5⟩ := hF.1 f.d (List.mem_of_getElem? hg)
    obtain ⟨fp', fcap', e', hcp, l1', hs, hsv⟩ := hE1.out
    rw [hF1l] at e'
    cases e'
    have l1 := SubA.left E1 (B ++ X) _ _ l1'
    obtain ⟨bk, off, cs, ty, fr0, hp0, hbk', hcr, hcc⟩ := hs.at hf
    subst hp0
    have hbk := SubA.left E1 (B ++ X) _ _ hbk'
    have h10 := rdCS_sub (k := 0) (n := 10) hcr (by omega)
    simp only [foC, List.drop_zero, List.take_succ_cons, List.take_zero, Nat.add_zero] at h10
    have li : ((e : Int) < 0) = False := eq_false (by omega)
    have hfl := exp_step date hg
    have hn7 := next7 ok2 ok3
    refine LoopA.intro (by kernel_rfl) ?_
    intro ν fr; have nuE := fr.nu
    have f0 := fr.2 0
    have s0 : ∀ o, SubA (E1 ++ (B ++ X)) ((ν 0, o) :: (E1 ++ (B ++ X))) := fun o => SubA.fresh f0 (SubA.refl _)
    cases hdb : dueB f.d date with
    | false =>
      have hst : expF (R.map Rs.d) date f.d = f.d := by unfold expF; rw [if_neg (by rw [hdb]; simp)]
      rw [if_neg (by rw [hdb]; simp), List.append_nil] at hfl
      have hcond : ((nextF f.d.c.st 7).2 = 0 → ¬ f.d.c.du < date) := by simpa [dueB] using hdb
      rw [hn7] at hcond
      have hF2 : F1.map Fo.d = (D0.take (e + 1)).map (expF (R.map Rs.d) date) ++ D0.drop (e + 1) := by
        rw [htk, List.map_append, List.append_assoc]
        have := hF1s f.d
        rw [map_set_id (show (F1.map Fo.d)[e]? = some f.d by rw [List.getElem?_map, hf]; rfl)] at this
        rw [this, List.map_cons, List.map_nil, hst]; rfl
      by_cases q : f.d.c.st < 4
      · simp (maxDischargeDepth := 16) only [argE_nil, argE_cons, ↓vmD, vmV, vmStd, Nat.reduceMul, ↓reduceIte, Nat.reduceAdd, Nat.reduceSub, Nat.reduceEqDiff, Nat.reduceLT, Nat.reduceLeDiff, reduceCtorEq, Int.reduceToNat, Int.reduceLT, Int.reduceLE, Int.reduceEq, Int.reduceNeg, Int.reduceBEq, Int.reduceBNe, String.reduceEq, forall_const, ↓vmDA, vmVA, ↓vmQA, vmR, vmRA, ↓vmSA, vmSV, tyS, nuE, SubA.skip, SubA.refl, fr.2, vbRkB, lt, l1, li, hbk, h10, we, eq_true q, eq_false (hcond q)]
        refine LoopA.at (s0 _) ?_
        exact LoopA.weak (ih (e + 1) v B E1 F1 (by omega) (by rw [hfl]; exact ho) hE1 hF2 d1 dB) (by simp only [subE, get_cons, Nat.reduceEqDiff, ↓reduceIte, reduceCtorEq, Nat.reduceAdd, and_self, and_true]) (SubA.refl _)
      · simp (maxDischargeDepth := 16) only [argE_nil, argE_cons, ↓vmD, vmV, vmStd, Nat.reduceMul, ↓reduceIte, Nat.reduceAdd, Nat.reduceSub, Nat.reduceEqDiff, Nat.reduceLT, Nat.reduceLeDiff, reduceCtorEq, Int.reduceToNat, Int.reduceLT, Int.reduceLE, Int.reduceEq, Int.reduceNeg, Int.reduceBEq, Int.reduceBNe, String.reduceEq, forall_const, ↓vmDA, vmVA, ↓vmQA, vmR, vmRA, ↓vmSA, vmSV, tyS, nuE, SubA.skip, SubA.refl, fr.2, vbRkB, lt, l1, li, hbk, h10, we, eq_false q]
        refine LoopA.at (s0 _) ?_
        exact LoopA.weak (ih (e + 1) v B E1 F1 (by omega) (by rw [hfl]; exact ho) hE1 hF2 d1 dB) (by simp only [subE, get_cons, Nat.reduceEqDiff, ↓reduceIte, reduceCtorEq, Nat.reduceAdd, and_self, and_true]) (SubA.refl _)
    | true =>
      have hst : expF (R.map Rs.d) date f.d = enterX (R.map Rs.d) f.d (nextF f.d.c.st 7).1 date := by unfold expF; rw [if_pos hdb]
      rw [if_pos hdb] at hfl
      have hcond : (nextF f.d.c.st 7).2 = 0 ∧ f.d.c.du < date := by simpa [dueB] using hdb
      have hq : f.d.c.st < 4 := by rw [← hn7]; exact hcond.1
      obtain ⟨vp, vcap, rfl, hvc, hvs⟩ := ho.read strC_len
      have hvl : (((D0.take e).filter fun f => dueB f date).map (fun f => f.c.id)).length ≤ e := by
        rw [List.length_map]; exact Nat.le_trans (List.length_filter_le _ _) (by simp; omega)
      simp (maxDischargeDepth := 16) only [argE_nil, argE_cons, ↓vmD, vmV, vmStd, Nat.reduceMul, ↓reduceIte, Nat.reduceAdd, Nat.reduceSub, Nat.reduceEqDiff, Nat.reduceLT, Nat.reduceLeDiff, reduceCtorEq, Int.reduceToNat, Int.reduceLT, Int.reduceLE, Int.reduceEq, Int.reduceNeg, Int.reduceBEq, Int.reduceBNe, String.reduceEq, forall_const, ↓vmDA, vmVA, ↓vmQA, vmR, vmRA, ↓vmSA, vmSV, tyS, nuE, SubA.skip, SubA.refl, fr.2, vbRkB, lt, l1, li, hbk, h10, we, eq_true hq, eq_true hcond.2]
      have dst_ : True := (by simp [nuE]); generalize ν 0 = n0 at dst_  f0 ⊢
      clear nuE fr s0
      have fE : Vm.look E1 n0 = none := (SubA.left E1 (B ++ X)).none f0
      have fBX : Vm.look (B ++ X) n0 = none := d1.right.none f0
      refine mv_use (rmove_h E1 ((n0, (Obj.cells #[.string (bs f.d.c.id), .string (bs f.d.c.rcd), .string (bs f.d.c.rea), .string (bs f.d.c.iss), .string (bs f.d.c.acq), .int .i64 f.d.c.amt, .string (bs f.d.c.cur), .int .i64 f.d.c.st, .int .i64 f.d.c.op, .int .i64 f.d.c.du] 47)) :: (B ++ X)) db _ rp rcap R F1 hE1 (dis_cons fE d1) (hR.mono (SubA.skip (dB.right.none fBX) dB.right)) hRl e f hf (by omega) 7 date hcond.1) (cons_back fE) ?_
      intro E2 F2 hE2 hF2 d2
      have hF2' : F2.map Fo.d = (D0.take (e + 1)).map (expF (R.map Rs.d) date) ++ D0.drop (e + 1) := by
        rw [hF2, hF1s, htk, List.map_append, List.append_assoc, ← hst]; rfl
      have ln : Vm.look (E2 ++ ((n0, (Obj.cells #[.string (bs f.d.c.id), .string (bs f.d.c.rcd), .string (bs f.d.c.rea), .string (bs f.d.c.iss), .string (bs f.d.c.acq), .int .i64 f.d.c.amt, .string (bs f.d.c.cur), .int .i64 f.d.c.st, .int .i64 f.d.c.op, .int .i64 f.d.c.du] 47)) :: (B ++ X))) n0 = some (Obj.cells #[.string (bs f.d.c.id), .string (bs f.d.c.rcd), .string (bs f.d.c.rea), .string (bs f.d.c.iss), .string (bs f.d.c.acq), .int .i64 f.d.c.amt, .string (bs f.d.c.cur), .int .i64 f.d.c.st, .int .i64 f.d.c.op, .int .i64 f.d.c.du] 47) := d2.right _ _ (by simp [Vm.look])
      intro ν fr; have nuE := fr.nu
      simp (maxDischargeDepth := 16) only [argE_nil, argE_cons, ↓vmD, vmV, vmStd, Nat.reduceMul, ↓reduceIte, Nat.reduceAdd, Nat.reduceSub, Nat.reduceEqDiff, Nat.reduceLT, Nat.reduceLeDiff, reduceCtorEq, Int.reduceToNat, Int.reduceLT, Int.reduceLE, Int.reduceEq, Int.reduceNeg, Int.reduceBEq, Int.reduceBNe, String.reduceEq, forall_const, ↓vmDA, vmVA, ↓vmQA, vmR, vmRA, ↓vmSA, vmSV, tyS, nuE, SubA.skip, SubA.refl, fr.2, vbRkB, ln, sc_s1]
      have f1 := fr.2 0
      have sBX : SubA (B ++ X) ((n0, (Obj.cells #[.string (bs f.d.c.id), .string (bs f.d.c.rcd), .string (bs f.d.c.rea), .string (bs f.d.c.iss), .string (bs f.d.c.acq), .int .i64 f.d.c.amt, .string (bs f.d.c.cur), .int .i64 f.d.c.st, .int .i64 f.d.c.op, .int .i64 f.d.c.du] 47)) :: (B ++ X)) := SubA.skip fBX (SubA.refl _)
      have sB : SubA B (E2 ++ ((n0, (Obj.cells #[.string (bs f.d.c.id), .string (bs f.d.c.rcd), .string (bs f.d.c.rea), .string (bs f.d.c.iss), .string (bs f.d.c.acq), .int .i64 f.d.c.amt, .string (bs f.d.c.cur), .int .i64 f.d.c.st, .int .i64 f.d.c.op, .int .i64 f.d.c.du] 47)) :: (B ++ X))) := SubA.trans (SubA.trans (SubA.left B X) sBX) d2.right
      have sX : SubA X (E2 ++ ((n0, (Obj.cells #[.string (bs f.d.c.id), .string (bs f.d.c.rcd), .string (bs f.d.c.rea), .string (bs f.d.c.iss), .string (bs f.d.c.acq), .int .i64 f.d.c.amt, .string (bs f.d.c.cur), .int .i64 f.d.c.st, .int .i64 f.d.c.op, .int .i64 f.d.c.du] 47)) :: (B ++ X))) := SubA.trans (SubA.trans dB.right sBX) d2.right
      have dEB : Dis B E2 := (Dis.subr d2 (SubA.trans (SubA.left B X) sBX)).symm
      refine RunA.use ?_
      refine append_src (m := 1) (news := strC f.d.c.id) (B := B) slc41 zro9 rfl (by decide) ho (SubA.fresh f1 sB) (.inr ⟨ν 0, 0, rfl, by simp (maxDischargeDepth := 16) only [argE_nil, argE_cons, ↓vmD, vmV, vmStd, Nat.reduceMul, ↓reduceIte, Nat.reduceAdd, Nat.reduceSub, Nat.reduceEqDiff, Nat.reduceLT, Nat.reduceLeDiff, reduceCtorEq, Int.reduceToNat, Int.reduceLT, Int.reduceLE, Int.reduceEq, Int.reduceNeg, Int.reduceBEq, Int.reduceBNe, String.reduceEq, forall_const, ↓vmDA, vmVA, ↓vmQA, vmR, vmRA, ↓vmSA, vmSV, tyS, nuE, SubA.skip, SubA.refl, fr.2, vbRkB, strC]⟩) (str_one _) (by simp only [maxLen]; omega) (by omega) ?_
      intro v' B' ho' hb'
      have dE' : Dis B' E2 := ap_dis hb' dEB (SubA.fresh f1 (SubA.left E2 _))
      have dX' : Dis B' X := ap_dis hb' dB (SubA.fresh f1 sX)
      refine ⟨E2 ++ (B' ++ X), SubA.both (Dis.sub dE' (SubA.fresh f1 (SubA.left E2 _))) (SubA.both (SubA.left B' _) (Dis.sub dX' (SubA.fresh f1 sX))), ?_⟩
      intro ν3 fr3
      have fr := fr3
      have nuE := fr.nu
      simp (maxDischargeDepth := 16) only [argE_nil, argE_cons, ↓vmD, vmV, vmStd, Nat.reduceMul, ↓reduceIte, Nat.reduceAdd, Nat.reduceSub, Nat.reduceEqDiff, Nat.reduceLT, Nat.reduceLeDiff, reduceCtorEq, Int.reduceToNat, Int.reduceLT, Int.reduceLE, Int.reduceEq, Int.reduceNeg, Int.reduceBEq, Int.reduceBNe, String.reduceEq, forall_const, ↓vmDA, vmVA, ↓vmQA, vmR, vmRA, ↓vmSA, vmSV, tyS, nuE, SubA.skip, SubA.refl, fr.2, vbRkB, we]
      have ho2 : OwnL strC 1 9 v' B' (((D0.take (e + 1)).filter fun f => dueB f date).map (fun f => f.c.id)) := by
        rw [hfl, List.map_append]
        unfold OwnL
        rw [List.length_append, List.flatMap_append]
        simpa only [List.map_cons, List.map_nil, List.length_cons, List.length_nil, List.flatMap_cons, List.flatMap_nil, List.append_nil, Nat.zero_add] using ho'
      have d3 : Dis E2 (B' ++ X) := dE'.symm.appr (Dis.subr d2 (SubA.trans dB.right sBX))
      exact LoopA.weak (ih (e + 1) v' B' E2 F2 (by omega) ho2 hE2 hF2' d3 dX') (by simp only [subE, get_cons, Nat.reduceEqDiff, ↓reduceIte, reduceCtorEq, Nat.reduceAdd, and_self, and_true]) (SubA.refl _)

set_option linter.unusedSimpArgs false
set_option linter.unusedVariables false
set_option maxHeartbeats 4000000
set_option maxRecDepth 20000
theorem sc_rfo (a b c d e g : ByteArray) (n i j k l : Int) (p : Option Addr) (m q : Nat) : sliceCells Tryz.prog 69 1 [(0, .agg #[.string a, .string b, .string c, .string d, .string e, .int .i64 n, .string g, .int .i64 i, .int .i64 j, .int .i64 k, .slice p m q, .int .i64 l])] = some (78, #[.string a, .string b, .string c, .string d, .string e, .int .i64 n, .string g, .int .i64 i, .int .i64 j, .int .i64 k, .slice p m q, .int .i64 l]) := by kernel_rfl
theorem ropen_h (E : AH) (X : AH) (db : Nat) (fv : Value) (rp : Option Addr) (rcap : Nat) (R : List Rs) (F : List Fo) (hE : RkP E db fv rp rcap R F) (hEX : Dis E X) (hR : RsR X rp R) (hb : BigR R) (hRl : R.length ≤ 32) (hF : FdsOk (F.map Fo.d)) (id : Txt) (r : Rd) (code : Txt) (amount date : Int) (L : List Itm) (p : Option Addr) (cap : Nat) (hL : StR itC 3 X p L) (z1 : (bs r.id).size ≤ 9223372036854775807) (z2 : (bs r.au).size ≤ 9223372036854775807) (z3 : (bs r.me).size ≤ 9223372036854775807) : CallA Tryz.prog 11 #[.pointer (some ⟨db, 0, none⟩), .string (bs id), .agg #[.int .i64 r.kd, .string (bs r.id), .string (bs r.au), .string (bs r.aq), .string (bs r.is), .string (bs r.me), .string (bs r.ca), .int .i64 r.am, .string (bs r.cu), .int .i64 r.da, .int .i64 r.ct, .bool r.fi], .string (bs code), .int .i64 amount, .int .i64 date, .slice p L.length cap] (E ++ X) (fun u_ A_ => RkQ X db rp rcap R u_ A_ (openX (R.map Rs.d) (F.map Fo.d) id r code amount date L)) := by
  refine callA_of_denA ⟨Tryz.prog, 11, Tryz.f11, 133, [0, 1, 2, 3, 4, 5, 6, 9, 14, 15, 16, 17, 18, 19, 20], [41], [(19, .q false), (28, .p [(0, 0), (1, 0), (2, 0), (3, 0), (4, 0), (5, 0), (6, 0), (7, 0), (8, 0), (9, 0), (10, 0), (11, 0), (12, 0), (13, 0), (14, 0), (15, 0), (16, 0), (17, 0), (18, 1), (19, 2)])], _⟩ (args := [_, _, _, _, _, _, _]) Tryz.func11 rfl (by kernel_rfl) Tryz.ntmps11 (by simp) (by kernel_rfl) ?_
  intro ν fr; have nuE := fr.nu
  have hlen := hF.2.1
  rw [List.length_map] at hlen
  have f0 := fr.2 0
  have s0 : ∀ o, SubA (E ++ X) ((ν 0, o) :: (E ++ X)) := fun o => SubA.fresh f0 (SubA.refl _)
  have g1 : ∀ o, Vm.look ((ν 0, o) :: (E ++ X)) (ν 1) = none := fun o => by simp only [Vm.look, nuE, if_false]; exact fr.2 1
  have s1 : ∀ o1 o2, SubA (E ++ X) ((ν 1, o2) :: (ν 0, o1) :: (E ++ X)) := fun o1 o2 => SubA.fresh (g1 _) (s0 o1)
  have fi := fun o => rfind46_w E db fv rp rcap R F hE hlen id ((ν 0, o) :: (E ++ X)) (SubA.trans (SubA.left E X) (s0 o))
  have dv := fun o1 o2 => rdisp_w E db fv rp rcap R F hE hF r.id ((ν 1, o2) :: (ν 0, o1) :: (E ++ X)) (SubA.trans (SubA.left E X) (s1 o1 o2))
  have fw := fun o => rfind_w X R rp rcap code hR (by omega) ((ν 0, o) :: (E ++ X)) (SubA.trans hEX.right (s0 o))
  obtain ⟨w1, w2, w3⟩ := findS_in (c := code) hR hb
  have wS : (findS code R).isSome = (findR code (R.map Rs.d)).isSome := by rw [← findS_d]; cases findS code R <;> rfl
  rw [wS] at fw
  have hE0 := hE
  obtain ⟨fp, fcap, rfl, hc, l1', hs, hsv⟩ := hE.out
  have l1 := SubA.left E X _ _ l1'
  obtain ⟨n1, n2⟩ := look_ne f0 l1
  obtain ⟨n3, n4⟩ := look_ne (g1 (Obj.cells #[] 0)) (show Vm.look ((ν 0, Obj.cells #[] 0) :: (E ++ X)) db = _ by simp only [Vm.look, n1, if_false]; exact l1)
  have rc : (chkRG r.kd (bs r.id) (bs r.au) (bs r.aq) (bs r.is) (bs r.me) (bs r.ca) r.am (bs r.cu) r.da r.ct) = recE r := rfl
  have bad : ∀ A' k, SubA (E ++ X) A' → openE (R.map Rs.d) (F.map Fo.d) id r code amount date L = k → k ≠ 0 → RkQ X db rp rcap R (.int .i64 k) A' (openX (R.map Rs.d) (F.map Fo.d) id r code amount date L) := fun A' k hA' hk h0 => by
    have hx : openX (R.map Rs.d) (F.map Fo.d) id r code amount date L = (k, F.map Fo.d) := by unfold openX; rw [if_pos (by rw [hk]; exact h0), hk]
    rw [hx]
    exact ⟨rfl, E, _, F, hE0, rfl, hEX, hA'⟩
  cases e1 : idF (bs id) with
  | false =>
    simp (maxDischargeDepth := 16) only [argE_nil, argE_cons, ↓vmD, vmV, vmStd, Nat.reduceMul, ↓reduceIte, Nat.reduceAdd, Nat.reduceSub, Nat.reduceEqDiff, Nat.reduceLT, Nat.reduceLeDiff, reduceCtorEq, Int.reduceToNat, Int.reduceLT, Int.reduceLE, Int.reduceEq, Int.reduceNeg, Int.reduceBEq, Int.reduceBNe, String.reduceEq, forall_const, ↓vmDA, vmVA, ↓vmQA, vmR, vmRA, ↓vmSA, vmSV, tyS, nuE, SubA.skip, SubA.refl, fr.2, vbRkB, e1]
    exact bad _ _ (s0 _) (if_pos e1) (by decide)
  | true =>
  cases e2 : posF id (F.map Fo.d) with
  | some i =>
    simp only [e2, posV] at fi
    have li : ((0 : Int) ≤ (i : Int)) = True := eq_true (by omega)
    have li2 : ((i : Int) < 0) = False := eq_false (by omega)
    simp (maxDischargeDepth := 16) only [argE_nil, argE_cons, ↓vmD, vmV, vmStd, Nat.reduceMul, ↓reduceIte, Nat.reduceAdd, Nat.reduceSub, Nat.reduceEqDiff, Nat.reduceLT, Nat.reduceLeDiff, reduceCtorEq, Int.reduceToNat, Int.reduceLT, Int.reduceLE, Int.reduceEq, Int.reduceNeg, Int.reduceBEq, Int.reduceBNe, String.reduceEq, forall_const, ↓vmDA, vmVA, ↓vmQA, vmR, vmRA, ↓vmSA, vmSV, tyS, nuE, SubA.skip, SubA.refl, fr.2, vbRkB, e1, fi, li, li2]
    exact bad _ _ (s0 _) (by unfold openE; rw [if_neg (by simp [e1]), if_pos (by rw [e2]; rfl)]) (by decide)
  | none =>
  simp only [e2, posV] at fi
  by_cases e3 : 64 ≤ F.length
  · have e3' : ((64 : Int) ≤ (F.length : Int)) = True := eq_true (by omega)
    simp (maxDischargeDepth := 16) only [argE_nil, argE_cons, ↓vmD, vmV, vmStd, Nat.reduceMul, ↓reduceIte, Nat.reduceAdd, Nat.reduceSub, Nat.reduceEqDiff, Nat.reduceLT, Nat.reduceLeDiff, reduceCtorEq, Int.reduceToNat, Int.reduceLT, Int.reduceLE, Int.reduceEq, Int.reduceNeg, Int.reduceBEq, Int.reduceBNe, String.reduceEq, forall_const, ↓vmDA, vmVA, ↓vmQA, vmR, vmRA, ↓vmSA, vmSV, tyS, nuE, SubA.skip, SubA.refl, fr.2, vbRkB, e1, fi, l1, n1, n2, e3']
    exact bad _ _ (s0 _) (by unfold openE; rw [if_neg (by simp [e1]), if_neg (by rw [e2]; simp), if_pos (by simpa using e3)]) (by decide)
  have e3' : ((64 : Int) ≤ (F.length : Int)) = False := eq_false (by omega)
  have hx : openE (R.map Rs.d) (F.map Fo.d) id r code amount date L = checkX (R.map Rs.d) (F.map Fo.d) r code amount date L := by unfold openE; rw [if_neg (by simp [e1]), if_neg (by rw [e2]; simp), if_neg (by simpa using e3)]
  by_cases h1 : recE r = 0
  rotate_left
  · simp (maxDischargeDepth := 16) only [argE_nil, argE_cons, ↓vmD, vmV, vmStd, Nat.reduceMul, ↓reduceIte, Nat.reduceAdd, Nat.reduceSub, Nat.reduceEqDiff, Nat.reduceLT, Nat.reduceLeDiff, reduceCtorEq, Int.reduceToNat, Int.reduceLT, Int.reduceLE, Int.reduceEq, Int.reduceNeg, Int.reduceBEq, Int.reduceBNe, String.reduceEq, forall_const, ↓vmDA, vmVA, ↓vmQA, vmR, vmRA, ↓vmSA, vmSV, tyS, nuE, SubA.skip, SubA.refl, fr.2, vbRkB, e1, fi, l1, n1, n2, e3', z1, z2, z3, rc, h1]
    exact bad _ _ (s0 _) (by rw [hx]; exact if_pos h1) h1
  by_cases h2 : r.kd = 1
  rotate_left
  · simp (maxDischargeDepth := 16) only [argE_nil, argE_cons, ↓vmD, vmV, vmStd, Nat.reduceMul, ↓reduceIte, Nat.reduceAdd, Nat.reduceSub, Nat.reduceEqDiff, Nat.reduceLT, Nat.reduceLeDiff, reduceCtorEq, Int.reduceToNat, Int.reduceLT, Int.reduceLE, Int.reduceEq, Int.reduceNeg, Int.reduceBEq, Int.reduceBNe, String.reduceEq, forall_const, ↓vmDA, vmVA, ↓vmQA, vmR, vmRA, ↓vmSA, vmSV, tyS, nuE, SubA.skip, SubA.refl, fr.2, vbRkB, e1, fi, l1, n1, n2, e3', z1, z2, z3, rc, h1, eq_false h2]
    exact bad _ _ (s0 _) (by rw [hx]; unfold checkX; rw [if_neg (by simpa using h1), if_pos h2]) (by decide)
  have h2' := eq_true h2
  have hx0 : openE (R.map Rs.d) (F.map Fo.d) id r code amount date L = if (findR code (R.map Rs.d)).isSome = false then 6
  else if amount < 1 ∨ r.am < amount then 4 else if r.am < amount + dspF r.id (F.map Fo.d) then 26
  else if date < 0 ∨ 99999 < date ∨ date < r.da then 14
  else if (dueF ((findS code R).getD noRs).d 0 r.da).2 = 0 ∧ (dueF ((findS code R).getD noRs).d 0 r.da).1 < date then 24
  else if suffF L (needsF ((findS code R).getD noRs).d 1) = false then 25 else 0 := by
    rw [hx]
    unfold checkX; rw [if_neg (by simpa using h1), if_neg (by simpa using h2), w3]
  generalize hy : (findS code R).getD noRs = w at fw w1 w2 w3 hx0
  cases h3 : (findR code (R.map Rs.d)).isSome with
  | false =>
    rw [if_pos h3] at hx0
    simp (maxDischargeDepth := 16) only [argE_nil, argE_cons, ↓vmD, vmV, vmStd, Nat.reduceMul, ↓reduceIte, Nat.reduceAdd, Nat.reduceSub, Nat.reduceEqDiff, Nat.reduceLT, Nat.reduceLeDiff, reduceCtorEq, Int.reduceToNat, Int.reduceLT, Int.reduceLE, Int.reduceEq, Int.reduceNeg, Int.reduceBEq, Int.reduceBNe, String.reduceEq, forall_const, ↓vmDA, vmVA, ↓vmQA, vmR, vmRA, ↓vmSA, vmSV, tyS, nuE, SubA.skip, SubA.refl, fr.2, vbRkB, e1, fi, l1, n1, n2, e3', z1, z2, z3, rc, h1, h2', fw, rsC, h3]
    exact bad _ _ (s1 _ _) hx0 (by decide)
  | true =>
  rw [if_neg (by simp [h3])] at hx0
  by_cases k1 : amount < 1
  · rw [if_pos (.inl k1)] at hx0
    simp (maxDischargeDepth := 16) only [argE_nil, argE_cons, ↓vmD, vmV, vmStd, Nat.reduceMul, ↓reduceIte, Nat.reduceAdd, Nat.reduceSub, Nat.reduceEqDiff, Nat.reduceLT, Nat.reduceLeDiff, reduceCtorEq, Int.reduceToNat, Int.reduceLT, Int.reduceLE, Int.reduceEq, Int.reduceNeg, Int.reduceBEq, Int.reduceBNe, String.reduceEq, forall_const, ↓vmDA, vmVA, ↓vmQA, vmR, vmRA, ↓vmSA, vmSV, tyS, nuE, SubA.skip, SubA.refl, fr.2, vbRkB, e1, fi, l1, n1, n2, e3', z1, z2, z3, rc, h1, h2', fw, rsC, h3, eq_true k1]
    exact bad _ _ (s1 _ _) hx0 (by decide)
  by_cases k2 : r.am < amount
  · rw [if_pos (.inr k2)] at hx0
    simp (maxDischargeDepth := 16) only [argE_nil, argE_cons, ↓vmD, vmV, vmStd, Nat.reduceMul, ↓reduceIte, Nat.reduceAdd, Nat.reduceSub, Nat.reduceEqDiff, Nat.reduceLT, Nat.reduceLeDiff, reduceCtorEq, Int.reduceToNat, Int.reduceLT, Int.reduceLE, Int.reduceEq, Int.reduceNeg, Int.reduceBEq, Int.reduceBNe, String.reduceEq, forall_const, ↓vmDA, vmVA, ↓vmQA, vmR, vmRA, ↓vmSA, vmSV, tyS, nuE, SubA.skip, SubA.refl, fr.2, vbRkB, e1, fi, l1, n1, n2, e3', z1, z2, z3, rc, h1, h2', fw, rsC, h3, eq_false k1, eq_true k2]
    exact bad _ _ (s1 _ _) hx0 (by decide)
  rw [if_neg (by omega)] at hx0
  obtain ⟨m1, m2, m3, m4⟩ := recE_out h1
  have b1 := dspF_le r.id _ hF.1
  have wr : IntKind.i64.wrap (amount + dspF r.id (F.map Fo.d)) = amount + dspF r.id (F.map Fo.d) := w_i64 (by simp at b1; omega) (by simp at b1; omega)
  by_cases k3 : r.am < amount + dspF r.id (F.map Fo.d)
  · rw [if_pos k3] at hx0
    simp (maxDischargeDepth := 16) only [argE_nil, argE_cons, ↓vmD, vmV, vmStd, Nat.reduceMul, ↓reduceIte, Nat.reduceAdd, Nat.reduceSub, Nat.reduceEqDiff, Nat.reduceLT, Nat.reduceLeDiff, reduceCtorEq, Int.reduceToNat, Int.reduceLT, Int.reduceLE, Int.reduceEq, Int.reduceNeg, Int.reduceBEq, Int.reduceBNe, String.reduceEq, forall_const, ↓vmDA, vmVA, ↓vmQA, vmR, vmRA, ↓vmSA, vmSV, tyS, nuE, SubA.skip, SubA.refl, fr.2, vbRkB, e1, fi, l1, n1, n2, e3', z1, z2, z3, rc, h1, h2', fw, rsC, h3, eq_false k1, eq_false k2, dv, wr, eq_true k3]
    exact bad _ _ (s1 _ _) hx0 (by decide)
  rw [if_neg k3] at hx0
  cases k4 : okDate date with
  | false =>
    have k4' := k4
    rw [okDate_iff] at k4'
    rw [if_pos (by omega)] at hx0
    simp (maxDischargeDepth := 16) only [argE_nil, argE_cons, ↓vmD, vmV, vmStd, Nat.reduceMul, ↓reduceIte, Nat.reduceAdd, Nat.reduceSub, Nat.reduceEqDiff, Nat.reduceLT, Nat.reduceLeDiff, reduceCtorEq, Int.reduceToNat, Int.reduceLT, Int.reduceLE, Int.reduceEq, Int.reduceNeg, Int.reduceBEq, Int.reduceBNe, String.reduceEq, forall_const, ↓vmDA, vmVA, ↓vmQA, vmR, vmRA, ↓vmSA, vmSV, tyS, nuE, SubA.skip, SubA.refl, fr.2, vbRkB, e1, fi, l1, n1, n2, e3', z1, z2, z3, rc, h1, h2', fw, rsC, h3, eq_false k1, eq_false k2, dv, wr, eq_false k3, k4]
    exact bad _ _ (s1 _ _) hx0 (by decide)
  | true =>
  have k4' : ¬ (date < 0 ∨ 99999 < date) := by rw [← okDate_iff, k4]; simp
  by_cases k6 : date < r.da
  · rw [if_pos (.inr (.inr k6))] at hx0
    simp (maxDischargeDepth := 16) only [argE_nil, argE_cons, ↓vmD, vmV, vmStd, Nat.reduceMul, ↓reduceIte, Nat.reduceAdd, Nat.reduceSub, Nat.reduceEqDiff, Nat.reduceLT, Nat.reduceLeDiff, reduceCtorEq, Int.reduceToNat, Int.reduceLT, Int.reduceLE, Int.reduceEq, Int.reduceNeg, Int.reduceBEq, Int.reduceBNe, String.reduceEq, forall_const, ↓vmDA, vmVA, ↓vmQA, vmR, vmRA, ↓vmSA, vmSV, tyS, nuE, SubA.skip, SubA.refl, fr.2, vbRkB, e1, fi, l1, n1, n2, e3', z1, z2, z3, rc, h1, h2', fw, rsC, h3, eq_false k1, eq_false k2, dv, wr, eq_false k3, k4, eq_true k6]
    exact bad _ _ (s1 _ _) hx0 (by decide)
  rw [if_neg (by omega)] at hx0
  by_cases k7 : (dueF w.d 0 r.da).2 = 0 ∧ (dueF w.d 0 r.da).1 < date
  · rw [if_pos k7] at hx0
    simp (maxDischargeDepth := 16) only [argE_nil, argE_cons, ↓vmD, vmV, vmStd, Nat.reduceMul, ↓reduceIte, Nat.reduceAdd, Nat.reduceSub, Nat.reduceEqDiff, Nat.reduceLT, Nat.reduceLeDiff, reduceCtorEq, Int.reduceToNat, Int.reduceLT, Int.reduceLE, Int.reduceEq, Int.reduceNeg, Int.reduceBEq, Int.reduceBNe, String.reduceEq, forall_const, ↓vmDA, vmVA, ↓vmQA, vmR, vmRA, ↓vmSA, vmSV, tyS, nuE, SubA.skip, SubA.refl, fr.2, vbRkB, e1, fi, l1, n1, n2, e3', z1, z2, z3, rc, h1, h2', fw, rsC, h3, eq_false k1, eq_false k2, dv, wr, eq_false k3, k4, eq_false k6, eq_true k7.1, eq_true k7.2]
    exact bad _ _ (s1 _ _) hx0 (by decide)
  rw [if_neg k7] at hx0
  simp (maxDischargeDepth := 16) only [argE_nil, argE_cons, ↓vmD, vmV, vmStd, Nat.reduceMul, ↓reduceIte, Nat.reduceAdd, Nat.reduceSub, Nat.reduceEqDiff, Nat.reduceLT, Nat.reduceLeDiff, reduceCtorEq, Int.reduceToNat, Int.reduceLT, Int.reduceLE, Int.reduceEq, Int.reduceNeg, Int.reduceBEq, Int.reduceBNe, String.reduceEq, forall_const, ↓vmDA, vmVA, ↓vmQA, vmR, vmRA, ↓vmSA, vmSV, tyS, nuE, SubA.skip, SubA.refl, fr.2, vbRkB, e1, fi, l1, n1, n2, e3', z1, z2, z3, rc, h1, h2', fw, rsC, h3, eq_false k1, eq_false k2, dv, wr, eq_false k3, k4, eq_false k6]
  rw [if_neg k7]
  have q1 : Vm.look (cat [E, X]) (ν 0) = none := f0
  have q2 : Vm.look (cat [[(ν 0, (Obj.cells #[.int .i64 r.kd, .string (bs r.id), .string (bs r.au), .string (bs r.aq), .string (bs r.is), .string (bs r.me), .string (bs r.ca), .int .i64 r.am, .string (bs r.cu), .int .i64 r.da, .int .i64 r.ct, .bool r.fi] 36))], E, X]) (ν 1) = none := g1 _
  have spEX : Sep [E, X] := Sep.cons hEX (Sep.one X)
  have dst_ : ((ν 0 = ν 1) = False) ∧ ((ν 1 = ν 0) = False) := (by simp [nuE]); generalize ν 0 = b0 at dst_  q1 q2 ⊢; generalize ν 1 = b1 at dst_  q1 q2 ⊢
  obtain ⟨d01, d10⟩ := dst_
  clear nuE fr fi dv fw s0 s1 f0 g1 n1 n2 n3 n4
  have sp0 : Sep [[(b1, (Obj.cells #[.string (bs w.d.code), .int .i64 w.d.d1, .int .i64 w.d.d2, .int .i64 w.d.d3, .int .i64 w.d.d4, .slice w.p1 w.d.cl.length w.c1, .slice w.p2 w.d.df.length w.c2] 58))], [(b0, (Obj.cells #[.int .i64 r.kd, .string (bs r.id), .string (bs r.au), .string (bs r.aq), .string (bs r.is), .string (bs r.me), .string (bs r.ca), .int .i64 r.am, .string (bs r.cu), .int .i64 r.da, .int .i64 r.ct, .bool r.fi] 36))], E, X] := Sep.fresh q2 _ (Sep.fresh q1 _ spEX)
  refine CallA.newX (rneeds_h X w 1 w1 w2) (Sep.subs sp0 [3] rfl) ?_
  intro v2 B2 ho2 hd2
  obtain ⟨qp2, cap2, rfl, hq2⟩ := own_tx ho2
  have sp1 : Sep [B2, [(b1, (Obj.cells #[.string (bs w.d.code), .int .i64 w.d.d1, .int .i64 w.d.d2, .int .i64 w.d.d3, .int .i64 w.d.d4, .slice w.p1 w.d.cl.length w.c1, .slice w.p2 w.d.df.length w.c2] 58))], [(b0, (Obj.cells #[.int .i64 r.kd, .string (bs r.id), .string (bs r.au), .string (bs r.aq), .string (bs r.is), .string (bs r.me), .string (bs r.ca), .int .i64 r.am, .string (bs r.cu), .int .i64 r.da, .int .i64 r.ct, .bool r.fi] 36))], E, X] := Sep.cons hd2 sp0
  refine ⟨cat [[(b1, (Obj.cells #[.string (bs w.d.code), .int .i64 w.d.d1, .int .i64 w.d.d2, .int .i64 w.d.d3, .int .i64 w.d.d4, .slice w.p1 w.d.cl.length w.c1, .slice w.p2 w.d.df.length w.c2] 58))], [(b0, (Obj.cells #[.int .i64 r.kd, .string (bs r.id), .string (bs r.au), .string (bs r.aq), .string (bs r.is), .string (bs r.me), .string (bs r.ca), .int .i64 r.am, .string (bs r.cu), .int .i64 r.da, .int .i64 r.ct, .bool r.fi] 36))], B2, E, X], Sep.subs sp1 [1, 2, 0, 3, 4] rfl, ?_⟩
  have sp2 := Sep.pick sp1 [1, 2, 0, 3, 4] rfl rfl
  have sEX : SubA (E ++ X) (cat [[(b1, (Obj.cells #[.string (bs w.d.code), .int .i64 w.d.d1, .int .i64 w.d.d2, .int .i64 w.d.d3, .int .i64 w.d.d4, .slice w.p1 w.d.cl.length w.c1, .slice w.p2 w.d.df.length w.c2] 58))], [(b0, (Obj.cells #[.int .i64 r.kd, .string (bs r.id), .string (bs r.au), .string (bs r.aq), .string (bs r.is), .string (bs r.me), .string (bs r.ca), .int .i64 r.am, .string (bs r.cu), .int .i64 r.da, .int .i64 r.ct, .bool r.fi] 36))], B2, E, X]) := Sep.subs sp2 [3, 4] rfl
  have sv := rproved_w _ L p cap (hL.mono (Sep.subs sp2 [4] rfl)) (needsF w.d 1) qp2 cap2 (hq2.mono (Sep.subs sp2 [2] rfl)) (cat [[(b1, (Obj.cells #[.string (bs w.d.code), .int .i64 w.d.d1, .int .i64 w.d.d2, .int .i64 w.d.d3, .int .i64 w.d.d4, .slice w.p1 w.d.cl.length w.c1, .slice w.p2 w.d.df.length w.c2] 58))], [(b0, (Obj.cells #[.int .i64 r.kd, .string (bs r.id), .string (bs r.au), .string (bs r.aq), .string (bs r.is), .string (bs r.me), .string (bs r.ca), .int .i64 r.am, .string (bs r.cu), .int .i64 r.da, .int .i64 r.ct, .bool r.fi] 36))], B2, E, X]) (SubA.refl _)
  simp only [cat, List.cons_append, List.nil_append] at sv sEX ⊢
  intro ν fr
  have nuE := And.intro d01 (And.intro d10 (And.intro (fr.mem (b := b0) (by simp)) (And.intro (fr.mem (b := b1) (by simp)) fr.nu)))
  cases h4 : suffF L (needsF w.d 1) with
  | false =>
    rw [h4] at sv
    simp (maxDischargeDepth := 16) only [argE_nil, argE_cons, ↓vmD, vmV, vmStd, Nat.reduceMul, ↓reduceIte, Nat.reduceAdd, Nat.reduceSub, Nat.reduceEqDiff, Nat.reduceLT, Nat.reduceLeDiff, reduceCtorEq, Int.reduceToNat, Int.reduceLT, Int.reduceLE, Int.reduceEq, Int.reduceNeg, Int.reduceBEq, Int.reduceBNe, String.reduceEq, forall_const, ↓vmDA, vmVA, ↓vmQA, vmR, vmRA, ↓vmSA, vmSV, tyS, nuE, SubA.skip, SubA.refl, fr.2, vbRkB, sv]
    exact bad _ _ sEX (by rw [hx0, if_pos h4]) (by decide)
  | true =>
  rw [h4] at sv
  rw [if_neg (by rw [h4]; simp)] at hx0
  have hdue : dueS w.d 1 date = dueX (R.map Rs.d) code 1 date := due_eq _ _ _ (by omega) w3
  simp (maxDischargeDepth := 16) only [argE_nil, argE_cons, ↓vmD, vmV, vmStd, Nat.reduceMul, ↓reduceIte, Nat.reduceAdd, Nat.reduceSub, Nat.reduceEqDiff, Nat.reduceLT, Nat.reduceLeDiff, reduceCtorEq, Int.reduceToNat, Int.reduceLT, Int.reduceLE, Int.reduceEq, Int.reduceNeg, Int.reduceBEq, Int.reduceBNe, String.reduceEq, forall_const, ↓vmDA, vmVA, ↓vmQA, vmR, vmRA, ↓vmSA, vmSV, tyS, nuE, SubA.skip, SubA.refl, fr.2, vbRkB, sv, hdue]
  have q3 : Vm.look (cat [[(b1, (Obj.cells #[.string (bs w.d.code), .int .i64 w.d.d1, .int .i64 w.d.d2, .int .i64 w.d.d3, .int .i64 w.d.d4, .slice w.p1 w.d.cl.length w.c1, .slice w.p2 w.d.df.length w.c2] 58))], [(b0, (Obj.cells #[.int .i64 r.kd, .string (bs r.id), .string (bs r.au), .string (bs r.aq), .string (bs r.is), .string (bs r.me), .string (bs r.ca), .int .i64 r.am, .string (bs r.cu), .int .i64 r.da, .int .i64 r.ct, .bool r.fi] 36))], B2, E, X]) (ν 0) = none := fr.2 0
  have dst_ : ((ν 0 = b0) = False) ∧ ((ν 0 = b1) = False) ∧ ((b0 = ν 0) = False) ∧ ((b1 = ν 0) = False) := (by simp [nuE]); generalize ν 0 = b2 at dst_  q3 ⊢
  clear nuE fr
  obtain ⟨FB, HX, hEe, sp, h5, h6⟩ := hE0
  subst hEe
  have sp3 : Sep [[(b2, (Obj.cells #[.string (bs id), .string (bs r.id), .string (bs code), .string (bs r.is), .string (bs r.aq), .int .i64 amount, .string (bs r.cu), .int .i64 1, .int .i64 date, .int .i64 (dueX (R.map Rs.d) code 1 date)] 47))], [(b1, (Obj.cells #[.string (bs w.d.code), .int .i64 w.d.d1, .int .i64 w.d.d2, .int .i64 w.d.d3, .int .i64 w.d.d4, .slice w.p1 w.d.cl.length w.c1, .slice w.p2 w.d.df.length w.c2] 58))], [(b0, (Obj.cells #[.int .i64 r.kd, .string (bs r.id), .string (bs r.au), .string (bs r.aq), .string (bs r.is), .string (bs r.me), .string (bs r.ca), .int .i64 r.am, .string (bs r.cu), .int .i64 r.da, .int .i64 r.ct, .bool r.fi] 36))], B2, cat ([(db, (Obj.cells #[.slice rp R.length rcap, .slice fp F.length fcap] 71))] :: FB :: HX :: []), X] := Sep.fresh q3 _ sp2
  have sp4 : Sep ([[(b2, (Obj.cells #[.string (bs id), .string (bs r.id), .string (bs code), .string (bs r.is), .string (bs r.aq), .int .i64 amount, .string (bs r.cu), .int .i64 1, .int .i64 date, .int .i64 (dueX (R.map Rs.d) code 1 date)] 47))], X] ++ [cat [[(db, (Obj.cells #[.slice rp R.length rcap, .slice fp F.length fcap] 71))], FB, HX]]) := Sep.pick sp3 [0, 5, 4] rfl rfl
  have sp5 : Sep [[(b2, (Obj.cells #[.string (bs id), .string (bs r.id), .string (bs code), .string (bs r.is), .string (bs r.aq), .int .i64 amount, .string (bs r.cu), .int .i64 1, .int .i64 date, .int .i64 (dueX (R.map Rs.d) code 1 date)] 47))], [(db, (Obj.cells #[.slice rp R.length rcap, .slice fp F.length fcap] 71))], FB, HX, X] := Sep.pick (Sep.fine sp4 sp) [0, 2, 3, 4, 1] rfl rfl
  have hsub : SubA (cat [[(b2, (Obj.cells #[.string (bs id), .string (bs r.id), .string (bs code), .string (bs r.is), .string (bs r.aq), .int .i64 amount, .string (bs r.cu), .int .i64 1, .int .i64 date, .int .i64 (dueX (R.map Rs.d) code 1 date)] 47))], [(db, (Obj.cells #[.slice rp R.length rcap, .slice fp F.length fcap] 71))], FB, HX, X]) ((b2, (Obj.cells #[.string (bs id), .string (bs r.id), .string (bs code), .string (bs r.is), .string (bs r.aq), .int .i64 amount, .string (bs r.cu), .int .i64 1, .int .i64 date, .int .i64 (dueX (R.map Rs.d) code 1 date)] 47)) :: (b1, (Obj.cells #[.string (bs w.d.code), .int .i64 w.d.d1, .int .i64 w.d.d2, .int .i64 w.d.d3, .int .i64 w.d.d4, .slice w.p1 w.d.cl.length w.c1, .slice w.p2 w.d.df.length w.c2] 58)) :: (b0, (Obj.cells #[.int .i64 r.kd, .string (bs r.id), .string (bs r.au), .string (bs r.aq), .string (bs r.is), .string (bs r.me), .string (bs r.ca), .int .i64 r.am, .string (bs r.cu), .int .i64 r.da, .int .i64 r.ct, .bool r.fi] 36)) :: (B2 ++ (cat ([(db, (Obj.cells #[.slice rp R.length rcap, .slice fp F.length fcap] 71))] :: FB :: HX :: []) ++ X))) := by
    have s5 := Sep.subs sp3 [0, 4, 5] rfl
    refine SubA.trans ?_ s5
    simp only [cat, pick, at_, List.cons_append, List.nil_append, List.append_assoc]
    exact SubA.refl _
  refine MeantA.at hsub ?_
  simp only [cat, List.cons_append, List.nil_append]
  clear bad
  have ndb : (b2 = db) = False := eq_false (fun e => by
    have := (Sep.dis sp5) db (by simp [cat, Vm.look])
    simp [Vm.look, e] at this)
  have ndb' : (db = b2) = False := eq_false (fun e => by rw [e] at ndb; simp at ndb)
  refine MeantA.tree [13] (.one 0 0 (.one 1 0 (.one 2 0 (.one 3 0 (.one 4 0 (.one 5 0 (.one 7 0 (.one 6 0 (.one 8 0 (.one 9 0 (.one 10 1 (.one 11 0 (.one 12 0 (.one 13 2 .nil)))))))))))))) [(b2, (Obj.cells #[.string (bs id), .string (bs r.id), .string (bs code), .string (bs r.is), .string (bs r.aq), .int .i64 amount, .string (bs r.cu), .int .i64 1, .int .i64 date, .int .i64 (dueX (R.map Rs.d) code 1 date)] 47)), (db, (Obj.cells #[.slice rp R.length rcap, .slice fp F.length fcap] 71))] (SubA.left [_, _] _) (by kernel_rfl) (by kernel_rfl) (by kernel_rfl) (by kernel_rfl) (by kernel_rfl) ?_
  intro ν fr
  have nuE := And.intro ndb (And.intro ndb' (And.intro (fr.mem (b := b2) (by simp)) (And.intro (fr.mem (b := db) (by simp)) fr.nu)))
  simp (maxDischargeDepth := 16) only [argE_nil, argE_cons, ↓vmD, vmV, vmStd, Nat.reduceMul, ↓reduceIte, Nat.reduceAdd, Nat.reduceSub, Nat.reduceEqDiff, Nat.reduceLT, Nat.reduceLeDiff, reduceCtorEq, Int.reduceToNat, Int.reduceLT, Int.reduceLE, Int.reduceEq, Int.reduceNeg, Int.reduceBEq, Int.reduceBNe, String.reduceEq, forall_const, ↓vmDA, vmVA, ↓vmQA, vmR, vmRA, ↓vmSA, vmSV, tyS, nuE, SubA.skip, SubA.refl, fr.2, vbRkB, tA_nil, tA_one, sc_rfo, sc_in1]
  have r0 : Vm.look (cat [[(b2, (Obj.cells #[.string (bs id), .string (bs r.id), .string (bs code), .string (bs r.is), .string (bs r.aq), .int .i64 amount, .string (bs r.cu), .int .i64 1, .int .i64 date, .int .i64 (dueX (R.map Rs.d) code 1 date)] 47))], [(db, (Obj.cells #[.slice rp R.length rcap, .slice fp F.length fcap] 71))], FB, HX, X]) (ν 0) = none := fr.2 0
  have r1 : Vm.look (cat [[(ν 0, Obj.cells #[.int .i64 1] 3)], [(b2, (Obj.cells #[.string (bs id), .string (bs r.id), .string (bs code), .string (bs r.is), .string (bs r.aq), .int .i64 amount, .string (bs r.cu), .int .i64 1, .int .i64 date, .int .i64 (dueX (R.map Rs.d) code 1 date)] 47))], [(db, (Obj.cells #[.slice rp R.length rcap, .slice fp F.length fcap] 71))], FB, HX, X]) (ν 1) = none := by
    have := fr.2 1
    simp only [cat, List.cons_append, List.nil_append] at this ⊢
    simp only [Vm.look, nuE, if_false] at this ⊢
    exact this
  have dst_ : ((ν 0 = ν 1) = False) ∧ ((ν 0 = b2) = False) ∧ ((ν 0 = db) = False) ∧ ((ν 1 = ν 0) = False) ∧ ((ν 1 = b2) = False) ∧ ((ν 1 = db) = False) ∧ ((b2 = ν 0) = False) ∧ ((b2 = ν 1) = False) ∧ ((db = ν 0) = False) ∧ ((db = ν 1) = False) := (by simp [nuE]); generalize ν 0 = c0 at dst_  r0 r1 ⊢; generalize ν 1 = c1 at dst_  r0 r1 ⊢
  have sp6 : Sep [[(c1, (Obj.cells #[.string (bs id), .string (bs r.id), .string (bs code), .string (bs r.is), .string (bs r.aq), .int .i64 amount, .string (bs r.cu), .int .i64 1, .int .i64 date, .int .i64 (dueX (R.map Rs.d) code 1 date), .slice (some ⟨c0, 0, none⟩) 1 1, .int .i64 date] 78))], [(c0, Obj.cells #[.int .i64 1] 3)], [(b2, (Obj.cells #[.string (bs id), .string (bs r.id), .string (bs code), .string (bs r.is), .string (bs r.aq), .int .i64 amount, .string (bs r.cu), .int .i64 1, .int .i64 date, .int .i64 (dueX (R.map Rs.d) code 1 date)] 47))], [(db, (Obj.cells #[.slice rp R.length rcap, .slice fp F.length fcap] 71))], FB, HX, X] := Sep.fresh r1 _ (Sep.fresh r0 _ sp5)
  refine RunA.use ?_
  refine append_src (m := 1) (news := foC (⟨openF (R.map Rs.d) id r code amount date, .slice (some ⟨c0, 0, none⟩) 1 1, []⟩ : Fo)) (B := FB) slc69 zro78 rfl (by decide) h5 (Sep.subs sp6 [4] rfl) (.inr ⟨c1, 0, rfl, by simp (maxDischargeDepth := 16) only [argE_nil, argE_cons, ↓vmD, vmV, vmStd, Nat.reduceMul, ↓reduceIte, Nat.reduceAdd, Nat.reduceSub, Nat.reduceEqDiff, Nat.reduceLT, Nat.reduceLeDiff, reduceCtorEq, Int.reduceToNat, Int.reduceLT, Int.reduceLE, Int.reduceEq, Int.reduceNeg, Int.reduceBEq, Int.reduceBNe, String.reduceEq, forall_const, ↓vmDA, vmVA, ↓vmQA, vmR, vmRA, ↓vmSA, vmSV, tyS, nuE, SubA.skip, SubA.refl, fr.2, vbRkB, foC, openF, enterX]⟩) (by simp [foC, Value.oneCell']) (by simp only [maxLen]; omega) (by omega) ?_
  intro v' FB' ho' hb'
  have ho3 : OwnL foC 12 78 v' FB' (F ++ [(⟨openF (R.map Rs.d) id r code amount date, .slice (some ⟨c0, 0, none⟩) 1 1, []⟩ : Fo)]) := by
    unfold OwnL
    rw [List.length_append, List.flatMap_append]
    simpa only [List.map_cons, List.map_nil, List.length_cons, List.length_nil, List.flatMap_cons, List.flatMap_nil, List.append_nil, Nat.zero_add] using ho'
  obtain ⟨qp, qc, rfl, hqc, hqs⟩ := ho3.read foC_len
  have dO : Dis FB' (cat [[(c1, (Obj.cells #[.string (bs id), .string (bs r.id), .string (bs code), .string (bs r.is), .string (bs r.aq), .int .i64 amount, .string (bs r.cu), .int .i64 1, .int .i64 date, .int .i64 (dueX (R.map Rs.d) code 1 date), .slice (some ⟨c0, 0, none⟩) 1 1, .int .i64 date] 78))], [(c0, Obj.cells #[.int .i64 1] 3)], [(b2, (Obj.cells #[.string (bs id), .string (bs r.id), .string (bs code), .string (bs r.is), .string (bs r.aq), .int .i64 amount, .string (bs r.cu), .int .i64 1, .int .i64 date, .int .i64 (dueX (R.map Rs.d) code 1 date)] 47))], [(db, (Obj.cells #[.slice rp R.length rcap, .slice fp F.length fcap] 71))], HX, X]) := ap_dis hb' (Sep.dis (Sep.pick sp6 [4, 0, 1, 2, 3, 5, 6] rfl rfl)) (Sep.subs sp6 [0, 1, 2, 3, 5, 6] rfl)
  have sp7 : Sep [FB', [(c1, (Obj.cells #[.string (bs id), .string (bs r.id), .string (bs code), .string (bs r.is), .string (bs r.aq), .int .i64 amount, .string (bs r.cu), .int .i64 1, .int .i64 date, .int .i64 (dueX (R.map Rs.d) code 1 date), .slice (some ⟨c0, 0, none⟩) 1 1, .int .i64 date] 78))], [(c0, Obj.cells #[.int .i64 1] 3)], [(b2, (Obj.cells #[.string (bs id), .string (bs r.id), .string (bs code), .string (bs r.is), .string (bs r.aq), .int .i64 amount, .string (bs r.cu), .int .i64 1, .int .i64 date, .int .i64 (dueX (R.map Rs.d) code 1 date)] 47))], [(db, (Obj.cells #[.slice rp R.length rcap, .slice fp F.length fcap] 71))], HX, X] := Sep.cons dO (Sep.pick sp6 [0, 1, 2, 3, 5, 6] rfl rfl)
  have sp8 : Sep [[(b2, (Obj.cells #[.string (bs id), .string (bs r.id), .string (bs code), .string (bs r.is), .string (bs r.aq), .int .i64 amount, .string (bs r.cu), .int .i64 1, .int .i64 date, .int .i64 (dueX (R.map Rs.d) code 1 date)] 47))], [(db, (Obj.cells #[.slice rp R.length rcap, .slice fp F.length fcap] 71))], FB', [(c0, Obj.cells #[.int .i64 1] 3)], HX, X] := Sep.pick sp7 [3, 4, 0, 2, 5, 6] rfl rfl
  refine ⟨cat [[(b2, (Obj.cells #[.string (bs id), .string (bs r.id), .string (bs code), .string (bs r.is), .string (bs r.aq), .int .i64 amount, .string (bs r.cu), .int .i64 1, .int .i64 date, .int .i64 (dueX (R.map Rs.d) code 1 date)] 47))], [(db, (Obj.cells #[.slice rp R.length rcap, .slice fp F.length fcap] 71))], FB', [(c0, Obj.cells #[.int .i64 1] 3)], HX, X], SubA.trans (Sep.subs sp7 [3, 4, 0, 2, 5, 6] rfl) (SubA.app (Sep.subs sp6 [0, 1, 2, 3, 5, 6] rfl)), ?_⟩
  simp only [cat, List.cons_append, List.nil_append]
  intro ν3 fr3
  have fr := fr3
  have nuE := And.intro ndb (And.intro ndb' (And.intro (fr.mem (b := b2) (by simp)) (And.intro (fr.mem (b := db) (by simp)) fr.nu)))
  simp (maxDischargeDepth := 16) only [argE_nil, argE_cons, ↓vmD, vmV, vmStd, Nat.reduceMul, ↓reduceIte, Nat.reduceAdd, Nat.reduceSub, Nat.reduceEqDiff, Nat.reduceLT, Nat.reduceLeDiff, reduceCtorEq, Int.reduceToNat, Int.reduceLT, Int.reduceLE, Int.reduceEq, Int.reduceNeg, Int.reduceBEq, Int.reduceBNe, String.reduceEq, forall_const, ↓vmDA, vmVA, ↓vmQA, vmR, vmRA, ↓vmSA, vmSV, tyS, nuE, SubA.skip, SubA.refl, fr.2, vbRkB]
  have ho : openX (R.map Rs.d) (F.map Fo.d) id r code amount date L = (0, F.map Fo.d ++ [openF (R.map Rs.d) id r code amount date]) := by unfold openX; rw [if_neg (by rw [hx0]; simp)]
  rw [ho]
  have sp9 : Sep [[(db, Obj.cells #[.slice rp R.length rcap, .slice qp (F ++ [(⟨openF (R.map Rs.d) id r code amount date, .slice (some ⟨c0, 0, none⟩) 1 1, []⟩ : Fo)]).length qc] 71)], FB', [(c0, Obj.cells #[.int .i64 1] 3)], HX, X] := Sep.set (l := [[(db, (Obj.cells #[.slice rp R.length rcap, .slice fp F.length fcap] 71))], FB', [(c0, Obj.cells #[.int .i64 1] 3)], HX, X]) 0 [(db, Obj.cells #[.slice rp R.length rcap, .slice qp (F ++ [(⟨openF (R.map Rs.d) id r code amount date, .slice (some ⟨c0, 0, none⟩) 1 1, []⟩ : Fo)]).length qc] 71)] (Sep.pick sp8 [1, 2, 3, 4, 5] rfl rfl) one_less
  have spa : Sep [[(db, Obj.cells #[.slice rp R.length rcap, .slice qp (F ++ [(⟨openF (R.map Rs.d) id r code amount date, .slice (some ⟨c0, 0, none⟩) 1 1, []⟩ : Fo)]).length qc] 71)], FB', [(c0, Obj.cells #[.int .i64 1] 3)] ++ HX] := Sep.coarse (a := [_, _]) (m := [_, HX]) (Sep.pick sp9 [0, 1, 2, 3] rfl rfl)
  refine ⟨rfl, _, _, F ++ [(⟨openF (R.map Rs.d) id r code amount date, .slice (some ⟨c0, 0, none⟩) 1 1, []⟩ : Fo)], ⟨FB', [(c0, Obj.cells #[.int .i64 1] 3)] ++ HX, rfl, spa, ho3, fun g hg => ?_⟩, by simp, ?_, ?_⟩
  · have spb : Dis [(c0, Obj.cells #[.int .i64 1] 3)] HX := (Sep.pick sp9 [2, 3] rfl rfl).1.1
    rcases List.mem_append.1 hg with h | h
    · obtain ⟨p, c, h1, h2, h3, h4⟩ := h6 g h
      exact ⟨p, c, h1, h2, h3, h4.mono spb.right⟩
    · simp at h
      subst h
      have o : OwnL intC 1 3 (.slice (some ⟨c0, 0, none⟩) 1 1) [(c0, .cells (intC 1).toArray 3)] [1] := .inl (OwnA.at (n := 1) (by simp [intC]) (by simp [maxLen]))
      obtain ⟨p, cap, e, _, hs⟩ := o.read intC_len
      cases e
      exact ⟨_, _, rfl, by simp [openF, enterX], by simp, hs.mono (SubA.left _ _)⟩
  · have := Sep.dis (Sep.perm sp9 (m := [X, [(db, Obj.cells #[.slice rp R.length rcap, .slice qp (F ++ [(⟨openF (R.map Rs.d) id r code amount date, .slice (some ⟨c0, 0, none⟩) 1 1, []⟩ : Fo)]).length qc] 71)], FB', [(c0, Obj.cells #[.int .i64 1] 3)], HX]) (List.perm_append_comm (l₁ := [_, _, _, _]) (l₂ := [X])))
    refine (Dis.subr this ?_).symm
    simp only [cat, List.cons_append, List.nil_append]
    exact SubA.refl _
  · simp only [cat, List.cons_append, List.nil_append, List.append_assoc]
    have s9 : Sep [[(b2, (Obj.cells #[.string (bs id), .string (bs r.id), .string (bs code), .string (bs r.is), .string (bs r.aq), .int .i64 amount, .string (bs r.cu), .int .i64 1, .int .i64 date, .int .i64 (dueX (R.map Rs.d) code 1 date)] 47))], [(db, Obj.cells #[.slice rp R.length rcap, .slice qp (F ++ [(⟨openF (R.map Rs.d) id r code amount date, .slice (some ⟨c0, 0, none⟩) 1 1, []⟩ : Fo)]).length qc] 71)], FB', [(c0, Obj.cells #[.int .i64 1] 3)], HX, X] := Sep.set (l := [[(b2, (Obj.cells #[.string (bs id), .string (bs r.id), .string (bs code), .string (bs r.is), .string (bs r.aq), .int .i64 amount, .string (bs r.cu), .int .i64 1, .int .i64 date, .int .i64 (dueX (R.map Rs.d) code 1 date)] 47))], [(db, (Obj.cells #[.slice rp R.length rcap, .slice fp F.length fcap] 71))], FB', [(c0, Obj.cells #[.int .i64 1] 3)], HX, X]) 1 [(db, Obj.cells #[.slice rp R.length rcap, .slice qp (F ++ [(⟨openF (R.map Rs.d) id r code amount date, .slice (some ⟨c0, 0, none⟩) 1 1, []⟩ : Fo)]).length qc] 71)] sp8 one_less
    exact Sep.subs s9 [1, 2, 3, 4, 5] rfl

end Go.Proofs.YtkkpmcomloekoaaGreat
