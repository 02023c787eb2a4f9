/-
Reasons: the reference's reading of a text: list, one, Parse.
Conditions: none.
-/
import Derived.Test.YtamiclgnehfhpaaDoorLwk
import Derived.Test.YtamiclgnehfhpaaDoorRsn
namespace Go.Proofs.YtamiclgnehfhpaaDoor
open Go.Vm
set_option linter.unusedSimpArgs false
set_option linter.unusedVariables false
set_option maxHeartbeats 4000000
set_option maxRecDepth 20000
theorem vbRpa : type_of% (And.intro @slIndexByte_v (And.intro @indexByte_v (And.intro @indexRune_v (And.intro @containsRune_v (And.intro @slHasPrefix_v (And.intro @hasPrefix_v (And.intro @classOf_v (And.intro @isWordByte_v (And.intro @letter_v (And.intro @digit_v (And.intro @wordAt_v (And.intro @rword_v (And.intro @skip_v (And.intro @rskip_v (And.intro @number_v (And.intro @rnumber_v (And.intro @literal_v (And.intro @rtext_v (And.intro @lexemeAt_v (And.intro @rlexeme_v (And.intro @isName_v (And.intro @risName_v (And.intro @possible_v (And.intro @days_v (And.intro @due_v (And.intro @rkind_v (And.intro @rdays_v (And.intro @rdaysS_v (And.intro @rdue_v (And.intro @soft_usd (And.intro @soft_ust (And.intro @cnvN_pu (And.intro @cnvN_up (@eqS_pp)))))))))))))))))))))))))))))))))) := And.intro @slIndexByte_v (And.intro @indexByte_v (And.intro @indexRune_v (And.intro @containsRune_v (And.intro @slHasPrefix_v (And.intro @hasPrefix_v (And.intro @classOf_v (And.intro @isWordByte_v (And.intro @letter_v (And.intro @digit_v (And.intro @wordAt_v (And.intro @rword_v (And.intro @skip_v (And.intro @rskip_v (And.intro @number_v (And.intro @rnumber_v (And.intro @literal_v (And.intro @rtext_v (And.intro @lexemeAt_v (And.intro @rlexeme_v (And.intro @isName_v (And.intro @risName_v (And.intro @possible_v (And.intro @days_v (And.intro @due_v (And.intro @rkind_v (And.intro @rdays_v (And.intro @rdaysS_v (And.intro @rdue_v (And.intro @soft_usd (And.intro @soft_ust (And.intro @cnvN_pu (And.intro @cnvN_up (@eqS_pp)))))))))))))))))))))))))))))))))
theorem ixA {P : Program} {t e : TypeId} {len : Nat} {b : Bool} (hu : P.underlying t = some (.array len e)) (hs : shp P e = some (b, 1)) (a : Addr) (k : IntKind) (n : Int) (K : Value → Prop) : ixaW P t (.pointer (some a)) (.int k n) K = need (0 ≤ n ∧ n < (len : Int)) (K (.pointer (some (a.add (n.toNat * 1))))) := by
  simp only [ixaW, hu, hs, bnd]
theorem ixN (a : Addr) (k : IntKind) (n : Int) (K : Value → Prop) : ixaW Tryd.prog 47 (.pointer (some a)) (.int k n) K = need (0 ≤ n ∧ n < 4) (K (.pointer (some (a.add (n.toNat * 1))))) := ixA (e := 3) (b := false) (by kernel_rfl) (by kernel_rfl) a k n K
theorem rscan_a (A : AH) (s : ByteArray) (hs : s.size ≤ 100000) : CallA Tryd.prog 45 #[.string s] A fun u D => ∃ v B, u = v ∧ (∃ w, v = .tuple #[w, .int .i64 (scanF s).1, .int .i64 ((scanF s).2.1 : Nat)] ∧ OwnL LR.cells 4 70 w B (scanF s).2.2) ∧ Dis B A ∧ SubA (B ++ A) D := by
  intro h hA
  unfold RunC
  rw [if_pos (by kernel_rfl)]
  refine (rscan_h s hs h).mono0 ?_
  rintro r h' ⟨v, rfl, o, g⟩
  obtain ⟨B, o2, sB, hb⟩ := own_ha o
  have dB : Dis B A := fun x hx => by
    cases hl : Vm.look A x with
    | none => exact absurd hl hx
    | some ob =>
      have := hA.lt hl
      cases hB : Vm.look B x with
      | none => rfl
      | some o3 => have := hb x (by rw [hB]; simp); omega
  refine ⟨_, B ++ A, rfl, Sat.both sB (hA.grew g), ⟨g.le, fun b hlt hl => ⟨g.old b hlt, look_app_none ?_ hl⟩⟩, _, B, rfl, ⟨v, rfl, .inl o2⟩, dB, SubA.refl _⟩
  cases hB : Vm.look B b with
  | none => rfl
  | some o3 => have := hb b (by rw [hB]; simp); omega
theorem rList_h (A : AH) (L : List LR) (lp : Option Addr) (lcap : Nat) (hL : StR LR.cells 4 A lp L) (hl : L.length ≤ 100000) (hend : EndL L) (hwf : ∀ x ∈ L, x.k = 1 → nameF x.t = true) (i : Nat) (hi : i < L.length) : CallA Tryd.prog 65 #[.slice lp L.length lcap, .int .i64 (i : Int)] A (fun u_ A_ => ∃ v B, u_ = .tuple #[v, .int .i64 (((kindsX (L.drop i) i []).2.1 : Nat) : Int), .int .i64 (kindsX (L.drop i) i []).1] ∧ OwnL strC 1 9 v B (kindsX (L.drop i) i []).2.2 ∧ Dis B A ∧ SubA (B ++ A) A_) := by
  refine callA_of_denA ⟨Tryd.prog, 65, Tryd.f65, 46, [0, 1, 4, 5, 6, 7], [], [], _⟩ (args := [_, _]) Tryd.func65 rfl (by kernel_rfl) Tryd.ntmps65 (by simp) (by kernel_rfl) ?_
  intro ν fr; have nuE := fr.nu
  simp (maxDischargeDepth := 16) only [argE_nil, argE_cons, ↓vmD, vmV, vmStd, Nat.reduceMul, ↓reduceIte, Nat.reduceAdd, Nat.reduceSub, Nat.reduceEqDiff, Nat.reduceLT, Nat.reduceLeDiff, reduceCtorEq, Int.reduceToNat, Int.reduceLT, Int.reduceLE, Int.reduceEq, Int.reduceNeg, Int.reduceBEq, Int.reduceBNe, String.reduceEq, forall_const, ↓vmDA, vmVA, ↓vmQA, vmR, vmRA, ↓vmSA, vmSV, tyS, nuE, SubA.skip, SubA.refl, fr.2, vbRpa, ↓sA_usd, ↓sA_ust]
  clear nuE fr
  obtain ⟨j, K, out, v, B, hj, ho0, hv, hB, hK, hjl, ho, h8, dB, hX⟩ : ∃ (j : Nat) (K : List LR) (out : List Txt) (v : Value) (B : AH), j = i ∧ out = [] ∧ v = .slice none 0 0 ∧ B = [] ∧ K = L.drop j ∧ j < L.length ∧ OwnL strC 1 9 v B out ∧ out.length ≤ 8 ∧ Dis B A ∧ kindsX (L.drop i) i [] = kindsX K j out := ⟨i, _, [], _, [], rfl, rfl, rfl, rfl, rfl, hi, OwnL.nil _ _ _, by simp, Dis.nil _, rfl⟩
  rw [hX, ← hj]
  rw [show (7, some (Value.slice none 0 0)) = (7, some v) by rw [hv]]
  refine LoopA.at (A := B ++ A) (by subst hB; exact SubA.refl _) ?_
  clear hj ho0 hv hB hX hi
  induction K generalizing j out v B with
  | nil =>
    have := drop_nil hK (by omega)
    omega
  | cons x K ih =>
    obtain ⟨hx, hlt, hK', htk⟩ := drop_some hK
    obtain ⟨qp, qcap, rfl, hqc, hqs⟩ := ho.read strC_len
    have hcap := own_cap ho
    have hL' : StR LR.cells 4 (B ++ A) lp L := hL.mono dB.right
    obtain ⟨bk, off, cs, ty, fr0, hp0, hbk, hcr, hcc⟩ := hL'.at hx
    subst hp0
    have g0 : cs[off + j * 4]? = some (.int .i64 x.k) := hcc 0 _ rfl
    have g1 : cs[off + j * 4 + 1]? = some (.string (bs (tx x))) := by rw [tx_bs]; exact hcc 1 _ rfl
    have lt : ((j : Int) < (L.length : Int)) = True := eq_true (by omega)
    have li : ((j : Int) < 0) = False := eq_false (by omega)
    have we : IntKind.i64.wrap ((j : Int) + 1) = ((j + 1 : Nat) : Int) := by rw [w_i64 (by omega) (by omega)]; omega
    refine LoopA.intro (by kernel_rfl) ?_
    intro ν fr; have nuE := fr.nu
    by_cases h1 : x.k = 1
    rotate_left
    · have hS : kindsX (x :: K) j out = (0, j, out) := by simp only [kindsX]; rw [if_pos (by simp [stopK, h1])]
      have e1 : (x.k == 1) = false := by simp [h1]
      rw [hS]
      simp (maxDischargeDepth := 16) only [argE_nil, argE_cons, ↓vmD, vmV, vmStd, Nat.reduceMul, ↓reduceIte, Nat.reduceAdd, Nat.reduceSub, Nat.reduceEqDiff, Nat.reduceLT, Nat.reduceLeDiff, reduceCtorEq, Int.reduceToNat, Int.reduceLT, Int.reduceLE, Int.reduceEq, Int.reduceNeg, Int.reduceBEq, Int.reduceBNe, String.reduceEq, forall_const, ↓vmDA, vmVA, ↓vmQA, vmR, vmRA, ↓vmSA, vmSV, tyS, nuE, SubA.skip, SubA.refl, fr.2, vbRpa, ↓sA_usd, ↓sA_ust, lt, li, hbk, g0, e1, eq_false h1]
      exact ⟨_, B, rfl, ho, dB, SubA.refl _⟩
    have e1 : (x.k == 1) = true := by simp [h1]
    have hnm : nameF (bs (tx x)) = true := by rw [tx_bs]; exact hwf x (List.mem_of_getElem? hx) h1
    by_cases h2 : tx x = claimT ∨ tx x = defenceT
    · have hS : kindsX (x :: K) j out = (0, j, out) := by simp only [kindsX]; rw [if_pos (by rcases h2 with h2 | h2 <;> simp [stopK, h2])]
      have hkf : kindF (tx x) = false := by rcases h2 with h2 | h2 <;> simp [kindF, h2]
      rw [hS]
      simp (maxDischargeDepth := 16) only [argE_nil, argE_cons, ↓vmD, vmV, vmStd, Nat.reduceMul, ↓reduceIte, Nat.reduceAdd, Nat.reduceSub, Nat.reduceEqDiff, Nat.reduceLT, Nat.reduceLeDiff, reduceCtorEq, Int.reduceToNat, Int.reduceLT, Int.reduceLE, Int.reduceEq, Int.reduceNeg, Int.reduceBEq, Int.reduceBNe, String.reduceEq, forall_const, ↓vmDA, vmVA, ↓vmQA, vmR, vmRA, ↓vmSA, vmSV, tyS, nuE, SubA.skip, SubA.refl, fr.2, vbRpa, ↓sA_usd, ↓sA_ust, lt, li, hbk, g0, g1, e1, eq_true h1, hkf]
      exact ⟨_, B, rfl, ho, dB, SubA.refl _⟩
    have hkf : kindF (tx x) = true := by simp only [not_or] at h2; simp [kindF, h2, hnm]
    have hst : stopK x = false := by simp only [not_or] at h2; simp [stopK, h1, h2]
    by_cases h3 : 8 ≤ out.length
    · have hS : kindsX (x :: K) j out = (3, j, []) := by simp only [kindsX]; rw [if_neg (by simp [hst]), if_pos h3]
      have e8 : ((out.length : Int) == 8) = true := by simp; omega
      have e8' : ((out.length : Int) = 8) = True := eq_true (by omega)
      rw [hS]
      simp (maxDischargeDepth := 16) only [argE_nil, argE_cons, ↓vmD, vmV, vmStd, Nat.reduceMul, ↓reduceIte, Nat.reduceAdd, Nat.reduceSub, Nat.reduceEqDiff, Nat.reduceLT, Nat.reduceLeDiff, reduceCtorEq, Int.reduceToNat, Int.reduceLT, Int.reduceLE, Int.reduceEq, Int.reduceNeg, Int.reduceBEq, Int.reduceBNe, String.reduceEq, forall_const, ↓vmDA, vmVA, ↓vmQA, vmR, vmRA, ↓vmSA, vmSV, tyS, nuE, SubA.skip, SubA.refl, fr.2, vbRpa, ↓sA_usd, ↓sA_ust, lt, li, hbk, g0, g1, e1, eq_true h1, hkf, e8, e8']
      exact ⟨_, [], rfl, OwnL.nil _ _ _, Dis.nil _, dB.right⟩
    have e8 : ((out.length : Int) == 8) = false := by simp; omega
    have e8' : ((out.length : Int) = 8) = False := eq_false (by omega)
    have i2 := rhas_w (B ++ A) out qp qcap (tx x) ⟨hqs.mono (SubA.left B A), hqc, hcap⟩ (B ++ A) (SubA.refl _)
    by_cases h4 : tx x ∈ out
    · have hS : kindsX (x :: K) j out = (7, j, []) := by simp only [kindsX]; rw [if_neg (by simp [hst]), if_neg h3, if_pos h4]
      rw [hS]
      rw [decide_eq_true h4] at i2
      simp (maxDischargeDepth := 16) only [argE_nil, argE_cons, ↓vmD, vmV, vmStd, Nat.reduceMul, ↓reduceIte, Nat.reduceAdd, Nat.reduceSub, Nat.reduceEqDiff, Nat.reduceLT, Nat.reduceLeDiff, reduceCtorEq, Int.reduceToNat, Int.reduceLT, Int.reduceLE, Int.reduceEq, Int.reduceNeg, Int.reduceBEq, Int.reduceBNe, String.reduceEq, forall_const, ↓vmDA, vmVA, ↓vmQA, vmR, vmRA, ↓vmSA, vmSV, tyS, nuE, SubA.skip, SubA.refl, fr.2, vbRpa, ↓sA_usd, ↓sA_ust, lt, li, hbk, g0, g1, e1, eq_true h1, hkf, e8, e8', i2]
      exact ⟨_, [], rfl, OwnL.nil _ _ _, Dis.nil _, dB.right⟩
    have hS : kindsX (x :: K) j out = kindsX K (j + 1) (out ++ [tx x]) := by simp only [kindsX]; rw [if_neg (by simp [hst]), if_neg h3, if_neg h4]
    rw [hS]
    rw [decide_eq_false h4] at i2
    have hj1 := hend j x hx (by omega)
    have f0 : Vm.look (B ++ A) (ν 0) = none := fr.2 0
    simp (maxDischargeDepth := 16) only [argE_nil, argE_cons, ↓vmD, vmV, vmStd, Nat.reduceMul, ↓reduceIte, Nat.reduceAdd, Nat.reduceSub, Nat.reduceEqDiff, Nat.reduceLT, Nat.reduceLeDiff, reduceCtorEq, Int.reduceToNat, Int.reduceLT, Int.reduceLE, Int.reduceEq, Int.reduceNeg, Int.reduceBEq, Int.reduceBNe, String.reduceEq, forall_const, ↓vmDA, vmVA, ↓vmQA, vmR, vmRA, ↓vmSA, vmSV, tyS, nuE, SubA.skip, SubA.refl, fr.2, vbRpa, ↓sA_usd, ↓sA_ust, lt, li, hbk, g0, g1, e1, eq_true h1, hkf, e8, e8', i2, sc_s1]
    have sAll : ∀ X o1, SubA X (B ++ A) → SubA X ((ν 0, o1) :: (B ++ A)) := fun X o1 h => SubA.trans h (SubA.fresh f0 (SubA.refl _))
    refine RunA.use ?_
    refine append_src (m := 1) (news := strC (tx x)) (B := B) slc25 zro9 rfl (by decide) ho (sAll B _ (SubA.left B A)) (.inr ⟨ν 0, 0, rfl, by simp (maxDischargeDepth := 16) only [argE_nil, argE_cons, ↓vmD, vmV, vmStd, Nat.reduceMul, ↓reduceIte, Nat.reduceAdd, Nat.reduceSub, Nat.reduceEqDiff, Nat.reduceLT, Nat.reduceLeDiff, reduceCtorEq, Int.reduceToNat, Int.reduceLT, Int.reduceLE, Int.reduceEq, Int.reduceNeg, Int.reduceBEq, Int.reduceBNe, String.reduceEq, forall_const, ↓vmDA, vmVA, ↓vmQA, vmR, vmRA, ↓vmSA, vmSV, tyS, nuE, SubA.skip, SubA.refl, fr.2, vbRpa, ↓sA_usd, ↓sA_ust, strC]⟩) (str_one _) (by simp only [maxLen]; omega) (by omega) ?_
    intro v' B' ho' hb'
    have ho2 : OwnL strC 1 9 v' B' (out ++ [tx x]) := by
      unfold OwnL
      rw [List.length_append, List.flatMap_append]
      simpa only [List.map_cons, List.map_nil, List.length_cons, List.length_nil, List.flatMap_cons, List.flatMap_nil, List.append_nil, Nat.zero_add] using ho'
    have dB' : Dis B' A := ap_dis hb' dB (sAll _ _ dB.right)
    refine ⟨B' ++ A, SubA.app (sAll _ _ dB.right), ?_⟩
    clear nuE fr
    intro ν fr; have nuE := fr.nu
    simp (maxDischargeDepth := 16) only [argE_nil, argE_cons, ↓vmD, vmV, vmStd, Nat.reduceMul, ↓reduceIte, Nat.reduceAdd, Nat.reduceSub, Nat.reduceEqDiff, Nat.reduceLT, Nat.reduceLeDiff, reduceCtorEq, Int.reduceToNat, Int.reduceLT, Int.reduceLE, Int.reduceEq, Int.reduceNeg, Int.reduceBEq, Int.reduceBNe, String.reduceEq, forall_const, ↓vmDA, vmVA, ↓vmQA, vmR, vmRA, ↓vmSA, vmSV, tyS, nuE, SubA.skip, SubA.refl, fr.2, vbRpa, ↓sA_usd, ↓sA_ust, we]
    exact LoopA.weak (ih (j + 1) (out ++ [tx x]) v' B' hK' hj1 ho2 (by simp; omega) dB') (by simp only [subE, get_cons, Nat.reduceEqDiff, ↓reduceIte, reduceCtorEq, Nat.reduceAdd, and_self, and_true]) (SubA.refl _)

theorem rList_n (A : AH) (L : List LR) (lp : Option Addr) (lcap : Nat) (hL : StR LR.cells 4 A lp L) (hl : L.length ≤ 100000) (hend : EndL L) (hwf : ∀ x ∈ L, x.k = 1 → nameF x.t = true) (i : Nat) (hi : i < L.length) : CallA Tryd.prog 65 #[.slice lp L.length lcap, .int .i64 (i : Int)] A fun u D => ∃ w B, u = w ∧ (∃ v, w = .tuple #[v, .int .i64 (((kindsX (L.drop i) i []).2.1 : Nat) : Int), .int .i64 (kindsX (L.drop i) i []).1] ∧ OwnL strC 1 9 v B (kindsX (L.drop i) i []).2.2) ∧ Dis B A ∧ SubA (B ++ A) D :=
  (rList_h A L lp lcap hL hl hend hwf i hi).mono fun u D ⟨v, B, h1, h2, h3, h4⟩ => ⟨u, B, rfl, ⟨v, h1, h2⟩, h3, h4⟩
theorem rIs_h (x : LR) (k : Int) (t : ByteArray) : CallA Tryd.prog 64 #[.agg #[.int .i64 x.k, .string x.t, .int .i64 x.n, .int .i64 x.a], .int .i64 k, .string t] [] (fun u_ _ => u_ = .bool (isL x k t)) := by
  refine callA_of_denA ⟨Tryd.prog, 64, Tryd.f64, 17, [0, 1, 2, 3, 6], [], [], _⟩ (args := [_, _, _]) Tryd.func64 rfl (by kernel_rfl) Tryd.ntmps64 (by simp) (by kernel_rfl) ?_
  intro ν fr; have nuE := fr.nu
  by_cases h1 : x.k = k
  · have e1 : (x.k == k) = true := by simp [h1]
    simp (maxDischargeDepth := 16) only [argE_nil, argE_cons, ↓vmD, vmV, vmStd, Nat.reduceMul, ↓reduceIte, Nat.reduceAdd, Nat.reduceSub, Nat.reduceEqDiff, Nat.reduceLT, Nat.reduceLeDiff, reduceCtorEq, Int.reduceToNat, Int.reduceLT, Int.reduceLE, Int.reduceEq, Int.reduceNeg, Int.reduceBEq, Int.reduceBNe, String.reduceEq, forall_const, ↓vmDA, vmVA, ↓vmQA, vmR, vmRA, ↓vmSA, vmSV, tyS, nuE, SubA.skip, SubA.refl, fr.2, vbRpa, ↓sA_usd, ↓sA_ust, e1, eq_true h1]
    simp only [isL, h1, decide_true, Bool.true_and]
    by_cases h2 : x.t.toList = t.toList <;> simp [h2]
  · have e1 : (x.k == k) = false := by simp [h1]
    simp (maxDischargeDepth := 16) only [argE_nil, argE_cons, ↓vmD, vmV, vmStd, Nat.reduceMul, ↓reduceIte, Nat.reduceAdd, Nat.reduceSub, Nat.reduceEqDiff, Nat.reduceLT, Nat.reduceLeDiff, reduceCtorEq, Int.reduceToNat, Int.reduceLT, Int.reduceLE, Int.reduceEq, Int.reduceNeg, Int.reduceBEq, Int.reduceBNe, String.reduceEq, forall_const, ↓vmDA, vmVA, ↓vmQA, vmR, vmRA, ↓vmSA, vmSV, tyS, nuE, SubA.skip, SubA.refl, fr.2, vbRpa, ↓sA_usd, ↓sA_ust, e1, eq_false h1]
    simp [isL, h1]
theorem rIs_v (x : LR) (k : Int) (t : ByteArray) (A_ : AH) : valA Tryd.prog 64 #[.agg #[.int .i64 x.k, .string x.t, .int .i64 x.n, .int .i64 x.a], .int .i64 k, .string t] A_ = some (.bool (isL x k t)) := valA_eq (pureA_of (by kernel_rfl) (rIs_h x k t))
/-- What a reading of a reason by the reference leaves. -/
def RoP (A : AH) (L : List LR) (u : Value) (D : AH) (q : Int × Nat × Rn) : Prop :=
  (q.1 ≠ 0 ∧ SubA A D ∧ ∃ r : Rs, u = .tuple #[.agg (rsC r).toArray, .int .i64 (q.2.1 : Int), .int .i64 q.1]) ∨
  (q.1 = 0 ∧ ∃ (r : Rs) (B : AH), u = .tuple #[.agg (rsC r).toArray, .int .i64 (q.2.1 : Int), .int .i64 0] ∧ r.d = q.2.2 ∧ InR B r ∧ q.2.1 < L.length ∧ Dis B A ∧ SubA (B ++ A) D)
theorem RoP.err {A D : AH} {L : List LR} {q : Int × Nat × Rn} {e : Int} {j : Nat} (hq : q = (e, j, noRn)) (he : e ≠ 0) (hs : SubA A D) (r : Rs) : RoP A L (.tuple #[.agg (rsC r).toArray, .int .i64 (j : Int), .int .i64 e]) D q := by
  subst hq
  exact .inl ⟨he, hs, r, rfl⟩
theorem rOne_h (A : AH) (L : List LR) (lp : Option Addr) (lcap : Nat) (hL : StR LR.cells 4 A lp L) (hl : L.length ≤ 100000) (hend : EndL L) (hwf : ∀ x ∈ L, x.k = 1 → nameF x.t = true) (i : Nat) (hi : i < L.length) (F : List Rs) (fp : Option Addr) (fcap : Nat) (hF : RsR A fp F) (hFl : F.length ≤ 32) : CallA Tryd.prog 46 #[.slice lp L.length lcap, .int .i64 (i : Int), .slice fp F.length fcap] A (fun u_ A_ => RoP A L u_ A_ (oneX L i (F.map Rs.d))) := by
  refine callA_of_denA ⟨Tryd.prog, 46, Tryd.f46, 170, [0, 1, 2, 6, 7, 8, 9, 11, 12, 13, 14, 15, 16, 17, 18, 19], [65], [], _⟩ (args := [_, _, _]) Tryd.func46 rfl (by kernel_rfl) Tryd.ntmps46 (by simp) (by kernel_rfl) ?_
  intro ν fr; have nuE := fr.nu
  have cell : ∀ (bk off : Nat) (cs : Array Value) (ty : TypeId) (fr0 : Nat × Nat), (∀ (i : Nat) (a : LR), L[i]? = some a → rdCS (some (.cells cs ty fr0)) (off + i * 4) 4 = some (LR.cells a).toArray) → ∀ j y, L[j]? = some y → cs[off + j * 4]? = some (.int .i64 y.k) ∧ cs[off + j * 4 + 1]? = some (.string (bs (tx y))) ∧ cs[off + j * 4 + 2]? = some (.int .i64 y.n) ∧ cs[off + j * 4 + 3]? = some (.int .i64 y.a) ∧ rdCS (some (.cells cs ty fr0)) (off + j * 4) 4 = some #[.int .i64 y.k, .string y.t, .int .i64 y.n, .int .i64 y.a] := fun bk off cs ty fr0 h j y hy => by
    have h4 := h j y hy
    have h5 := (rdCS_cell h4).2
    exact ⟨h5 0 _ rfl, by rw [tx_bs]; exact h5 1 _ rfl, h5 2 _ rfl, h5 3 _ rfl, h4⟩
  obtain ⟨x, hx⟩ : ∃ x, L[i]? = some x := ⟨_, List.getElem?_eq_getElem hi⟩
  have hxa := lxA_of hx
  have hL0 := hL
  rcases hL with h | ⟨bk, off, cs, ty, fr0, rfl, hbk, hcc⟩
  · rw [h] at hi; exact absurd hi (by simp)
  replace cell := cell bk off cs ty fr0 hcc
  have lt : ((i : Int) < (L.length : Int)) = True := eq_true (by omega)
  have li : ((i : Int) < 0) = False := eq_false (by omega)
  obtain ⟨c0, c1, c2, c3, c4⟩ := cell i x hx
  obtain ⟨m00, m01⟩ := look_ne (fr.2 0) hbk
  obtain ⟨m10, m11⟩ := look_ne (fr.2 1) hbk
  obtain ⟨m20, m21⟩ := look_ne (fr.2 2) hbk
  obtain ⟨m30, m31⟩ := look_ne (fr.2 3) hbk
  cases h1 : isL x 1 (bs reasonT) with
  | false =>
    have hq : oneX L i (F.map Rs.d) = (2, i, noRn) := by unfold oneX; rw [hxa, if_pos h1]
    have h1' : isL x 1 ⟨#[114, 101, 97, 115, 111, 110]⟩ = false := h1
    simp (maxDischargeDepth := 16) only [argE_nil, argE_cons, ↓vmD, vmV, vmStd, Nat.reduceMul, ↓reduceIte, Nat.reduceAdd, Nat.reduceSub, Nat.reduceEqDiff, Nat.reduceLT, Nat.reduceLeDiff, reduceCtorEq, Int.reduceToNat, Int.reduceLT, Int.reduceLE, Int.reduceEq, Int.reduceNeg, Int.reduceBEq, Int.reduceBNe, String.reduceEq, forall_const, ↓vmDA, vmVA, ↓vmQA, vmR, vmRA, ↓vmSA, vmSV, tyS, nuE, SubA.skip, SubA.refl, fr.2, vbRpa, ↓sA_usd, ↓sA_ust, rIs_v, lt, li, m00, m10, hbk, c4, h1']
    exact .inl ⟨by rw [hq]; simp, zRs, by rw [hq]; rfl⟩
  | true =>
  have h1' : isL x 1 ⟨#[114, 101, 97, 115, 111, 110]⟩ = true := h1
  by_cases h32 : 32 ≤ F.length
  · have hq : oneX L i (F.map Rs.d) = (3, i, noRn) := by unfold oneX; rw [hxa, if_neg (by rw [h1]; simp), if_pos (by simpa using h32)]
    have e8 : ((F.length : Int) == 32) = true := by simp; omega
    have e8' : ((F.length : Int) = 32) = True := eq_true (by omega)
    simp (maxDischargeDepth := 16) only [argE_nil, argE_cons, ↓vmD, vmV, vmStd, Nat.reduceMul, ↓reduceIte, Nat.reduceAdd, Nat.reduceSub, Nat.reduceEqDiff, Nat.reduceLT, Nat.reduceLeDiff, reduceCtorEq, Int.reduceToNat, Int.reduceLT, Int.reduceLE, Int.reduceEq, Int.reduceNeg, Int.reduceBEq, Int.reduceBNe, String.reduceEq, forall_const, ↓vmDA, vmVA, ↓vmQA, vmR, vmRA, ↓vmSA, vmSV, tyS, nuE, SubA.skip, SubA.refl, fr.2, vbRpa, ↓sA_usd, ↓sA_ust, rIs_v, lt, li, m00, m10, hbk, c4, h1', e8, e8']
    exact .inl ⟨by rw [hq]; simp, zRs, by rw [hq]; rfl⟩
  have e8 : ((F.length : Int) == 32) = false := by simp; omega
  have e8' : ((F.length : Int) = 32) = False := eq_false (by omega)
  have hi1 := hend i x hx (by rw [isL_k h1]; decide)
  have hO : oneX L i (F.map Rs.d) = if (lxA L (i + 1)).k ≠ 1 then (2, i + 1, noRn) else if (findR (tx (lxA L (i + 1))) (F.map Rs.d)).isSome = true then (7, i + 1, noRn)
    else if numE (lxA L (i + 2)) ≠ 0 then (numE (lxA L (i + 2)), i + 2, noRn) else if numE (lxA L (i + 3)) ≠ 0 then (numE (lxA L (i + 3)), i + 3, noRn)
    else if numE (lxA L (i + 4)) ≠ 0 then (numE (lxA L (i + 4)), i + 4, noRn) else if numE (lxA L (i + 5)) ≠ 0 then (numE (lxA L (i + 5)), i + 5, noRn)
    else twoX L (kindsW L (i + 6) claimT) (tx (lxA L (i + 1))) (lxA L (i + 2)).n (lxA L (i + 3)).n (lxA L (i + 4)).n (lxA L (i + 5)).n := by
    unfold oneX
    rw [hxa, if_neg (by rw [h1]; simp), if_neg (by simpa using h32)]
  obtain ⟨x1, hx1⟩ : ∃ x, L[i + 1]? = some x := ⟨_, List.getElem?_eq_getElem hi1⟩
  rw [lxA_of hx1] at hO
  have lt1 : (((i + 1 : Nat) : Int) < (L.length : Int)) = True := eq_true (by omega)
  have li1 : (((i + 1 : Nat) : Int) < 0) = False := eq_false (by omega)
  have we1 : IntKind.i64.wrap ((i : Int) + 1) = ((i + 1 : Nat) : Int) := by rw [w_i64 (by omega) (by omega)]; omega
  obtain ⟨d0, d1, d2, d3, d4⟩ := cell (i + 1) x1 hx1
  have hfs : (findS (tx x1) F).isSome = (findR (tx x1) (F.map Rs.d)).isSome := by rw [← findS_d]; cases findS (tx x1) F <;> rfl
  have ef := rfind_w A F fp fcap (tx x1) hF (by omega)
  rw [hfs] at ef
  generalize (findS (tx x1) F).getD noRs = q at ef
  simp only [rsC] at ef
  have ef' := fun o1 o2 => ef ((ν 1, o1) :: (ν 0, o2) :: A) (by (repeat (first | exact SubA.refl _ | refine SubA.skip (fr.2 _) ?_)))
  clear ef
  by_cases hk1 : x1.k = 1
  rotate_left
  · have hq : oneX L i (F.map Rs.d) = (2, i + 1, noRn) := by rw [hO, if_pos hk1]
    have e1 : (x1.k != 1) = true := by simp [hk1]
    simp (maxDischargeDepth := 16) only [argE_nil, argE_cons, ↓vmD, vmV, vmStd, Nat.reduceMul, ↓reduceIte, Nat.reduceAdd, Nat.reduceSub, Nat.reduceEqDiff, Nat.reduceLT, Nat.reduceLeDiff, reduceCtorEq, Int.reduceToNat, Int.reduceLT, Int.reduceLE, Int.reduceEq, Int.reduceNeg, Int.reduceBEq, Int.reduceBNe, String.reduceEq, forall_const, ↓vmDA, vmVA, ↓vmQA, vmR, vmRA, ↓vmSA, vmSV, tyS, nuE, SubA.skip, SubA.refl, fr.2, vbRpa, ↓sA_usd, ↓sA_ust, rIs_v, lt, li, m00, m10, m20, hbk, c4, h1', e8, e8', we1, lt1, li1, d0, d1, ef', e1, eq_false hk1]
    exact .inl ⟨by rw [hq]; simp, zRs, by rw [hq]; rfl⟩
  have e1 : (x1.k != 1) = false := by simp [hk1]
  rw [if_neg (by simp [hk1])] at hO
  cases hf : (findR (tx x1) (F.map Rs.d)).isSome with
  | true =>
    have hq : oneX L i (F.map Rs.d) = (7, i + 1, noRn) := by rw [hO, if_pos hf]
    rw [hf] at ef'
    simp (maxDischargeDepth := 16) only [argE_nil, argE_cons, ↓vmD, vmV, vmStd, Nat.reduceMul, ↓reduceIte, Nat.reduceAdd, Nat.reduceSub, Nat.reduceEqDiff, Nat.reduceLT, Nat.reduceLeDiff, reduceCtorEq, Int.reduceToNat, Int.reduceLT, Int.reduceLE, Int.reduceEq, Int.reduceNeg, Int.reduceBEq, Int.reduceBNe, String.reduceEq, forall_const, ↓vmDA, vmVA, ↓vmQA, vmR, vmRA, ↓vmSA, vmSV, tyS, nuE, SubA.skip, SubA.refl, fr.2, vbRpa, ↓sA_usd, ↓sA_ust, rIs_v, lt, li, m00, m10, m20, hbk, c4, h1', e8, e8', we1, lt1, li1, d0, d1, ef', e1, eq_true hk1]
    exact .inl ⟨by rw [hq]; simp, zRs, by rw [hq]; rfl⟩
  | false =>
  rw [if_neg (by simp [hf])] at hO
  rw [hf] at ef'
  have hi2 := hend (i + 1) x1 hx1 (by omega)
  have we2 : IntKind.i64.wrap (((i + 1 : Nat) : Int) + 1) = ((i + 2 : Nat) : Int) := by rw [w_i64 (by omega) (by omega)]; omega
  have w0 : Vm.look A (ν 0) = none := fr.2 0
  have w1 : Vm.look A (ν 1) = none := fr.2 1
  have w2 : Vm.look A (ν 2) = none := fr.2 2
  have w3 : Vm.look A (ν 3) = none := fr.2 3
  simp (maxDischargeDepth := 16) only [argE_nil, argE_cons, ↓vmD, vmV, vmStd, Nat.reduceMul, ↓reduceIte, Nat.reduceAdd, Nat.reduceSub, Nat.reduceEqDiff, Nat.reduceLT, Nat.reduceLeDiff, reduceCtorEq, Int.reduceToNat, Int.reduceLT, Int.reduceLE, Int.reduceEq, Int.reduceNeg, Int.reduceBEq, Int.reduceBNe, String.reduceEq, forall_const, ↓vmDA, vmVA, ↓vmQA, vmR, vmRA, ↓vmSA, vmSV, tyS, nuE, SubA.skip, SubA.refl, fr.2, vbRpa, ↓sA_usd, ↓sA_ust, rIs_v, lt, li, m00, m10, m20, hbk, c4, h1', e8, e8', we1, lt1, li1, d0, d1, ef', e1, eq_true hk1, we2]
  have dst_ : ((ν 0 = ν 1) = False) ∧ ((ν 0 = ν 2) = False) ∧ ((ν 0 = ν 3) = False) ∧ ((ν 1 = ν 0) = False) ∧ ((ν 1 = ν 2) = False) ∧ ((ν 1 = ν 3) = False) ∧ ((ν 2 = ν 0) = False) ∧ ((ν 2 = ν 1) = False) ∧ ((ν 2 = ν 3) = False) ∧ ((ν 3 = ν 0) = False) ∧ ((ν 3 = ν 1) = False) ∧ ((ν 3 = ν 2) = False) := (by simp [nuE]); generalize ν 0 = b6 at dst_  m00 m10 m20 m30 w0 w1 w2 w3 ⊢; generalize ν 1 = b9 at dst_  m00 m10 m20 m30 w0 w1 w2 w3 ⊢; generalize ν 2 = b10 at dst_  m00 m10 m20 m30 w0 w1 w2 w3 ⊢; generalize ν 3 = b12 at dst_  m00 m10 m20 m30 w0 w1 w2 w3 ⊢
  clear nuE fr m21 m31 m01 m11 ef'
  have hs4 : ∀ o0 o1 o2 o3, SubA A ((b12, o0) :: (b10, o1) :: (b9, o2) :: (b6, o3) :: A) := fun o0 o1 o2 o3 => SubA.skip w3 (SubA.skip w2 (SubA.skip w1 (SubA.skip w0 (SubA.refl A))))
  obtain ⟨x2, hx2⟩ : ∃ x, L[i + 2]? = some x := ⟨_, List.getElem?_eq_getElem hi2⟩
  rw [lxA_of hx2] at hO
  have lt2 : (((i + 2 : Nat) : Int) < (L.length : Int)) = True := eq_true (by omega)
  have li2 : (((i + 2 : Nat) : Int) < 0) = False := eq_false (by omega)
  obtain ⟨f0, f1, f2, f3, f4⟩ := cell (i + 2) x2 hx2
  by_cases kk2 : x2.k = 2
  rotate_left
  · have hq : oneX L i (F.map Rs.d) = (2, i + 2, noRn) := by rw [hO, if_pos (by simp [numE, kk2])]; simp [numE, kk2]
    have e1 : (x2.k != 2) = true := by simp [kk2]
    refine LoopA.intro (by kernel_rfl) ?_
    intro ν fr; have nuE := And.intro (fr.mem (b := b12) (by simp)) (And.intro (fr.mem (b := b10) (by simp)) (And.intro (fr.mem (b := b9) (by simp)) (And.intro (fr.mem (b := b6) (by simp)) (And.intro dst_ fr.nu))))
    simp (maxDischargeDepth := 16) only [argE_nil, argE_cons, ↓vmD, vmV, vmStd, Nat.reduceMul, ↓reduceIte, Nat.reduceAdd, Nat.reduceSub, Nat.reduceEqDiff, Nat.reduceLT, Nat.reduceLeDiff, reduceCtorEq, Int.reduceToNat, Int.reduceLT, Int.reduceLE, Int.reduceEq, Int.reduceNeg, Int.reduceBEq, Int.reduceBNe, String.reduceEq, forall_const, ↓vmDA, vmVA, ↓vmQA, vmR, vmRA, ↓vmSA, vmSV, tyS, nuE, SubA.skip, SubA.refl, fr.2, vbRpa, ↓sA_usd, ↓sA_ust, rIs_v, lt2, li2, m00, m10, m20, m30, hbk, f0, e1, eq_false kk2]
    refine RoP.err hq (by decide) ?_ ⟨⟨tx x1, 0, 0, 0, 0, [], []⟩, none, 0, none, 0⟩
    exact hs4 _ _ _ _
  have e2 : (x2.k != 2) = false := by simp [kk2]
  by_cases kn2 : x2.n < 1 ∨ 1000 < x2.n
  · have hq : oneX L i (F.map Rs.d) = (4, i + 2, noRn) := by rw [hO, if_pos (by simp [numE, kk2, kn2])]; simp [numE, kk2, kn2]
    refine LoopA.intro (by kernel_rfl) ?_
    intro ν fr; have nuE := And.intro (fr.mem (b := b12) (by simp)) (And.intro (fr.mem (b := b10) (by simp)) (And.intro (fr.mem (b := b9) (by simp)) (And.intro (fr.mem (b := b6) (by simp)) (And.intro dst_ fr.nu))))
    by_cases ka : x2.n < 1
    · simp (maxDischargeDepth := 16) only [argE_nil, argE_cons, ↓vmD, vmV, vmStd, Nat.reduceMul, ↓reduceIte, Nat.reduceAdd, Nat.reduceSub, Nat.reduceEqDiff, Nat.reduceLT, Nat.reduceLeDiff, reduceCtorEq, Int.reduceToNat, Int.reduceLT, Int.reduceLE, Int.reduceEq, Int.reduceNeg, Int.reduceBEq, Int.reduceBNe, String.reduceEq, forall_const, ↓vmDA, vmVA, ↓vmQA, vmR, vmRA, ↓vmSA, vmSV, tyS, nuE, SubA.skip, SubA.refl, fr.2, vbRpa, ↓sA_usd, ↓sA_ust, rIs_v, lt2, li2, m00, m10, m20, m30, hbk, f0, f2, e2, eq_true kk2, eq_true ka]
      refine RoP.err hq (by decide) ?_ ⟨⟨tx x1, 0, 0, 0, 0, [], []⟩, none, 0, none, 0⟩
      exact hs4 _ _ _ _
    · simp (maxDischargeDepth := 16) only [argE_nil, argE_cons, ↓vmD, vmV, vmStd, Nat.reduceMul, ↓reduceIte, Nat.reduceAdd, Nat.reduceSub, Nat.reduceEqDiff, Nat.reduceLT, Nat.reduceLeDiff, reduceCtorEq, Int.reduceToNat, Int.reduceLT, Int.reduceLE, Int.reduceEq, Int.reduceNeg, Int.reduceBEq, Int.reduceBNe, String.reduceEq, forall_const, ↓vmDA, vmVA, ↓vmQA, vmR, vmRA, ↓vmSA, vmSV, tyS, nuE, SubA.skip, SubA.refl, fr.2, vbRpa, ↓sA_usd, ↓sA_ust, rIs_v, lt2, li2, m00, m10, m20, m30, hbk, f0, f2, e2, eq_true kk2, eq_false ka, eq_true (show 1000 < x2.n by omega)]
      refine RoP.err hq (by decide) ?_ ⟨⟨tx x1, 0, 0, 0, 0, [], []⟩, none, 0, none, 0⟩
      exact hs4 _ _ _ _
  have hn2 : numE x2 = 0 := by simp [numE, kk2, kn2]
  rw [hn2, if_neg (by simp)] at hO
  have hi3 := hend (i + 2) x2 hx2 (by omega)
  have we3 : IntKind.i64.wrap (((i + 2 : Nat) : Int) + 1) = ((i + 3 : Nat) : Int) := by rw [w_i64 (by omega) (by omega)]; omega
  have wk0 : IntKind.i64.wrap (0 + 1) = 1 := by decide
  refine LoopA.intro (by kernel_rfl) ?_
  intro ν fr; have nuE := And.intro (fr.mem (b := b12) (by simp)) (And.intro (fr.mem (b := b10) (by simp)) (And.intro (fr.mem (b := b9) (by simp)) (And.intro (fr.mem (b := b6) (by simp)) (And.intro dst_ fr.nu))))
  simp (maxDischargeDepth := 16) only [argE_nil, argE_cons, ↓vmD, vmV, vmStd, Nat.reduceMul, ↓reduceIte, Nat.reduceAdd, Nat.reduceSub, Nat.reduceEqDiff, Nat.reduceLT, Nat.reduceLeDiff, reduceCtorEq, Int.reduceToNat, Int.reduceLT, Int.reduceLE, Int.reduceEq, Int.reduceNeg, Int.reduceBEq, Int.reduceBNe, String.reduceEq, forall_const, ↓vmDA, vmVA, ↓vmQA, vmR, vmRA, ↓vmSA, vmSV, tyS, nuE, SubA.skip, SubA.refl, fr.2, vbRpa, ↓sA_usd, ↓sA_ust, rIs_v, lt2, li2, m00, m10, m20, m30, hbk, f0, f2, e2, eq_true kk2, eq_false (show ¬ x2.n < 1 by omega), eq_false (show ¬ 1000 < x2.n by omega), ixN, we3, wk0]
  clear nuE fr
  obtain ⟨x3, hx3⟩ : ∃ x, L[i + 3]? = some x := ⟨_, List.getElem?_eq_getElem hi3⟩
  rw [lxA_of hx3] at hO
  have lt3 : (((i + 3 : Nat) : Int) < (L.length : Int)) = True := eq_true (by omega)
  have li3 : (((i + 3 : Nat) : Int) < 0) = False := eq_false (by omega)
  obtain ⟨f0, f1, f2, f3, f4⟩ := cell (i + 3) x3 hx3
  by_cases kk3 : x3.k = 2
  rotate_left
  · have hq : oneX L i (F.map Rs.d) = (2, i + 3, noRn) := by rw [hO, if_pos (by simp [numE, kk3])]; simp [numE, kk3]
    have e1 : (x3.k != 2) = true := by simp [kk3]
    refine LoopA.intro (by kernel_rfl) ?_
    intro ν fr; have nuE := And.intro (fr.mem (b := b12) (by simp)) (And.intro (fr.mem (b := b10) (by simp)) (And.intro (fr.mem (b := b9) (by simp)) (And.intro (fr.mem (b := b6) (by simp)) (And.intro dst_ fr.nu))))
    simp (maxDischargeDepth := 16) only [argE_nil, argE_cons, ↓vmD, vmV, vmStd, Nat.reduceMul, ↓reduceIte, Nat.reduceAdd, Nat.reduceSub, Nat.reduceEqDiff, Nat.reduceLT, Nat.reduceLeDiff, reduceCtorEq, Int.reduceToNat, Int.reduceLT, Int.reduceLE, Int.reduceEq, Int.reduceNeg, Int.reduceBEq, Int.reduceBNe, String.reduceEq, forall_const, ↓vmDA, vmVA, ↓vmQA, vmR, vmRA, ↓vmSA, vmSV, tyS, nuE, SubA.skip, SubA.refl, fr.2, vbRpa, ↓sA_usd, ↓sA_ust, rIs_v, lt3, li3, m00, m10, m20, m30, hbk, f0, e1, eq_false kk3]
    refine RoP.err hq (by decide) ?_ ⟨⟨tx x1, 0, 0, 0, 0, [], []⟩, none, 0, none, 0⟩
    exact hs4 _ _ _ _
  have e3 : (x3.k != 2) = false := by simp [kk3]
  by_cases kn3 : x3.n < 1 ∨ 1000 < x3.n
  · have hq : oneX L i (F.map Rs.d) = (4, i + 3, noRn) := by rw [hO, if_pos (by simp [numE, kk3, kn3])]; simp [numE, kk3, kn3]
    refine LoopA.intro (by kernel_rfl) ?_
    intro ν fr; have nuE := And.intro (fr.mem (b := b12) (by simp)) (And.intro (fr.mem (b := b10) (by simp)) (And.intro (fr.mem (b := b9) (by simp)) (And.intro (fr.mem (b := b6) (by simp)) (And.intro dst_ fr.nu))))
    by_cases ka : x3.n < 1
    · simp (maxDischargeDepth := 16) only [argE_nil, argE_cons, ↓vmD, vmV, vmStd, Nat.reduceMul, ↓reduceIte, Nat.reduceAdd, Nat.reduceSub, Nat.reduceEqDiff, Nat.reduceLT, Nat.reduceLeDiff, reduceCtorEq, Int.reduceToNat, Int.reduceLT, Int.reduceLE, Int.reduceEq, Int.reduceNeg, Int.reduceBEq, Int.reduceBNe, String.reduceEq, forall_const, ↓vmDA, vmVA, ↓vmQA, vmR, vmRA, ↓vmSA, vmSV, tyS, nuE, SubA.skip, SubA.refl, fr.2, vbRpa, ↓sA_usd, ↓sA_ust, rIs_v, lt3, li3, m00, m10, m20, m30, hbk, f0, f2, e3, eq_true kk3, eq_true ka]
      refine RoP.err hq (by decide) ?_ ⟨⟨tx x1, 0, 0, 0, 0, [], []⟩, none, 0, none, 0⟩
      exact hs4 _ _ _ _
    · simp (maxDischargeDepth := 16) only [argE_nil, argE_cons, ↓vmD, vmV, vmStd, Nat.reduceMul, ↓reduceIte, Nat.reduceAdd, Nat.reduceSub, Nat.reduceEqDiff, Nat.reduceLT, Nat.reduceLeDiff, reduceCtorEq, Int.reduceToNat, Int.reduceLT, Int.reduceLE, Int.reduceEq, Int.reduceNeg, Int.reduceBEq, Int.reduceBNe, String.reduceEq, forall_const, ↓vmDA, vmVA, ↓vmQA, vmR, vmRA, ↓vmSA, vmSV, tyS, nuE, SubA.skip, SubA.refl, fr.2, vbRpa, ↓sA_usd, ↓sA_ust, rIs_v, lt3, li3, m00, m10, m20, m30, hbk, f0, f2, e3, eq_true kk3, eq_false ka, eq_true (show 1000 < x3.n by omega)]
      refine RoP.err hq (by decide) ?_ ⟨⟨tx x1, 0, 0, 0, 0, [], []⟩, none, 0, none, 0⟩
      exact hs4 _ _ _ _
  have hn3 : numE x3 = 0 := by simp [numE, kk3, kn3]
  rw [hn3, if_neg (by simp)] at hO
  have hi4 := hend (i + 3) x3 hx3 (by omega)
  have we4 : IntKind.i64.wrap (((i + 3 : Nat) : Int) + 1) = ((i + 4 : Nat) : Int) := by rw [w_i64 (by omega) (by omega)]; omega
  have wk1 : IntKind.i64.wrap (1 + 1) = 2 := by decide
  refine LoopA.intro (by kernel_rfl) ?_
  intro ν fr; have nuE := And.intro (fr.mem (b := b12) (by simp)) (And.intro (fr.mem (b := b10) (by simp)) (And.intro (fr.mem (b := b9) (by simp)) (And.intro (fr.mem (b := b6) (by simp)) (And.intro dst_ fr.nu))))
  simp (maxDischargeDepth := 16) only [argE_nil, argE_cons, ↓vmD, vmV, vmStd, Nat.reduceMul, ↓reduceIte, Nat.reduceAdd, Nat.reduceSub, Nat.reduceEqDiff, Nat.reduceLT, Nat.reduceLeDiff, reduceCtorEq, Int.reduceToNat, Int.reduceLT, Int.reduceLE, Int.reduceEq, Int.reduceNeg, Int.reduceBEq, Int.reduceBNe, String.reduceEq, forall_const, ↓vmDA, vmVA, ↓vmQA, vmR, vmRA, ↓vmSA, vmSV, tyS, nuE, SubA.skip, SubA.refl, fr.2, vbRpa, ↓sA_usd, ↓sA_ust, rIs_v, lt3, li3, m00, m10, m20, m30, hbk, f0, f2, e3, eq_true kk3, eq_false (show ¬ x3.n < 1 by omega), eq_false (show ¬ 1000 < x3.n by omega), ixN, we4, wk1]
  clear nuE fr
  obtain ⟨x4, hx4⟩ : ∃ x, L[i + 4]? = some x := ⟨_, List.getElem?_eq_getElem hi4⟩
  rw [lxA_of hx4] at hO
  have lt4 : (((i + 4 : Nat) : Int) < (L.length : Int)) = True := eq_true (by omega)
  have li4 : (((i + 4 : Nat) : Int) < 0) = False := eq_false (by omega)
  obtain ⟨f0, f1, f2, f3, f4⟩ := cell (i + 4) x4 hx4
  by_cases kk4 : x4.k = 2
  rotate_left
  · have hq : oneX L i (F.map Rs.d) = (2, i + 4, noRn) := by rw [hO, if_pos (by simp [numE, kk4])]; simp [numE, kk4]
    have e1 : (x4.k != 2) = true := by simp [kk4]
    refine LoopA.intro (by kernel_rfl) ?_
    intro ν fr; have nuE := And.intro (fr.mem (b := b12) (by simp)) (And.intro (fr.mem (b := b10) (by simp)) (And.intro (fr.mem (b := b9) (by simp)) (And.intro (fr.mem (b := b6) (by simp)) (And.intro dst_ fr.nu))))
    simp (maxDischargeDepth := 16) only [argE_nil, argE_cons, ↓vmD, vmV, vmStd, Nat.reduceMul, ↓reduceIte, Nat.reduceAdd, Nat.reduceSub, Nat.reduceEqDiff, Nat.reduceLT, Nat.reduceLeDiff, reduceCtorEq, Int.reduceToNat, Int.reduceLT, Int.reduceLE, Int.reduceEq, Int.reduceNeg, Int.reduceBEq, Int.reduceBNe, String.reduceEq, forall_const, ↓vmDA, vmVA, ↓vmQA, vmR, vmRA, ↓vmSA, vmSV, tyS, nuE, SubA.skip, SubA.refl, fr.2, vbRpa, ↓sA_usd, ↓sA_ust, rIs_v, lt4, li4, m00, m10, m20, m30, hbk, f0, e1, eq_false kk4]
    refine RoP.err hq (by decide) ?_ ⟨⟨tx x1, 0, 0, 0, 0, [], []⟩, none, 0, none, 0⟩
    exact hs4 _ _ _ _
  have e4 : (x4.k != 2) = false := by simp [kk4]
  by_cases kn4 : x4.n < 1 ∨ 1000 < x4.n
  · have hq : oneX L i (F.map Rs.d) = (4, i + 4, noRn) := by rw [hO, if_pos (by simp [numE, kk4, kn4])]; simp [numE, kk4, kn4]
    refine LoopA.intro (by kernel_rfl) ?_
    intro ν fr; have nuE := And.intro (fr.mem (b := b12) (by simp)) (And.intro (fr.mem (b := b10) (by simp)) (And.intro (fr.mem (b := b9) (by simp)) (And.intro (fr.mem (b := b6) (by simp)) (And.intro dst_ fr.nu))))
    by_cases ka : x4.n < 1
    · simp (maxDischargeDepth := 16) only [argE_nil, argE_cons, ↓vmD, vmV, vmStd, Nat.reduceMul, ↓reduceIte, Nat.reduceAdd, Nat.reduceSub, Nat.reduceEqDiff, Nat.reduceLT, Nat.reduceLeDiff, reduceCtorEq, Int.reduceToNat, Int.reduceLT, Int.reduceLE, Int.reduceEq, Int.reduceNeg, Int.reduceBEq, Int.reduceBNe, String.reduceEq, forall_const, ↓vmDA, vmVA, ↓vmQA, vmR, vmRA, ↓vmSA, vmSV, tyS, nuE, SubA.skip, SubA.refl, fr.2, vbRpa, ↓sA_usd, ↓sA_ust, rIs_v, lt4, li4, m00, m10, m20, m30, hbk, f0, f2, e4, eq_true kk4, eq_true ka]
      refine RoP.err hq (by decide) ?_ ⟨⟨tx x1, 0, 0, 0, 0, [], []⟩, none, 0, none, 0⟩
      exact hs4 _ _ _ _
    · simp (maxDischargeDepth := 16) only [argE_nil, argE_cons, ↓vmD, vmV, vmStd, Nat.reduceMul, ↓reduceIte, Nat.reduceAdd, Nat.reduceSub, Nat.reduceEqDiff, Nat.reduceLT, Nat.reduceLeDiff, reduceCtorEq, Int.reduceToNat, Int.reduceLT, Int.reduceLE, Int.reduceEq, Int.reduceNeg, Int.reduceBEq, Int.reduceBNe, String.reduceEq, forall_const, ↓vmDA, vmVA, ↓vmQA, vmR, vmRA, ↓vmSA, vmSV, tyS, nuE, SubA.skip, SubA.refl, fr.2, vbRpa, ↓sA_usd, ↓sA_ust, rIs_v, lt4, li4, m00, m10, m20, m30, hbk, f0, f2, e4, eq_true kk4, eq_false ka, eq_true (show 1000 < x4.n by omega)]
      refine RoP.err hq (by decide) ?_ ⟨⟨tx x1, 0, 0, 0, 0, [], []⟩, none, 0, none, 0⟩
      exact hs4 _ _ _ _
  have hn4 : numE x4 = 0 := by simp [numE, kk4, kn4]
  rw [hn4, if_neg (by simp)] at hO
  have hi5 := hend (i + 4) x4 hx4 (by omega)
  have we5 : IntKind.i64.wrap (((i + 4 : Nat) : Int) + 1) = ((i + 5 : Nat) : Int) := by rw [w_i64 (by omega) (by omega)]; omega
  have wk2 : IntKind.i64.wrap (2 + 1) = 3 := by decide
  refine LoopA.intro (by kernel_rfl) ?_
  intro ν fr; have nuE := And.intro (fr.mem (b := b12) (by simp)) (And.intro (fr.mem (b := b10) (by simp)) (And.intro (fr.mem (b := b9) (by simp)) (And.intro (fr.mem (b := b6) (by simp)) (And.intro dst_ fr.nu))))
  simp (maxDischargeDepth := 16) only [argE_nil, argE_cons, ↓vmD, vmV, vmStd, Nat.reduceMul, ↓reduceIte, Nat.reduceAdd, Nat.reduceSub, Nat.reduceEqDiff, Nat.reduceLT, Nat.reduceLeDiff, reduceCtorEq, Int.reduceToNat, Int.reduceLT, Int.reduceLE, Int.reduceEq, Int.reduceNeg, Int.reduceBEq, Int.reduceBNe, String.reduceEq, forall_const, ↓vmDA, vmVA, ↓vmQA, vmR, vmRA, ↓vmSA, vmSV, tyS, nuE, SubA.skip, SubA.refl, fr.2, vbRpa, ↓sA_usd, ↓sA_ust, rIs_v, lt4, li4, m00, m10, m20, m30, hbk, f0, f2, e4, eq_true kk4, eq_false (show ¬ x4.n < 1 by omega), eq_false (show ¬ 1000 < x4.n by omega), ixN, we5, wk2]
  clear nuE fr
  obtain ⟨x5, hx5⟩ : ∃ x, L[i + 5]? = some x := ⟨_, List.getElem?_eq_getElem hi5⟩
  rw [lxA_of hx5] at hO
  have lt5 : (((i + 5 : Nat) : Int) < (L.length : Int)) = True := eq_true (by omega)
  have li5 : (((i + 5 : Nat) : Int) < 0) = False := eq_false (by omega)
  obtain ⟨f0, f1, f2, f3, f4⟩ := cell (i + 5) x5 hx5
  by_cases kk5 : x5.k = 2
  rotate_left
  · have hq : oneX L i (F.map Rs.d) = (2, i + 5, noRn) := by rw [hO, if_pos (by simp [numE, kk5])]; simp [numE, kk5]
    have e1 : (x5.k != 2) = true := by simp [kk5]
    refine LoopA.intro (by kernel_rfl) ?_
    intro ν fr; have nuE := And.intro (fr.mem (b := b12) (by simp)) (And.intro (fr.mem (b := b10) (by simp)) (And.intro (fr.mem (b := b9) (by simp)) (And.intro (fr.mem (b := b6) (by simp)) (And.intro dst_ fr.nu))))
    simp (maxDischargeDepth := 16) only [argE_nil, argE_cons, ↓vmD, vmV, vmStd, Nat.reduceMul, ↓reduceIte, Nat.reduceAdd, Nat.reduceSub, Nat.reduceEqDiff, Nat.reduceLT, Nat.reduceLeDiff, reduceCtorEq, Int.reduceToNat, Int.reduceLT, Int.reduceLE, Int.reduceEq, Int.reduceNeg, Int.reduceBEq, Int.reduceBNe, String.reduceEq, forall_const, ↓vmDA, vmVA, ↓vmQA, vmR, vmRA, ↓vmSA, vmSV, tyS, nuE, SubA.skip, SubA.refl, fr.2, vbRpa, ↓sA_usd, ↓sA_ust, rIs_v, lt5, li5, m00, m10, m20, m30, hbk, f0, e1, eq_false kk5]
    refine RoP.err hq (by decide) ?_ ⟨⟨tx x1, 0, 0, 0, 0, [], []⟩, none, 0, none, 0⟩
    exact hs4 _ _ _ _
  have e5 : (x5.k != 2) = false := by simp [kk5]
  by_cases kn5 : x5.n < 1 ∨ 1000 < x5.n
  · have hq : oneX L i (F.map Rs.d) = (4, i + 5, noRn) := by rw [hO, if_pos (by simp [numE, kk5, kn5])]; simp [numE, kk5, kn5]
    refine LoopA.intro (by kernel_rfl) ?_
    intro ν fr; have nuE := And.intro (fr.mem (b := b12) (by simp)) (And.intro (fr.mem (b := b10) (by simp)) (And.intro (fr.mem (b := b9) (by simp)) (And.intro (fr.mem (b := b6) (by simp)) (And.intro dst_ fr.nu))))
    by_cases ka : x5.n < 1
    · simp (maxDischargeDepth := 16) only [argE_nil, argE_cons, ↓vmD, vmV, vmStd, Nat.reduceMul, ↓reduceIte, Nat.reduceAdd, Nat.reduceSub, Nat.reduceEqDiff, Nat.reduceLT, Nat.reduceLeDiff, reduceCtorEq, Int.reduceToNat, Int.reduceLT, Int.reduceLE, Int.reduceEq, Int.reduceNeg, Int.reduceBEq, Int.reduceBNe, String.reduceEq, forall_const, ↓vmDA, vmVA, ↓vmQA, vmR, vmRA, ↓vmSA, vmSV, tyS, nuE, SubA.skip, SubA.refl, fr.2, vbRpa, ↓sA_usd, ↓sA_ust, rIs_v, lt5, li5, m00, m10, m20, m30, hbk, f0, f2, e5, eq_true kk5, eq_true ka]
      refine RoP.err hq (by decide) ?_ ⟨⟨tx x1, 0, 0, 0, 0, [], []⟩, none, 0, none, 0⟩
      exact hs4 _ _ _ _
    · simp (maxDischargeDepth := 16) only [argE_nil, argE_cons, ↓vmD, vmV, vmStd, Nat.reduceMul, ↓reduceIte, Nat.reduceAdd, Nat.reduceSub, Nat.reduceEqDiff, Nat.reduceLT, Nat.reduceLeDiff, reduceCtorEq, Int.reduceToNat, Int.reduceLT, Int.reduceLE, Int.reduceEq, Int.reduceNeg, Int.reduceBEq, Int.reduceBNe, String.reduceEq, forall_const, ↓vmDA, vmVA, ↓vmQA, vmR, vmRA, ↓vmSA, vmSV, tyS, nuE, SubA.skip, SubA.refl, fr.2, vbRpa, ↓sA_usd, ↓sA_ust, rIs_v, lt5, li5, m00, m10, m20, m30, hbk, f0, f2, e5, eq_true kk5, eq_false ka, eq_true (show 1000 < x5.n by omega)]
      refine RoP.err hq (by decide) ?_ ⟨⟨tx x1, 0, 0, 0, 0, [], []⟩, none, 0, none, 0⟩
      exact hs4 _ _ _ _
  have hn5 : numE x5 = 0 := by simp [numE, kk5, kn5]
  rw [hn5, if_neg (by simp)] at hO
  have hi6 := hend (i + 5) x5 hx5 (by omega)
  have we6 : IntKind.i64.wrap (((i + 5 : Nat) : Int) + 1) = ((i + 6 : Nat) : Int) := by rw [w_i64 (by omega) (by omega)]; omega
  have wk3 : IntKind.i64.wrap (3 + 1) = 4 := by decide
  refine LoopA.intro (by kernel_rfl) ?_
  intro ν fr; have nuE := And.intro (fr.mem (b := b12) (by simp)) (And.intro (fr.mem (b := b10) (by simp)) (And.intro (fr.mem (b := b9) (by simp)) (And.intro (fr.mem (b := b6) (by simp)) (And.intro dst_ fr.nu))))
  simp (maxDischargeDepth := 16) only [argE_nil, argE_cons, ↓vmD, vmV, vmStd, Nat.reduceMul, ↓reduceIte, Nat.reduceAdd, Nat.reduceSub, Nat.reduceEqDiff, Nat.reduceLT, Nat.reduceLeDiff, reduceCtorEq, Int.reduceToNat, Int.reduceLT, Int.reduceLE, Int.reduceEq, Int.reduceNeg, Int.reduceBEq, Int.reduceBNe, String.reduceEq, forall_const, ↓vmDA, vmVA, ↓vmQA, vmR, vmRA, ↓vmSA, vmSV, tyS, nuE, SubA.skip, SubA.refl, fr.2, vbRpa, ↓sA_usd, ↓sA_ust, rIs_v, lt5, li5, m00, m10, m20, m30, hbk, f0, f2, e5, eq_true kk5, eq_false (show ¬ x5.n < 1 by omega), eq_false (show ¬ 1000 < x5.n by omega), ixN, we6, wk3]
  clear nuE fr
  obtain ⟨x6, hx6⟩ : ∃ x, L[i + 6]? = some x := ⟨_, List.getElem?_eq_getElem hi6⟩
  have lt6 : (((i + 6 : Nat) : Int) < (L.length : Int)) = True := eq_true (by omega)
  have li6 : (((i + 6 : Nat) : Int) < 0) = False := eq_false (by omega)
  obtain ⟨f0, f1, f2, f3, f4⟩ := cell (i + 6) x6 hx6
  unfold kindsW at hO
  rw [lxA_of hx6] at hO
  have hsl : ∀ o X, SubA [(b12, o)] ((b12, o) :: X) := fun o X => SubA.left [_] _
  refine LoopA.intro (by kernel_rfl) ?_
  intro ν fr; have nuE := And.intro (fr.mem (b := b12) (by simp)) (And.intro (fr.mem (b := b10) (by simp)) (And.intro (fr.mem (b := b9) (by simp)) (And.intro (fr.mem (b := b6) (by simp)) (And.intro dst_ fr.nu))))
  simp (maxDischargeDepth := 16) only [argE_nil, argE_cons, ↓vmD, vmV, vmStd, Nat.reduceMul, ↓reduceIte, Nat.reduceAdd, Nat.reduceSub, Nat.reduceEqDiff, Nat.reduceLT, Nat.reduceLeDiff, reduceCtorEq, Int.reduceToNat, Int.reduceLT, Int.reduceLE, Int.reduceEq, Int.reduceNeg, Int.reduceBEq, Int.reduceBNe, String.reduceEq, forall_const, ↓vmDA, vmVA, ↓vmQA, vmR, vmRA, ↓vmSA, vmSV, tyS, nuE, SubA.skip, SubA.refl, fr.2, vbRpa, ↓sA_usd, ↓sA_ust, rIs_v]
  clear nuE fr
  refine MeantA.plan [(0, 0), (1, 0), (2, 0), (3, 0), (4, 0), (5, 0), (6, 0), (7, 0), (8, 0), (9, 0), (10, 0), (11, 0), (12, 0), (13, 1), (14, 0), (15, 2)] [(b12, .cells #[.int .i64 x2.n, .int .i64 x3.n, .int .i64 x4.n, .int .i64 x5.n] 47)] (hsl _ _) (by kernel_rfl) (by kernel_rfl) (by kernel_rfl) (by kernel_rfl) (by kernel_rfl) (by kernel_rfl) ?_
  intro ν fr; have nuE := And.intro (fr.mem (b := b12) (by simp)) (And.intro (fr.mem (b := b10) (by simp)) (And.intro (fr.mem (b := b9) (by simp)) (And.intro (fr.mem (b := b6) (by simp)) (And.intro dst_ fr.nu))))
  cases h6 : isL x6 1 (bs claimT) with
  | false =>
    rw [h6, if_neg (by simp)] at hO
    have hq : oneX L i (F.map Rs.d) = (2, i + 6, noRn) := by rw [hO]; unfold twoX; rw [if_pos (by simp)]
    have h6' : isL x6 1 ⟨#[99, 108, 97, 105, 109]⟩ = false := h6
    simp (maxDischargeDepth := 16) only [argE_nil, argE_cons, ↓vmD, vmV, vmStd, Nat.reduceMul, ↓reduceIte, Nat.reduceAdd, Nat.reduceSub, Nat.reduceEqDiff, Nat.reduceLT, Nat.reduceLeDiff, reduceCtorEq, Int.reduceToNat, Int.reduceLT, Int.reduceLE, Int.reduceEq, Int.reduceNeg, Int.reduceBEq, Int.reduceBNe, String.reduceEq, forall_const, ↓vmDA, vmVA, ↓vmQA, vmR, vmRA, ↓vmSA, vmSV, tyS, nuE, SubA.skip, SubA.refl, fr.2, vbRpa, ↓sA_usd, ↓sA_ust, rIs_v, m00, m10, m20, m30, hbk, ixN, hsl, lt6, li6, f4, h6']
    refine RoP.err hq (by decide) ?_ ⟨⟨tx x1, x2.n, x3.n, x4.n, x5.n, [], []⟩, none, 0, none, 0⟩
    exact hs4 _ _ _ _
  | true =>
  rw [h6, if_pos rfl] at hO
  have h6' : isL x6 1 ⟨#[99, 108, 97, 105, 109]⟩ = true := h6
  have hi7 := hend (i + 6) x6 hx6 (by rw [isL_k h6]; decide)
  have we7 : IntKind.i64.wrap (((i + 6 : Nat) : Int) + 1) = ((i + 7 : Nat) : Int) := by rw [w_i64 (by omega) (by omega)]; omega
  simp (maxDischargeDepth := 16) only [argE_nil, argE_cons, ↓vmD, vmV, vmStd, Nat.reduceMul, ↓reduceIte, Nat.reduceAdd, Nat.reduceSub, Nat.reduceEqDiff, Nat.reduceLT, Nat.reduceLeDiff, reduceCtorEq, Int.reduceToNat, Int.reduceLT, Int.reduceLE, Int.reduceEq, Int.reduceNeg, Int.reduceBEq, Int.reduceBNe, String.reduceEq, forall_const, ↓vmDA, vmVA, ↓vmQA, vmR, vmRA, ↓vmSA, vmSV, tyS, nuE, SubA.skip, SubA.refl, fr.2, vbRpa, ↓sA_usd, ↓sA_ust, rIs_v, m00, m10, m20, m30, hbk, ixN, hsl, lt6, li6, f4, h6', we7]
  clear nuE fr
  have hK1 := kindsX_lt hend (L.drop (i + 7)) (i + 7) [] rfl hi7
  refine CallA.newX (rList_n A L (some ⟨bk, off, none⟩) lcap hL0 hl hend hwf (i + 7) hi7) (hs4 _ _ _ _) ?_
  rintro w B1 ⟨v1, rfl, ho1⟩ hdB1
  have hO : oneX L i (F.map Rs.d) = twoX L (kindsX (L.drop (i + 7)) (i + 7) []) (tx x1) x2.n x3.n x4.n x5.n := hO
  generalize kindsX (L.drop (i + 7)) (i + 7) [] = W1 at hO hK1 ho1 ⊢
  have d1A : Dis B1 A := Dis.subr hdB1 (hs4 _ _ _ _)
  have hbk1 : Vm.look (B1 ++ A) bk = some (.cells cs ty fr0) := d1A.right _ _ hbk
  have y6 : Vm.look (B1 ++ A) b6 = none := look_app_none (hdB1 b6 (by simp [Vm.look, dst_])) w0
  have y9 : Vm.look (B1 ++ A) b9 = none := look_app_none (hdB1 b9 (by simp [Vm.look, dst_])) w1
  refine ⟨(b9, rB (bs (tx x1)) x2.n x3.n x4.n x5.n) :: (b6, rzB) :: (B1 ++ A), SubA.cons (hdB1.right _ _ (by simp [Vm.look, dst_, rB])) (SubA.cons (hdB1.right _ _ (by simp [Vm.look, dst_, rzB])) (SubA.both (SubA.left B1 _) (SubA.trans (hs4 _ _ _ _) hdB1.right))), ?_⟩
  have hs2 : ∀ o2 o3 X, Vm.look X b6 = none → Vm.look X b9 = none → SubA X ((b9, o2) :: (b6, o3) :: X) := fun o2 o3 X h6 h9 => SubA.skip h9 (SubA.skip h6 (SubA.refl X))
  simp only [rB, rzB]
  intro ν fr; have nuE := And.intro (fr.mem (b := b9) (by simp)) (And.intro (fr.mem (b := b6) (by simp)) (And.intro dst_ fr.nu))
  by_cases z1 : W1.1 = 0
  rotate_left
  · have hq : oneX L i (F.map Rs.d) = (W1.1, W1.2.1, noRn) := by rw [hO]; unfold twoX; rw [if_pos z1]
    simp (maxDischargeDepth := 16) only [argE_nil, argE_cons, ↓vmD, vmV, vmStd, Nat.reduceMul, ↓reduceIte, Nat.reduceAdd, Nat.reduceSub, Nat.reduceEqDiff, Nat.reduceLT, Nat.reduceLeDiff, reduceCtorEq, Int.reduceToNat, Int.reduceLT, Int.reduceLE, Int.reduceEq, Int.reduceNeg, Int.reduceBEq, Int.reduceBNe, String.reduceEq, forall_const, ↓vmDA, vmVA, ↓vmQA, vmR, vmRA, ↓vmSA, vmSV, tyS, nuE, SubA.skip, SubA.refl, fr.2, vbRpa, ↓sA_usd, ↓sA_ust, rIs_v, eq_false z1]
    refine RoP.err hq z1 ?_ ⟨⟨tx x1, x2.n, x3.n, x4.n, x5.n, [], []⟩, none, 0, none, 0⟩
    exact SubA.trans d1A.right (hs2 _ _ _ y6 y9)
  obtain ⟨x7, hx7⟩ : ∃ x, L[W1.2.1]? = some x := ⟨_, List.getElem?_eq_getElem hK1⟩
  have lt7 : (((W1.2.1 : Nat) : Int) < (L.length : Int)) = True := eq_true (by omega)
  have li7 : (((W1.2.1 : Nat) : Int) < 0) = False := eq_false (by omega)
  obtain ⟨f0, f1, f2, f3, f4⟩ := cell W1.2.1 x7 hx7
  unfold twoX kindsW at hO
  rw [lxA_of hx7, if_neg (by simp [z1])] at hO
  cases h7 : isL x7 1 (bs defenceT) with
  | false =>
    rw [h7, if_neg (by simp)] at hO
    have hq : oneX L i (F.map Rs.d) = (2, W1.2.1, noRn) := by rw [hO]; unfold thrX; rw [if_pos (by simp)]
    have h7' : isL x7 1 ⟨#[100, 101, 102, 101, 110, 99, 101]⟩ = false := h7
    simp (maxDischargeDepth := 16) only [argE_nil, argE_cons, ↓vmD, vmV, vmStd, Nat.reduceMul, ↓reduceIte, Nat.reduceAdd, Nat.reduceSub, Nat.reduceEqDiff, Nat.reduceLT, Nat.reduceLeDiff, reduceCtorEq, Int.reduceToNat, Int.reduceLT, Int.reduceLE, Int.reduceEq, Int.reduceNeg, Int.reduceBEq, Int.reduceBNe, String.reduceEq, forall_const, ↓vmDA, vmVA, ↓vmQA, vmR, vmRA, ↓vmSA, vmSV, tyS, nuE, SubA.skip, SubA.refl, fr.2, vbRpa, ↓sA_usd, ↓sA_ust, rIs_v, z1, lt7, li7, m00, m10, hbk1, f4, h7']
    refine RoP.err hq (by decide) ?_ ⟨⟨tx x1, x2.n, x3.n, x4.n, x5.n, [], []⟩, none, 0, none, 0⟩
    exact SubA.trans d1A.right (hs2 _ _ _ y6 y9)
  | true =>
  rw [h7, if_pos rfl] at hO
  have h7' : isL x7 1 ⟨#[100, 101, 102, 101, 110, 99, 101]⟩ = true := h7
  have hi8 := hend W1.2.1 x7 hx7 (by rw [isL_k h7]; decide)
  have we8 : IntKind.i64.wrap (((W1.2.1 : Nat) : Int) + 1) = ((W1.2.1 + 1 : Nat) : Int) := by rw [w_i64 (by omega) (by omega)]; omega
  have hK2 := kindsX_lt hend (L.drop (W1.2.1 + 1)) (W1.2.1 + 1) [] rfl hi8
  simp (maxDischargeDepth := 16) only [argE_nil, argE_cons, ↓vmD, vmV, vmStd, Nat.reduceMul, ↓reduceIte, Nat.reduceAdd, Nat.reduceSub, Nat.reduceEqDiff, Nat.reduceLT, Nat.reduceLeDiff, reduceCtorEq, Int.reduceToNat, Int.reduceLT, Int.reduceLE, Int.reduceEq, Int.reduceNeg, Int.reduceBEq, Int.reduceBNe, String.reduceEq, forall_const, ↓vmDA, vmVA, ↓vmQA, vmR, vmRA, ↓vmSA, vmSV, tyS, nuE, SubA.skip, SubA.refl, fr.2, vbRpa, ↓sA_usd, ↓sA_ust, rIs_v, z1, lt7, li7, m00, m10, hbk1, f4, h7', we8]
  clear nuE fr
  refine CallA.newX (rList_n A L (some ⟨bk, off, none⟩) lcap hL0 hl hend hwf (W1.2.1 + 1) hi8) (SubA.trans d1A.right (hs2 _ _ _ y6 y9)) ?_
  rintro w B2 ⟨v2, rfl, ho2⟩ hdB2
  generalize kindsX (L.drop (W1.2.1 + 1)) (W1.2.1 + 1) [] = W2 at hO hK2 ho2 ⊢
  have d2A : Dis B2 (B1 ++ A) := Dis.subr hdB2 (hs2 _ _ _ y6 y9)
  have hbk2 : Vm.look (B2 ++ (B1 ++ A)) bk = some (.cells cs ty fr0) := d2A.right _ _ hbk1
  have z6 : Vm.look (B2 ++ (B1 ++ A)) b6 = none := look_app_none (hdB2 b6 (by simp [Vm.look, dst_])) y6
  have z9 : Vm.look (B2 ++ (B1 ++ A)) b9 = none := look_app_none (hdB2 b9 (by simp [Vm.look, dst_])) y9
  refine ⟨(b9, rB (bs (tx x1)) x2.n x3.n x4.n x5.n) :: (b6, rzB) :: (B2 ++ (B1 ++ A)), SubA.cons (hdB2.right _ _ (by simp [Vm.look, dst_, rB])) (SubA.cons (hdB2.right _ _ (by simp [Vm.look, dst_, rzB])) (SubA.both (SubA.left B2 _) (SubA.trans (hs2 _ _ _ y6 y9) hdB2.right))), ?_⟩
  simp only [rB, rzB]
  intro ν fr; have nuE := And.intro (fr.mem (b := b9) (by simp)) (And.intro (fr.mem (b := b6) (by simp)) (And.intro dst_ fr.nu))
  have sA : SubA A (B2 ++ (B1 ++ A)) := SubA.trans d1A.right d2A.right
  by_cases z2 : W2.1 = 0
  rotate_left
  · have hq : oneX L i (F.map Rs.d) = (W2.1, W2.2.1, noRn) := by rw [hO]; unfold thrX; rw [if_pos z2]
    simp (maxDischargeDepth := 16) only [argE_nil, argE_cons, ↓vmD, vmV, vmStd, Nat.reduceMul, ↓reduceIte, Nat.reduceAdd, Nat.reduceSub, Nat.reduceEqDiff, Nat.reduceLT, Nat.reduceLeDiff, reduceCtorEq, Int.reduceToNat, Int.reduceLT, Int.reduceLE, Int.reduceEq, Int.reduceNeg, Int.reduceBEq, Int.reduceBNe, String.reduceEq, forall_const, ↓vmDA, vmVA, ↓vmQA, vmR, vmRA, ↓vmSA, vmSV, tyS, nuE, SubA.skip, SubA.refl, fr.2, vbRpa, ↓sA_usd, ↓sA_ust, rIs_v, eq_false z2]
    refine RoP.err hq z2 ?_ ⟨⟨tx x1, x2.n, x3.n, x4.n, x5.n, [], []⟩, none, 0, none, 0⟩
    exact SubA.trans sA (hs2 _ _ _ z6 z9)
  obtain ⟨x8, hx8⟩ : ∃ x, L[W2.2.1]? = some x := ⟨_, List.getElem?_eq_getElem hK2⟩
  have lt8 : (((W2.2.1 : Nat) : Int) < (L.length : Int)) = True := eq_true (by omega)
  have li8 : (((W2.2.1 : Nat) : Int) < 0) = False := eq_false (by omega)
  obtain ⟨f0, f1, f2, f3, f4⟩ := cell W2.2.1 x8 hx8
  unfold thrX at hO
  rw [lxA_of hx8, if_neg (by simp [z2])] at hO
  cases h8 : isL x8 4 ⟨#[59]⟩ with
  | false =>
    rw [h8, if_pos rfl] at hO
    simp (maxDischargeDepth := 16) only [argE_nil, argE_cons, ↓vmD, vmV, vmStd, Nat.reduceMul, ↓reduceIte, Nat.reduceAdd, Nat.reduceSub, Nat.reduceEqDiff, Nat.reduceLT, Nat.reduceLeDiff, reduceCtorEq, Int.reduceToNat, Int.reduceLT, Int.reduceLE, Int.reduceEq, Int.reduceNeg, Int.reduceBEq, Int.reduceBNe, String.reduceEq, forall_const, ↓vmDA, vmVA, ↓vmQA, vmR, vmRA, ↓vmSA, vmSV, tyS, nuE, SubA.skip, SubA.refl, fr.2, vbRpa, ↓sA_usd, ↓sA_ust, rIs_v, z2, lt8, li8, m00, m10, hbk2, f4, h8]
    refine RoP.err hO (by decide) ?_ ⟨⟨tx x1, x2.n, x3.n, x4.n, x5.n, [], []⟩, none, 0, none, 0⟩
    exact SubA.trans sA (hs2 _ _ _ z6 z9)
  | true =>
  rw [h8, if_neg (by simp)] at hO
  have hi9 := hend W2.2.1 x8 hx8 (by rw [isL_k h8]; decide)
  have we9 : IntKind.i64.wrap (((W2.2.1 : Nat) : Int) + 1) = ((W2.2.1 + 1 : Nat) : Int) := by rw [w_i64 (by omega) (by omega)]; omega
  obtain ⟨q1, k1, rfl, hq1⟩ := own_tx ho1
  obtain ⟨q2, k2, rfl, hq2⟩ := own_tx ho2
  simp (maxDischargeDepth := 16) only [argE_nil, argE_cons, ↓vmD, vmV, vmStd, Nat.reduceMul, ↓reduceIte, Nat.reduceAdd, Nat.reduceSub, Nat.reduceEqDiff, Nat.reduceLT, Nat.reduceLeDiff, reduceCtorEq, Int.reduceToNat, Int.reduceLT, Int.reduceLE, Int.reduceEq, Int.reduceNeg, Int.reduceBEq, Int.reduceBNe, String.reduceEq, forall_const, ↓vmDA, vmVA, ↓vmQA, vmR, vmRA, ↓vmSA, vmSV, tyS, nuE, SubA.skip, SubA.refl, fr.2, vbRpa, ↓sA_usd, ↓sA_ust, rIs_v, z2, lt8, li8, m00, m10, hbk2, f4, h8, we9]
  clear nuE fr
  rw [hO]
  have d21 : Dis B2 B1 := Dis.subr d2A (SubA.left _ _)
  refine .inr ⟨rfl, ⟨⟨tx x1, x2.n, x3.n, x4.n, x5.n, W1.2.2, W2.2.2⟩, q1, k1, q2, k2⟩, B2 ++ B1, rfl, rfl, ⟨hq1.mono d21.right, hq2.mono (SubA.left _ _)⟩, hi9, Dis.app (Dis.subr d2A d1A.right) d1A, ?_⟩
  rw [List.append_assoc]
  exact hs2 _ _ _ z6 z9

theorem rOne_n (A : AH) (L : List LR) (lp : Option Addr) (lcap : Nat) (hL : StR LR.cells 4 A lp L) (hl : L.length ≤ 100000) (hend : EndL L) (hwf : ∀ x ∈ L, x.k = 1 → nameF x.t = true) (i : Nat) (hi : i < L.length) (F : List Rs) (fp : Option Addr) (fcap : Nat) (hF : RsR A fp F) (hFl : F.length ≤ 32) : CallA Tryd.prog 46 #[.slice lp L.length lcap, .int .i64 (i : Int), .slice fp F.length fcap] A fun u D => ∃ w B, u = w ∧ (∃ r : Rs, w = .tuple #[.agg (rsC r).toArray, .int .i64 ((oneX L i (F.map Rs.d)).2.1 : Int), .int .i64 (oneX L i (F.map Rs.d)).1] ∧ ((oneX L i (F.map Rs.d)).1 = 0 → r.d = (oneX L i (F.map Rs.d)).2.2 ∧ InR B r ∧ (oneX L i (F.map Rs.d)).2.1 < L.length)) ∧ Dis B A ∧ SubA (B ++ A) D :=
  (rOne_h A L lp lcap hL hl hend hwf i hi F fp fcap hF hFl).mono fun u D h => by
    rcases h with ⟨h0, hs, r, h⟩ | ⟨h0, r, B, h1, h2, h3, h4, h5, h6⟩
    · exact ⟨u, [], rfl, ⟨r, h, fun e => absurd e h0⟩, Dis.nil _, hs⟩
    · exact ⟨u, B, rfl, ⟨r, by rw [h0]; exact h1, fun _ => ⟨h2, h3, h4⟩⟩, h5, h6⟩
theorem scan_nm {s : ByteArray} (h0 : (scanF s).1 = 0) : ∀ x ∈ (scanF s).2.2, x.k = 1 → nameF x.t = true := by
  obtain ⟨K, hS, hK, _⟩ := scan_out h0
  rw [hS]
  intro x hx hk
  rcases List.mem_append.1 hx with h | h
  · rcases hK x h with ⟨_, _, h3, h4, c, l, h5, h6⟩ | ⟨h1, _⟩ | ⟨h1, _⟩ | ⟨h1, _⟩
    · have hsz := size_list x.t
      have hl : x.t.toList.length = l.length + 1 := by rw [h5]; rfl
      simp only [nameF, Bool.and_eq_true, decide_eq_true_eq]
      refine ⟨by omega, by omega, ?_, by omega⟩
      rw [h5]; exact h6
    all_goals omega
  · simp at h
    subst h
    exact absurd hk (by simp [endR])
theorem oneX_lt {L : List LR} (hend : EndL L) {i : Nat} (hi : i < L.length) (F : List Rn) : (oneX L i F).2.1 < L.length := by
  have step : ∀ j, j < L.length → (lxA L j).k ≠ 0 → j + 1 < L.length := fun j hj hk => by
    obtain ⟨x, hx⟩ : ∃ x, L[j]? = some x := ⟨_, List.getElem?_eq_getElem hj⟩
    rw [lxA_of hx] at hk
    exact hend j x hx hk
  have nk : ∀ x : LR, ¬ numE x ≠ 0 → x.k = 2 := fun x h => by
    unfold numE at h
    split at h
    · exact absurd (by decide) h
    · rename_i q; omega
  unfold oneX
  split
  · exact hi
  rename_i h1
  have hi1 := step i hi (by rw [isL_k (by simpa using h1)]; decide)
  split
  · exact hi
  split
  · exact hi1
  rename_i hk1
  have hi2 := step (i + 1) hi1 (by omega)
  split
  · exact hi1
  split
  · exact hi2
  rename_i n2
  have hi3 := step (i + 2) hi2 (by rw [nk _ n2]; decide)
  split
  · exact hi3
  rename_i n3
  have hi4 := step (i + 3) hi3 (by rw [nk _ n3]; decide)
  split
  · exact hi4
  rename_i n4
  have hi5 := step (i + 4) hi4 (by rw [nk _ n4]; decide)
  split
  · exact hi5
  rename_i n5
  have hi6 := step (i + 5) hi5 (by rw [nk _ n5]; decide)
  have k1 := kindsW_lt hend hi6 (w := claimT)
  unfold twoX
  split
  · exact k1
  have k2 := kindsW_lt hend k1 (w := defenceT)
  unfold thrX
  split
  · exact k2
  split
  · exact k2
  rename_i h8
  exact step _ k2 (by rw [isL_k (by simpa using h8)]; decide)
theorem rParse_h (A : AH) (s : ByteArray) (hs : s.size ≤ 100000) : CallA Tryd.prog 26 #[.string s] A (fun u_ A_ => PaP A u_ A_ (parseF s)) := by
  refine callA_of_denA ⟨Tryd.prog, 26, Tryd.f26, 51, [0, 2, 3, 4, 5, 6, 7, 8, 9, 10, 11, 12], [45, 46], [(9, .q false)], _⟩ (args := [_]) Tryd.func26 rfl (by kernel_rfl) Tryd.ntmps26 (by simp) (by kernel_rfl) ?_
  intro ν fr; have nuE := fr.nu
  have bad : ∀ {D : AH} {e a : Int}, SubA A D → parseF s = (e, a, []) → PaP A (.tuple #[.slice none 0 0, .int .i64 e, .int .i64 a]) D (parseF s) := fun hD hq => by
    rw [hq]
    exact ⟨_, [], [], [], rfl, OwnL.nil _ _ _, (fun r hr => by cases hr), rfl, ⟨⟨Dis.nil _, Dis.nil _, trivial⟩, ⟨Dis.nil _, trivial⟩, Sep.one _⟩, hD⟩
  simp (maxDischargeDepth := 16) only [argE_nil, argE_cons, ↓vmD, vmV, vmStd, Nat.reduceMul, ↓reduceIte, Nat.reduceAdd, Nat.reduceSub, Nat.reduceEqDiff, Nat.reduceLT, Nat.reduceLeDiff, reduceCtorEq, Int.reduceToNat, Int.reduceLT, Int.reduceLE, Int.reduceEq, Int.reduceNeg, Int.reduceBEq, Int.reduceBNe, String.reduceEq, forall_const, ↓vmDA, vmVA, ↓vmQA, vmR, vmRA, ↓vmSA, vmSV, tyS, nuE, SubA.skip, SubA.refl, fr.2, vbRpa, ↓sA_usd, ↓sA_ust, rIs_v]
  clear nuE fr
  refine CallA.newX (rscan_a A s hs) (SubA.refl _) ?_
  rintro u LB ⟨w, rfl, hoL⟩ hdL
  by_cases h0 : (scanF s).1 = 0
  rotate_left
  · refine ⟨A, hdL.right, ?_⟩
    intro ν fr; have nuE := fr.nu
    simp (maxDischargeDepth := 16) only [argE_nil, argE_cons, ↓vmD, vmV, vmStd, Nat.reduceMul, ↓reduceIte, Nat.reduceAdd, Nat.reduceSub, Nat.reduceEqDiff, Nat.reduceLT, Nat.reduceLeDiff, reduceCtorEq, Int.reduceToNat, Int.reduceLT, Int.reduceLE, Int.reduceEq, Int.reduceNeg, Int.reduceBEq, Int.reduceBNe, String.reduceEq, forall_const, ↓vmDA, vmVA, ↓vmQA, vmR, vmRA, ↓vmSA, vmSV, tyS, nuE, SubA.skip, SubA.refl, fr.2, vbRpa, ↓sA_usd, ↓sA_ust, rIs_v, eq_false h0]
    exact bad (SubA.refl _) (by unfold parseF; rw [if_pos h0])
  have hP : parseF s = parsG (scanF s).2.2 33 0 [] := by unfold parseF; rw [if_neg (by simp [h0])]
  obtain ⟨K, hS, _, _, hlen⟩ := scan_out h0
  have hend := scan_end h0
  have hwf := scan_nm h0
  have hpos : 0 < (scanF s).2.2.length := by rw [hS]; simp
  generalize (scanF s).2.2 = L at hP hoL hlen hend hwf hpos ⊢
  obtain ⟨lp, lcap, rfl, hlc, hL⟩ := OwnL.read (f := LR.cells) (n := 4) (fun x => rfl) hoL
  clear hS hoL
  refine ⟨cat [LB, A], SubA.refl _, ?_⟩
  have sp0 : Sep [LB, A] := Sep.cons hdL (Sep.one A)
  intro ν fr; have nuE := fr.nu
  simp (maxDischargeDepth := 16) only [argE_nil, argE_cons, ↓vmD, vmV, vmStd, Nat.reduceMul, ↓reduceIte, Nat.reduceAdd, Nat.reduceSub, Nat.reduceEqDiff, Nat.reduceLT, Nat.reduceLeDiff, reduceCtorEq, Int.reduceToNat, Int.reduceLT, Int.reduceLE, Int.reduceEq, Int.reduceNeg, Int.reduceBEq, Int.reduceBNe, String.reduceEq, forall_const, ↓vmDA, vmVA, ↓vmQA, vmR, vmRA, ↓vmSA, vmSV, tyS, nuE, SubA.skip, SubA.refl, fr.2, vbRpa, ↓sA_usd, ↓sA_ust, rIs_v, h0]
  clear nuE fr
  obtain ⟨i, n, v, F, VB, Y, hi0, hv, hF0, hVB, hY0, hn, h32, ho, hY, hi, sp, hG⟩ : ∃ (i n : Nat) (v : Value) (F : List Rs) (VB Y : AH), i = 0 ∧ v = .slice none 0 0 ∧ F = [] ∧ VB = [] ∧ Y = [] ∧ n + F.length = 33 ∧ F.length ≤ 32 ∧ OwnL rsC 7 27 v VB F ∧ (∀ r ∈ F, InR Y r ∧ r.d.cl.length ≤ 8 ∧ r.d.df.length ≤ 8) ∧ i < L.length ∧ Sep [VB, Y, LB, A] ∧ parseF s = parsG L n i (F.map Rs.d) :=
    ⟨0, 33, _, [], [], [], rfl, rfl, rfl, rfl, rfl, rfl, by simp, OwnL.nil _ _ _, (fun r hr => by cases hr), hpos, ⟨⟨Dis.nil _, Dis.nil _, Dis.nil _, trivial⟩, ⟨Dis.nil _, Dis.nil _, trivial⟩, sp0⟩, hP⟩
  rw [show (8, some (Value.slice none 0 0)) = (8, some v) by rw [hv], show (9, some (Value.int .i64 0)) = (9, some (Value.int .i64 (i : Int))) by rw [hi0]; rfl]
  refine LoopA.at (A := cat [VB, Y, LB, A]) (by subst hVB; subst hY0; exact SubA.refl _) ?_
  clear hi0 hv hF0 hVB hY0 hP hpos sp0
  induction n generalizing i v F VB Y with
  | zero => omega
  | succ n ih =>
    obtain ⟨x, hx⟩ : ∃ x, L[i]? = some x := ⟨_, List.getElem?_eq_getElem hi⟩
    have hxa := lxA_of hx
    have hL' : StR LR.cells 4 (cat [VB, Y, LB, A]) lp L := hL.mono (Sep.subs sp [2] rfl)
    obtain ⟨bk, off, cs, ty, fr0, rfl, hbk, hcr, hcc⟩ := hL'.at hx
    have g0 : cs[off + i * 4]? = some (.int .i64 x.k) := hcc 0 _ rfl
    have lt : ((i : Int) < (L.length : Int)) = True := eq_true (by omega)
    have li : ((i : Int) < 0) = False := eq_false (by omega)
    simp only [cat] at hbk
    refine LoopA.intro (by kernel_rfl) ?_
    intro ν fr; have nuE := fr.nu
    by_cases hk : x.k = 0
    · have hR : parseF s = (0, 0, F.map Rs.d) := by rw [hG]; simp only [parsG]; rw [hxa, if_pos hk]
      have e1 : (x.k != 0) = false := by simp [hk]
      rw [hR]
      simp only [cat]
      simp (maxDischargeDepth := 16) only [argE_nil, argE_cons, ↓vmD, vmV, vmStd, Nat.reduceMul, ↓reduceIte, Nat.reduceAdd, Nat.reduceSub, Nat.reduceEqDiff, Nat.reduceLT, Nat.reduceLeDiff, reduceCtorEq, Int.reduceToNat, Int.reduceLT, Int.reduceLE, Int.reduceEq, Int.reduceNeg, Int.reduceBEq, Int.reduceBNe, String.reduceEq, forall_const, ↓vmDA, vmVA, ↓vmQA, vmR, vmRA, ↓vmSA, vmSV, tyS, nuE, SubA.skip, SubA.refl, fr.2, vbRpa, ↓sA_usd, ↓sA_ust, rIs_v, lt, li, hbk, g0, e1, eq_true hk]
      exact ⟨v, F, VB, Y, rfl, ho, hY, rfl, Sep.pick sp [0, 1, 3] rfl rfl, Sep.subs sp [0, 1, 3] rfl⟩
    have e1 : (x.k != 0) = true := by simp [hk]
    obtain ⟨qp, qcap, rfl, hqc, hqs⟩ := ho.read rsC_len
    have hRs : RsR (cat [VB, Y, LB, A]) qp F := ⟨hqs.mono (Sep.subs sp [0] rfl), fun r hr => (hY r hr).1.mono (Sep.subs sp [1] rfl)⟩
    simp only [cat]
    simp (maxDischargeDepth := 16) only [argE_nil, argE_cons, ↓vmD, vmV, vmStd, Nat.reduceMul, ↓reduceIte, Nat.reduceAdd, Nat.reduceSub, Nat.reduceEqDiff, Nat.reduceLT, Nat.reduceLeDiff, reduceCtorEq, Int.reduceToNat, Int.reduceLT, Int.reduceLE, Int.reduceEq, Int.reduceNeg, Int.reduceBEq, Int.reduceBNe, String.reduceEq, forall_const, ↓vmDA, vmVA, ↓vmQA, vmR, vmRA, ↓vmSA, vmSV, tyS, nuE, SubA.skip, SubA.refl, fr.2, vbRpa, ↓sA_usd, ↓sA_ust, rIs_v, lt, li, hbk, g0, e1, eq_false hk]
    clear nuE fr
    refine CallA.newX (rOne_n (cat [VB, Y, LB, A]) L (some ⟨bk, off, none⟩) lcap hL' (by omega) hend hwf i hi F qp qcap hRs (by omega)) (SubA.refl _) ?_
    rintro w B ⟨r, rfl, hr⟩ hdB
    have hj := oneX_lt hend hi (F.map Rs.d)
    have e2 : Vm.look (B ++ cat [VB, Y, LB, A]) bk = some (.cells cs ty fr0) := hdB.right _ _ (by simpa only [cat] using hbk)
    by_cases h1 : (oneX L i (F.map Rs.d)).1 = 0
    rotate_left
    · have hR : parseF s = ((oneX L i (F.map Rs.d)).1, ((lxA L (oneX L i (F.map Rs.d)).2.1).a : Int), []) := by rw [hG]; simp only [parsG]; rw [hxa, if_neg hk, if_pos h1]
      generalize oneX L i (F.map Rs.d) = q at *
      obtain ⟨y, hy⟩ : ∃ y, L[q.2.1]? = some y := ⟨_, List.getElem?_eq_getElem hj⟩
      rw [lxA_of hy] at hR
      obtain ⟨bk2, off2, cs2, ty2, fr2, hp2, hbk2, hcr2, hcc2⟩ := hL'.at hy
      cases hp2
      have hbk3 : Vm.look A bk = none ∨ True := .inr trivial
      have g3 : cs2[off + q.2.1 * 4 + 3]? = some (.int .i64 y.a) := hcc2 3 _ rfl
      have lt2 : ((q.2.1 : Int) < (L.length : Int)) = True := eq_true (by omega)
      have li2 : ((q.2.1 : Int) < 0) = False := eq_false (by omega)
      have e3 : Vm.look (B ++ cat [VB, Y, LB, A]) bk = some (.cells cs2 ty2 fr2) := hdB.right _ _ hbk2
      refine ⟨B ++ cat [VB, Y, LB, A], SubA.refl _, ?_⟩
      intro ν fr; have nuE := fr.nu
      have n0 : (ν 0 = bk) = False := (look_ne (fr.2 0) e3).1
      simp (maxDischargeDepth := 16) only [argE_nil, argE_cons, ↓vmD, vmV, vmStd, Nat.reduceMul, ↓reduceIte, Nat.reduceAdd, Nat.reduceSub, Nat.reduceEqDiff, Nat.reduceLT, Nat.reduceLeDiff, reduceCtorEq, Int.reduceToNat, Int.reduceLT, Int.reduceLE, Int.reduceEq, Int.reduceNeg, Int.reduceBEq, Int.reduceBNe, String.reduceEq, forall_const, ↓vmDA, vmVA, ↓vmQA, vmR, vmRA, ↓vmSA, vmSV, tyS, nuE, SubA.skip, SubA.refl, fr.2, vbRpa, ↓sA_usd, ↓sA_ust, rIs_v, rsC, eq_false h1, e3, n0, g3, lt2, li2]
      refine bad ?_ hR
      exact SubA.skip (show Vm.look A (ν 0) = none from ((Sep.subs sp [3] rfl).none (hdB.right.none (fr.2 0)))) (SubA.trans (Sep.subs sp [3] rfl) hdB.right)
    obtain ⟨f32, b8, c8⟩ := oneX_facts h1
    rw [List.length_map] at f32
    have hR : parseF s = parsG L n (oneX L i (F.map Rs.d)).2.1 ((F ++ [r]).map Rs.d) := by rw [hG]; simp only [parsG]; rw [hxa, if_neg hk, if_neg (by simp [h1]), List.map_append, ← (hr h1).1]; rfl
    obtain ⟨hrd, hrB, _⟩ := hr h1
    generalize hq : oneX L i (F.map Rs.d) = q at *
    have st1 : Sep [B, VB, Y, LB, A] := Sep.cons hdB sp
    refine ⟨cat [VB, B, Y, LB, A], Sep.subs st1 [1, 0, 2, 3, 4] rfl, ?_⟩
    have st2 : Sep [VB, B, Y, LB, A] := Sep.pick st1 [1, 0, 2, 3, 4] rfl rfl
    intro ν fr; have nuE := fr.nu
    simp (maxDischargeDepth := 16) only [argE_nil, argE_cons, ↓vmD, vmV, vmStd, Nat.reduceMul, ↓reduceIte, Nat.reduceAdd, Nat.reduceSub, Nat.reduceEqDiff, Nat.reduceLT, Nat.reduceLeDiff, reduceCtorEq, Int.reduceToNat, Int.reduceLT, Int.reduceLE, Int.reduceEq, Int.reduceNeg, Int.reduceBEq, Int.reduceBNe, String.reduceEq, forall_const, ↓vmDA, vmVA, ↓vmQA, vmR, vmRA, ↓vmSA, vmSV, tyS, nuE, SubA.skip, SubA.refl, fr.2, vbRpa, ↓sA_usd, ↓sA_ust, rIs_v, rsC, sc_rs, h1]
    have w0 : Vm.look (cat [VB, B, Y, LB, A]) (ν 0) = none := fr.2 0
    have w1 : Vm.look (cat [VB, B, Y, LB, A]) (ν 1) = none := fr.2 1
    have h01 : (ν 0 = ν 1) = False := by simp [nuE]
    have sF : ∀ X o1 o2, SubA X (cat [VB, B, Y, LB, A]) → SubA X ((ν 1, o2) :: (ν 0, o1) :: cat [VB, B, Y, LB, A]) := fun X o1 o2 h => SubA.trans h (SubA.trans (SubA.fresh w0 (SubA.refl _)) (SubA.fresh (look_c1 h01 w1) (SubA.refl _)))
    refine RunA.use ?_
    refine append_src (m := 1) (news := rsC r) (B := VB) slc22 zro27 rfl (by decide) ho (sF VB _ _ (Sep.subs st2 [0] rfl)) (.inr ⟨ν 1, 0, rfl, by simp (maxDischargeDepth := 16) only [argE_nil, argE_cons, ↓vmD, vmV, vmStd, Nat.reduceMul, ↓reduceIte, Nat.reduceAdd, Nat.reduceSub, Nat.reduceEqDiff, Nat.reduceLT, Nat.reduceLeDiff, reduceCtorEq, Int.reduceToNat, Int.reduceLT, Int.reduceLE, Int.reduceEq, Int.reduceNeg, Int.reduceBEq, Int.reduceBNe, String.reduceEq, forall_const, ↓vmDA, vmVA, ↓vmQA, vmR, vmRA, ↓vmSA, vmSV, tyS, nuE, SubA.skip, SubA.refl, fr.2, vbRpa, ↓sA_usd, ↓sA_ust, rIs_v, rsC]⟩) (by simp [rsC, Value.oneCell']) (by simp only [maxLen]; omega) (by omega) ?_
    intro v' VB' ho' hb'
    have ho2 := rs_app ho'
    have dO : Dis VB' (cat [B, Y, LB, A]) := ap_dis hb' (Sep.dis st2) (sF _ _ _ (Sep.subs st2 [1, 2, 3, 4] rfl))
    have st3 : Sep [VB', B, Y, LB, A] := Sep.cons dO (Sep.pick st2 [1, 2, 3, 4] rfl rfl)
    refine ⟨cat [VB', B, Y, LB, A], SubA.app (sF _ _ _ (Sep.subs st2 [1, 2, 3, 4] rfl)), ?_⟩
    clear nuE fr w0 w1 h01 sF
    intro ν fr; have nuE := fr.nu
    simp (maxDischargeDepth := 16) only [argE_nil, argE_cons, ↓vmD, vmV, vmStd, Nat.reduceMul, ↓reduceIte, Nat.reduceAdd, Nat.reduceSub, Nat.reduceEqDiff, Nat.reduceLT, Nat.reduceLeDiff, reduceCtorEq, Int.reduceToNat, Int.reduceLT, Int.reduceLE, Int.reduceEq, Int.reduceNeg, Int.reduceBEq, Int.reduceBNe, String.reduceEq, forall_const, ↓vmDA, vmVA, ↓vmQA, vmR, vmRA, ↓vmSA, vmSV, tyS, nuE, SubA.skip, SubA.refl, fr.2, vbRpa, ↓sA_usd, ↓sA_ust, rIs_v]
    have dBY : Dis B Y := st3.2.1.1
    have st4 : Sep [VB', B ++ Y, LB, A] := by
      have h5 : Sep ([VB', LB, A] ++ [cat [B, Y]]) := Sep.coarse (a := [_, _, _]) (m := [B, Y]) (Sep.pick st3 [0, 3, 4, 1, 2] rfl rfl)
      exact Sep.pick h5 [0, 3, 1, 2] rfl rfl
    refine LoopA.at (A := cat [VB', B ++ Y, LB, A]) ?_ ?_
    · simp only [cat, List.cons_append, List.nil_append, List.append_assoc]
      exact SubA.refl _
    refine LoopA.weak (ih q.2.1 v' (F ++ [r]) VB' (B ++ Y) (by simp; omega) (by simp; omega) ho2 (fun z hz => ?_) hj st4 hR) (by simp only [subE, get_cons, Nat.reduceEqDiff, ↓reduceIte, reduceCtorEq, Nat.reduceAdd, and_self, and_true]) (SubA.refl _)
    rcases List.mem_append.1 hz with h | h
    · exact ⟨(hY z h).1.mono dBY.right, (hY z h).2⟩
    · simp at h
      subst h
      exact ⟨hrB.mono (SubA.left _ _), by rw [hrd]; exact b8, by rw [hrd]; exact c8⟩

theorem parsG_len (L : List LR) : ∀ (n i : Nat) (out : List Rn), out.length ≤ 32 → (parsG L n i out).2.2.length ≤ 32
  | 0, _, _, h => h
  | n + 1, i, out, h => by
    simp only [parsG]
    split
    · exact h
    · split
      · simp
      · rename_i q
        have := (oneX_facts (by simpa using q)).1
        exact parsG_len L n _ _ (by simp; omega)
theorem parseF_len (s : ByteArray) : (parseF s).2.2.length ≤ 32 := by
  unfold parseF
  split
  · simp
  · exact parsG_len _ _ _ _ (by simp)
theorem rparse_n (A : AH) (s : ByteArray) (hs : s.size ≤ 100000) : CallA Tryd.prog 26 #[.string s] A fun u D => ∃ v B, u = v ∧ (∃ p cap F, v = .tuple #[.slice p F.length cap, .int .i64 (parseF s).1, .int .i64 (parseF s).2.1] ∧ RsR B p F ∧ F.map Rs.d = (parseF s).2.2 ∧ F.length ≤ 32) ∧ Dis B A ∧ SubA (B ++ A) D :=
  (rParse_h A s hs).mono fun u D ⟨v, F, VB, Y, h1, h2, h3, h4, h5, h6⟩ => by
    obtain ⟨p, cap, rfl, k1, k2⟩ := h2.read rsC_len
    have d : Dis VB Y := h5.1.1
    have h32 : F.length ≤ 32 := by
      have : (parseF s).2.2.length ≤ 32 := parseF_len s
      rw [← h4] at this
      simpa using this
    refine ⟨u, VB ++ Y, rfl, ⟨p, cap, F, h1, ⟨k2.mono (SubA.left _ _), fun r hr => (h3 r hr).1.mono d.right⟩, h4, h32⟩, Dis.app h5.1.2.1 h5.2.1.1, ?_⟩
    simpa only [cat, List.append_assoc] using h6
theorem parsesLaw_h (A : AH) (hT : TabA A) (s : ByteArray) : CallA Tryd.prog 5 #[.string s] A (fun u_ A_ => u_ = .bool true ∧ SubA A A_) := by
  refine callA_of_denA ⟨Tryd.prog, 5, Tryd.f5, 41, [0, 2, 3, 4, 5, 6, 7, 8], [10, 25, 26], [], _⟩ (args := [_]) Tryd.func5 rfl (by kernel_rfl) Tryd.ntmps5 (by simp) (by kernel_rfl) ?_
  intro ν fr; have nuE := fr.nu
  by_cases h2 : (2000 : Int) < (s.size : Int)
  · simp (maxDischargeDepth := 16) only [argE_nil, argE_cons, ↓vmD, vmV, vmStd, Nat.reduceMul, ↓reduceIte, Nat.reduceAdd, Nat.reduceSub, Nat.reduceEqDiff, Nat.reduceLT, Nat.reduceLeDiff, reduceCtorEq, Int.reduceToNat, Int.reduceLT, Int.reduceLE, Int.reduceEq, Int.reduceNeg, Int.reduceBEq, Int.reduceBNe, String.reduceEq, forall_const, ↓vmDA, vmVA, ↓vmQA, vmR, vmRA, ↓vmSA, vmSV, tyS, nuE, SubA.skip, SubA.refl, fr.2, vbRpa, ↓sA_usd, ↓sA_ust, rIs_v, eq_true h2]
    clear nuE fr
    refine CallA.newX (awk_n A hT) (SubA.refl A) ?_
    rintro v B rfl hd
    refine ⟨A, hd.right, ?_⟩
    intro ν fr; have nuE := fr.nu
    simp (maxDischargeDepth := 16) only [argE_nil, argE_cons, ↓vmD, vmV, vmStd, Nat.reduceMul, ↓reduceIte, Nat.reduceAdd, Nat.reduceSub, Nat.reduceEqDiff, Nat.reduceLT, Nat.reduceLeDiff, reduceCtorEq, Int.reduceToNat, Int.reduceLT, Int.reduceLE, Int.reduceEq, Int.reduceNeg, Int.reduceBEq, Int.reduceBNe, String.reduceEq, forall_const, ↓vmDA, vmVA, ↓vmQA, vmR, vmRA, ↓vmSA, vmSV, tyS, nuE, SubA.skip, SubA.refl, fr.2, vbRpa, ↓sA_usd, ↓sA_ust, rIs_v]
  simp (maxDischargeDepth := 16) only [argE_nil, argE_cons, ↓vmD, vmV, vmStd, Nat.reduceMul, ↓reduceIte, Nat.reduceAdd, Nat.reduceSub, Nat.reduceEqDiff, Nat.reduceLT, Nat.reduceLeDiff, reduceCtorEq, Int.reduceToNat, Int.reduceLT, Int.reduceLE, Int.reduceEq, Int.reduceNeg, Int.reduceBEq, Int.reduceBNe, String.reduceEq, forall_const, ↓vmDA, vmVA, ↓vmQA, vmR, vmRA, ↓vmSA, vmSV, tyS, nuE, SubA.skip, SubA.refl, fr.2, vbRpa, ↓sA_usd, ↓sA_ust, rIs_v, eq_false h2]
  clear nuE fr
  refine CallA.newX (parse_n A s (by omega)) (SubA.refl A) ?_
  rintro v1 B1 ⟨p1, c1, F1, rfl, hR1, hd1, hc1, hb1⟩ hdB
  refine ⟨B1 ++ A, SubA.refl _, ?_⟩
  intro ν fr; have nuE := fr.nu
  simp (maxDischargeDepth := 16) only [argE_nil, argE_cons, ↓vmD, vmV, vmStd, Nat.reduceMul, ↓reduceIte, Nat.reduceAdd, Nat.reduceSub, Nat.reduceEqDiff, Nat.reduceLT, Nat.reduceLeDiff, reduceCtorEq, Int.reduceToNat, Int.reduceLT, Int.reduceLE, Int.reduceEq, Int.reduceNeg, Int.reduceBEq, Int.reduceBNe, String.reduceEq, forall_const, ↓vmDA, vmVA, ↓vmQA, vmR, vmRA, ↓vmSA, vmSV, tyS, nuE, SubA.skip, SubA.refl, fr.2, vbRpa, ↓sA_usd, ↓sA_ust, rIs_v]
  clear nuE fr
  refine CallA.newX (rparse_n (B1 ++ A) s (by omega)) (SubA.refl _) ?_
  rintro v2 B2 ⟨p2, c2, F2, rfl, hR2, hd2, h32⟩ hdB2
  refine ⟨B2 ++ (B1 ++ A), SubA.refl _, ?_⟩
  have hl1 : F1.length = F2.length := by have := congrArg List.length (hd1.trans hd2.symm); simpa using this
  have e7 := eqTab_v (B2 ++ (B1 ++ A)) F1 F2 p1 c1 p2 c2 (hR1.mono (SubA.trans (SubA.left _ _) hdB2.right)) (hR2.mono (SubA.left _ _)) (hd1.trans hd2.symm) (by omega)
  intro ν fr; have nuE := fr.nu
  simp (maxDischargeDepth := 16) only [argE_nil, argE_cons, ↓vmD, vmV, vmStd, Nat.reduceMul, ↓reduceIte, Nat.reduceAdd, Nat.reduceSub, Nat.reduceEqDiff, Nat.reduceLT, Nat.reduceLeDiff, reduceCtorEq, Int.reduceToNat, Int.reduceLT, Int.reduceLE, Int.reduceEq, Int.reduceNeg, Int.reduceBEq, Int.reduceBNe, String.reduceEq, forall_const, ↓vmDA, vmVA, ↓vmQA, vmR, vmRA, ↓vmSA, vmSV, tyS, nuE, SubA.skip, SubA.refl, fr.2, vbRpa, ↓sA_usd, ↓sA_ust, rIs_v, e7]
  clear nuE fr
  refine CallA.newX (awk_n A hT) (SubA.trans hdB.right hdB2.right) ?_
  rintro v B rfl hd
  refine ⟨A, SubA.trans (SubA.trans hdB.right hdB2.right) hd.right, ?_⟩
  intro ν fr; have nuE := fr.nu
  simp (maxDischargeDepth := 16) only [argE_nil, argE_cons, ↓vmD, vmV, vmStd, Nat.reduceMul, ↓reduceIte, Nat.reduceAdd, Nat.reduceSub, Nat.reduceEqDiff, Nat.reduceLT, Nat.reduceLeDiff, reduceCtorEq, Int.reduceToNat, Int.reduceLT, Int.reduceLE, Int.reduceEq, Int.reduceNeg, Int.reduceBEq, Int.reduceBNe, String.reduceEq, forall_const, ↓vmDA, vmVA, ↓vmQA, vmR, vmRA, ↓vmSA, vmSV, tyS, nuE, SubA.skip, SubA.refl, fr.2, vbRpa, ↓sA_usd, ↓sA_ust, rIs_v]
theorem parsesLaw_w (A : AH) (hT : TabA A) (s : ByteArray) (B_ : AH) (hB_ : SubA A B_) : valA Tryd.prog 5 #[.string s] B_ = some (.bool true) := valA_eq (pureA_at (by kernel_rfl) (parsesLaw_h A hT s) hB_)
theorem parsesLaw_v (A : AH) (hT : TabA A) (s : ByteArray) : valA Tryd.prog 5 #[.string s] A = some (.bool true) := valA_eq (pureA_at (by kernel_rfl) (parsesLaw_h A hT s) (SubA.refl _))
theorem parses_walk (w : World) (ht : Lib.TabIs Tryd.prog w "internal/strconv.uint64pow10" .u64 Lib.pow10Tab) (s : ByteArray) :
    CallsH Tryd.prog 5 #[.string s] w.heap fun e h' => e = .returned (.bool true) ∧ Grew w.heap h' := by
  obtain ⟨B, hB, hT⟩ := TabA.of ht
  exact callsH_of_pure (parsesLaw_v B hT s) (by kernel_rfl) hB
end Go.Proofs.YtamiclgnehfhpaaDoor
