/-
Adjustments: the law of the holder.
Conditions: none.
-/
import Derived.Test.YtejcnpllodgmlaaDoorAdjQ
namespace Go.Proofs.YtejcnpllodgmlaaDoor
open Go.Vm
set_option linter.unusedSimpArgs false
set_option linter.unusedVariables false
set_option maxHeartbeats 4000000
set_option maxRecDepth 20000
theorem last_at : ∀ (L : List Int) (s : Int), L ≠ [] → L[L.length - 1]? = some (lastI L s)
  | [], _, h => absurd rfl h
  | [t], s, _ => rfl
  | t :: u :: l, s, _ => by
    have := last_at (u :: l) t (by simp)
    simp only [lastI, List.length_cons, Nat.add_sub_cancel] at this ⊢
    rw [List.getElem?_cons_succ]
    exact this
theorem holderLaw_h (A : AH) (hT : TabA A) (c : Cs) (r : Rc) (hc : SzC c) (hr : SzR r) (L : List Int) (p : Option Addr) (cap : Nat) (hL : StR intC 1 A p L) (d : Int) : CallA Tryd.prog 3 #[.agg #[.string c.id, .string c.rc, .string c.rs, .string c.is, .string c.aq, .int .i64 c.am, .string c.cu, .int .i64 c.st, .int .i64 c.op, .int .i64 c.du], .agg #[.int .i64 r.kd, .string r.id, .string r.au, .string r.aq, .string r.is, .string r.me, .string r.ca, .int .i64 r.am, .string r.cu, .int .i64 r.da, .int .i64 r.ct, .bool r.fi], .slice p L.length cap, .int .i64 d] A (fun u_ A_ => u_ = .bool true ∧ SubA A A_) := by
  refine callA_of_denA ⟨Tryd.prog, 3, Tryd.f3, 112, [0, 1, 2, 3, 4, 5, 8, 9, 10, 11, 12, 13, 14], [8], [(20, .q false)], _⟩ (args := [_, _, _, _]) Tryd.func3 rfl (by kernel_rfl) Tryd.ntmps3 (by simp) (by kernel_rfl) ?_
  intro ν fr; have nuE := fr.nu
  have aw := awake47_w A hT
  by_cases h : 100 < L.length
  · have q : ((100 : Int) < (L.length : Int)) = True := eq_true (by omega)
    simp (maxDischargeDepth := 16) only [argE_nil, argE_cons, ↓vmD, vmV, vmStd, Nat.reduceMul, ↓reduceIte, Nat.reduceAdd, Nat.reduceSub, Nat.reduceEqDiff, Nat.reduceLT, Nat.reduceLeDiff, reduceCtorEq, Int.reduceToNat, Int.reduceLT, Int.reduceLE, Int.reduceEq, Int.reduceNeg, Int.reduceBEq, Int.reduceBNe, String.reduceEq, forall_const, ↓vmDA, vmVA, ↓vmQA, vmR, vmRA, ↓vmSA, vmSV, tyS, nuE, SubA.skip, SubA.refl, fr.2, slIndexByte_v, indexByte_v, indexRune_v, containsRune_v, classOf_v, isWordByte_v, letter_v, digit_v, wordAt_v, rword_v, isName_v, risName_v, recId_v, rId13_v, moneyCur_v, rCur01_v, inTotal_v, rwithin1_v, exCard_v, recCheck_v, rrecCheck_v, dNext_v, rNext_v, holder_v, rholder_v, foll_v, rfoll_v, rDec_v, rMove_v, exmpl_v, q, aw]
  have q : ((100 : Int) < (L.length : Int)) = False := eq_false (by omega)
  simp (maxDischargeDepth := 16) only [argE_nil, argE_cons, ↓vmD, vmV, vmStd, Nat.reduceMul, ↓reduceIte, Nat.reduceAdd, Nat.reduceSub, Nat.reduceEqDiff, Nat.reduceLT, Nat.reduceLeDiff, reduceCtorEq, Int.reduceToNat, Int.reduceLT, Int.reduceLE, Int.reduceEq, Int.reduceNeg, Int.reduceBEq, Int.reduceBNe, String.reduceEq, forall_const, ↓vmDA, vmVA, ↓vmQA, vmR, vmRA, ↓vmSA, vmSV, tyS, nuE, SubA.skip, SubA.refl, fr.2, slIndexByte_v, indexByte_v, indexRune_v, containsRune_v, classOf_v, isWordByte_v, letter_v, digit_v, wordAt_v, rword_v, isName_v, risName_v, recId_v, rId13_v, moneyCur_v, rCur01_v, inTotal_v, rwithin1_v, exCard_v, recCheck_v, rrecCheck_v, dNext_v, rNext_v, holder_v, rholder_v, foll_v, rfoll_v, rDec_v, rMove_v, exmpl_v, q]
  have f0 := fr.2 0
  have f1 := fr.2 1
  have l0S : Vm.look ((ν 1, (Obj.cells #[.int .i64 r.kd, .string r.id, .string r.au, .string r.aq, .string r.is, .string r.me, .string r.ca, .int .i64 r.am, .string r.cu, .int .i64 r.da, .int .i64 r.ct, .bool r.fi] 27)) :: (ν 0, (Obj.cells #[.string c.id, .string c.rc, .string c.rs, .string c.is, .string c.aq, .int .i64 c.am, .string c.cu, .int .i64 c.st, .int .i64 c.op, .int .i64 c.du] 25)) :: A) (ν 0) = some (Obj.cells #[.string c.id, .string c.rc, .string c.rs, .string c.is, .string c.aq, .int .i64 c.am, .string c.cu, .int .i64 c.st, .int .i64 c.op, .int .i64 c.du] 25) := by simp [Vm.look, nuE]
  refine CallA.go (panMoves_h A hT c r hc hr L p cap hL (by omega) d) (SubA.skip (fr.2 1) (SubA.skip (fr.2 0) (SubA.refl _))) ?_ ?_
  · rintro v D ⟨v', B, _, _, dB, hD⟩
    exact SubA.trans dB.right hD
  rintro u D A1 ⟨v', B, rfl, hown, dB, hD⟩ hDA sS h4
  obtain ⟨q1, vcap, rfl, _, hS⟩ := hown.read Rc.len
  have sB1 := SubA.trans (SubA.trans (SubA.left B _) hD) hDA
  have hS1 := hS.mono sB1
  have sA1 : SubA A A1 := SubA.trans (SubA.skip (fr.2 1) (SubA.skip (fr.2 0) (SubA.refl _))) sS
  have l0 := sS (ν 0) _ l0S
  have l1 := sS (ν 1) _ (by simp only [Vm.look, nuE]; simp; rfl)
  have hBn : Vm.look B (ν 0) = none := by
    cases hb : Vm.look B (ν 0) with
    | none => rfl
    | some o =>
      have h5 := h4 (ν 0) (by rw [hD (ν 0) o (SubA.left B A _ _ hb)]; simp) f0
      rw [l0S] at h5
      cases h5
  have hA1 := hL.mono sA1
  by_cases hE : (movL c r d L 0 []).2 = 0
  rotate_left
  · have qE : ((movL c r d L 0 []).2 != 0) = true := by simpa using hE
    have he := mov_err L 0 [] hE
    have hlen : (movL c r d L 0 []).1.length = 0 := by rw [he]; rfl
    intro ν1 fr1
    have fr := fr1
    have nuE := fr.nu
    simp (maxDischargeDepth := 16) only [argE_nil, argE_cons, ↓vmD, vmV, vmStd, Nat.reduceMul, ↓reduceIte, Nat.reduceAdd, Nat.reduceSub, Nat.reduceEqDiff, Nat.reduceLT, Nat.reduceLeDiff, reduceCtorEq, Int.reduceToNat, Int.reduceLT, Int.reduceLE, Int.reduceEq, Int.reduceNeg, Int.reduceBEq, Int.reduceBNe, String.reduceEq, forall_const, ↓vmDA, vmVA, ↓vmQA, vmR, vmRA, ↓vmSA, vmSV, tyS, nuE, SubA.skip, SubA.refl, fr.2, slIndexByte_v, indexByte_v, indexRune_v, containsRune_v, classOf_v, isWordByte_v, letter_v, digit_v, wordAt_v, rword_v, isName_v, risName_v, recId_v, rId13_v, moneyCur_v, rCur01_v, inTotal_v, rwithin1_v, exCard_v, recCheck_v, rrecCheck_v, dNext_v, rNext_v, holder_v, rholder_v, foll_v, rfoll_v, rDec_v, rMove_v, exmpl_v, l0, l1, qE, hlen, aw, sA1]
  have qE : ((movL c r d L 0 []).2 != 0) = false := by simpa using hE
  have alt := alt_all L 0 [] Alt.s0 hE
  have law := alt_law alt (by
    by_cases hn : L = []
    · subst hn; exact .inl rfl
    · exact .inr (mov_am L 0 [] hn hE))
  generalize (movL c r d L 0 []).1 = out at hS1 law hS hown
  obtain ⟨g1, g2, g3, g4⟩ := law
  have nt := panNet_w A1 out q1 vcap hS1 (by omega)
  rw [g2] at nt
  have q3 : ((3 : Int) < (out.length : Int)) = False := eq_false (by omega)
  have bne0 : ∀ n : Int, (n != n) = false := fun n => by simp
  intro ν1 fr1
  have fr := fr1
  have nuE := fr.nu
  have lp : ∀ u, Vm.look (putB A1 (ν 0) u) (ν 0) = some u := fun u => look_put l0
  have sP : ∀ u, SubA A (putB A1 (ν 0) u) := fun u => SubA.put sA1 f0
  have fl := panFinal_w (putB A1 (ν 0) (Obj.cells #[.string c.id, .string c.rc, .string c.rs, .string c.is, .string c.aq, .int .i64 c.am, .string c.cu, .int .i64 (lastI L 0), .int .i64 c.op, .int .i64 c.du] 25)) { c with st := lastI L 0 } out q1 vcap (hS.mono (SubA.put sB1 hBn)) (by omega) _ (SubA.refl _)
  rw [g4] at fl
  by_cases hn : L = []
  · have hl0 : L.length = 0 := by rw [hn]; rfl
    have z : ((0 : Int) < (L.length : Int)) = False := eq_false (by omega)
    have hz : lastI L 0 = 0 := by rw [hn]; rfl
    have hh : (holdF 0 == 1) = false := rfl
    rw [hz] at nt fl
    rw [if_neg (by decide)] at nt
    simp (maxDischargeDepth := 16) only [argE_nil, argE_cons, ↓vmD, vmV, vmStd, Nat.reduceMul, ↓reduceIte, Nat.reduceAdd, Nat.reduceSub, Nat.reduceEqDiff, Nat.reduceLT, Nat.reduceLeDiff, reduceCtorEq, Int.reduceToNat, Int.reduceLT, Int.reduceLE, Int.reduceEq, Int.reduceNeg, Int.reduceBEq, Int.reduceBNe, String.reduceEq, forall_const, ↓vmDA, vmVA, ↓vmQA, vmR, vmRA, ↓vmSA, vmSV, tyS, nuE, SubA.skip, SubA.refl, fr.2, slIndexByte_v, indexByte_v, indexRune_v, containsRune_v, classOf_v, isWordByte_v, letter_v, digit_v, wordAt_v, rword_v, isName_v, risName_v, recId_v, rId13_v, moneyCur_v, rCur01_v, inTotal_v, rwithin1_v, exCard_v, recCheck_v, rrecCheck_v, dNext_v, rNext_v, holder_v, rholder_v, foll_v, rfoll_v, rDec_v, rMove_v, exmpl_v, l0, l1, qE, z, hh, q3, nt, bne0]
    obtain ⟨e, l, he, h3⟩ : ∃ (e : Nat) (l : List Rc), e = 0 ∧ l = out.drop e := ⟨0, out, rfl, by simp⟩
    rw [show (13, some (Value.int .i64 0)) = (13, some (Value.int .i64 (e : Int))) by rw [he]; rfl]
    clear he nuE fr
    induction l generalizing e with
    | nil =>
      have hle := drop_nil h3
      have hlt : ((e : Int) < (out.length : Int)) = False := by simp; omega
      refine LoopA.intro (by kernel_rfl) ?_
      intro ν fr; have nuE := fr.nu
      simp (maxDischargeDepth := 16) only [argE_nil, argE_cons, ↓vmD, vmV, vmStd, Nat.reduceMul, ↓reduceIte, Nat.reduceAdd, Nat.reduceSub, Nat.reduceEqDiff, Nat.reduceLT, Nat.reduceLeDiff, reduceCtorEq, Int.reduceToNat, Int.reduceLT, Int.reduceLE, Int.reduceEq, Int.reduceNeg, Int.reduceBEq, Int.reduceBNe, String.reduceEq, forall_const, ↓vmDA, vmVA, ↓vmQA, vmR, vmRA, ↓vmSA, vmSV, tyS, nuE, SubA.skip, SubA.refl, fr.2, slIndexByte_v, indexByte_v, indexRune_v, containsRune_v, classOf_v, isWordByte_v, letter_v, digit_v, wordAt_v, rword_v, isName_v, risName_v, recId_v, rId13_v, moneyCur_v, rCur01_v, inTotal_v, rwithin1_v, exCard_v, recCheck_v, rrecCheck_v, dNext_v, rNext_v, holder_v, rholder_v, foll_v, rfoll_v, rDec_v, rMove_v, exmpl_v, hlt, l0, lp, fl, aw, sP]
    | cons x l ih =>
      obtain ⟨ha, hl2, h3'⟩ := drop_some h3
      have hlt : ((e : Int) < (out.length : Int)) = True := by simp; omega
      have we : IntKind.i64.wrap ((e : Int) + 1) = ((e + 1 : Nat) : Int) := by rw [w_i64 (by omega) (by omega)]; omega
      obtain ⟨bk, off, cs, ty, fr0, hp0, lb, hcr, hcc⟩ := hS1.at ha
      obtain ⟨e1, e2, e3, e4, e5⟩ := g3 e x ha
      have k0 : cs[off + e * 12]? = some (.int .i64 x.kd) := hcc 0 _ rfl
      have k6 : cs[off + e * 12 + 6]? = some (.string x.ca) := hcc 6 _ rfl
      have k9 : cs[off + e * 12 + 9]? = some (.int .i64 x.da) := hcc 9 _ rfl
      have kr : rdCS (some (.cells cs ty fr0)) (off + e * 12 + 7) 2 = some #[.int .i64 x.am, .string x.cu] := by
        have := rdCS_sub (k := 7) (n := 2) hcr (by omega)
        simpa [Rc.cells] using this
      have m2 : (e : Int).tmod 2 = ((e % 2 : Nat) : Int) := by rw [Int.tmod_eq_emod_of_nonneg (by omega)]; omega
      rw [e2, e3] at kr
      rw [e4] at k6
      rw [e5] at k9
      subst hp0
      refine LoopA.intro (by kernel_rfl) ?_
      intro ν fr; have nuE := fr.nu
      by_cases ho : e % 2 = 1
      · have b : (((e % 2 : Nat) : Int) == 1) = true := by rw [ho]; rfl
        rw [if_pos ho] at e1
        rw [e1] at k0
        simp (maxDischargeDepth := 16) only [argE_nil, argE_cons, ↓vmD, vmV, vmStd, Nat.reduceMul, ↓reduceIte, Nat.reduceAdd, Nat.reduceSub, Nat.reduceEqDiff, Nat.reduceLT, Nat.reduceLeDiff, reduceCtorEq, Int.reduceToNat, Int.reduceLT, Int.reduceLE, Int.reduceEq, Int.reduceNeg, Int.reduceBEq, Int.reduceBNe, String.reduceEq, forall_const, ↓vmDA, vmVA, ↓vmQA, vmR, vmRA, ↓vmSA, vmSV, tyS, nuE, SubA.skip, SubA.refl, fr.2, slIndexByte_v, indexByte_v, indexRune_v, containsRune_v, classOf_v, isWordByte_v, letter_v, digit_v, wordAt_v, rword_v, isName_v, risName_v, recId_v, rId13_v, moneyCur_v, rCur01_v, inTotal_v, rwithin1_v, exCard_v, recCheck_v, rrecCheck_v, dNext_v, rNext_v, holder_v, rholder_v, foll_v, rfoll_v, rDec_v, rMove_v, exmpl_v, hlt, m2, b, lb, k0, k6, k9, kr, l0, l1, bne0, BEq.rfl, Bool.and_self, we]
        exact LoopA.weak (ih (e + 1) h3') (by simp only [subE, get_cons, Nat.reduceEqDiff, ↓reduceIte, reduceCtorEq, Nat.reduceAdd, and_self, and_true]) (SubA.refl _)
      · have b : (((e % 2 : Nat) : Int) == 1) = false := by simp; omega
        rw [if_neg ho] at e1
        rw [e1] at k0
        simp (maxDischargeDepth := 16) only [argE_nil, argE_cons, ↓vmD, vmV, vmStd, Nat.reduceMul, ↓reduceIte, Nat.reduceAdd, Nat.reduceSub, Nat.reduceEqDiff, Nat.reduceLT, Nat.reduceLeDiff, reduceCtorEq, Int.reduceToNat, Int.reduceLT, Int.reduceLE, Int.reduceEq, Int.reduceNeg, Int.reduceBEq, Int.reduceBNe, String.reduceEq, forall_const, ↓vmDA, vmVA, ↓vmQA, vmR, vmRA, ↓vmSA, vmSV, tyS, nuE, SubA.skip, SubA.refl, fr.2, slIndexByte_v, indexByte_v, indexRune_v, containsRune_v, classOf_v, isWordByte_v, letter_v, digit_v, wordAt_v, rword_v, isName_v, risName_v, recId_v, rId13_v, moneyCur_v, rCur01_v, inTotal_v, rwithin1_v, exCard_v, recCheck_v, rrecCheck_v, dNext_v, rNext_v, holder_v, rholder_v, foll_v, rfoll_v, rDec_v, rMove_v, exmpl_v, hlt, m2, b, lb, k0, k6, k9, kr, l0, l1, bne0, BEq.rfl, Bool.and_self, we]
        exact LoopA.weak (ih (e + 1) h3') (by simp only [subE, get_cons, Nat.reduceEqDiff, ↓reduceIte, reduceCtorEq, Nat.reduceAdd, and_self, and_true]) (SubA.refl _)
  · have hl0 : 0 < L.length := List.length_pos_iff.2 hn
    have z : ((0 : Int) < (L.length : Int)) = True := eq_true (by omega)
    have wl : IntKind.i64.wrap ((L.length : Int) - 1) = ((L.length - 1 : Nat) : Int) := by rw [w_i64 (by omega) (by omega)]; omega
    have wlt : (((L.length - 1 : Nat) : Int) < (L.length : Int)) = True := eq_true (by omega)
    obtain ⟨bp, offp, cp, typ, frp, hpp, lbp, _, hcp⟩ := hA1.at (last_at L 0 hn)
    have cL : cp[offp + (L.length - 1) * 1]? = some (.int .i64 (lastI L 0)) := hcp 0 _ rfl
    have cL2 : cp[offp + (L.length - 1)]? = some (.int .i64 (lastI L 0)) := by simpa using cL
    subst hpp
    by_cases hw : holdF (lastI L 0) = 1
    · have hh : (holdF (lastI L 0) == 1) = true := by rw [hw]; rfl
      rw [if_pos hw] at nt
      simp (maxDischargeDepth := 16) only [argE_nil, argE_cons, ↓vmD, vmV, vmStd, Nat.reduceMul, ↓reduceIte, Nat.reduceAdd, Nat.reduceSub, Nat.reduceEqDiff, Nat.reduceLT, Nat.reduceLeDiff, reduceCtorEq, Int.reduceToNat, Int.reduceLT, Int.reduceLE, Int.reduceEq, Int.reduceNeg, Int.reduceBEq, Int.reduceBNe, String.reduceEq, forall_const, ↓vmDA, vmVA, ↓vmQA, vmR, vmRA, ↓vmSA, vmSV, tyS, nuE, SubA.skip, SubA.refl, fr.2, slIndexByte_v, indexByte_v, indexRune_v, containsRune_v, classOf_v, isWordByte_v, letter_v, digit_v, wordAt_v, rword_v, isName_v, risName_v, recId_v, rId13_v, moneyCur_v, rCur01_v, inTotal_v, rwithin1_v, exCard_v, recCheck_v, rrecCheck_v, dNext_v, rNext_v, holder_v, rholder_v, foll_v, rfoll_v, rDec_v, rMove_v, exmpl_v, l0, l1, qE, z, wl, wlt, lbp, cL, cL2, hh, q3, nt, bne0]
      obtain ⟨e, l, he, h3⟩ : ∃ (e : Nat) (l : List Rc), e = 0 ∧ l = out.drop e := ⟨0, out, rfl, by simp⟩
      rw [show (13, some (Value.int .i64 0)) = (13, some (Value.int .i64 (e : Int))) by rw [he]; rfl]
      clear he nuE fr
      induction l generalizing e with
      | nil =>
        have hle := drop_nil h3
        have hlt : ((e : Int) < (out.length : Int)) = False := by simp; omega
        refine LoopA.intro (by kernel_rfl) ?_
        intro ν fr; have nuE := fr.nu
        simp (maxDischargeDepth := 16) only [argE_nil, argE_cons, ↓vmD, vmV, vmStd, Nat.reduceMul, ↓reduceIte, Nat.reduceAdd, Nat.reduceSub, Nat.reduceEqDiff, Nat.reduceLT, Nat.reduceLeDiff, reduceCtorEq, Int.reduceToNat, Int.reduceLT, Int.reduceLE, Int.reduceEq, Int.reduceNeg, Int.reduceBEq, Int.reduceBNe, String.reduceEq, forall_const, ↓vmDA, vmVA, ↓vmQA, vmR, vmRA, ↓vmSA, vmSV, tyS, nuE, SubA.skip, SubA.refl, fr.2, slIndexByte_v, indexByte_v, indexRune_v, containsRune_v, classOf_v, isWordByte_v, letter_v, digit_v, wordAt_v, rword_v, isName_v, risName_v, recId_v, rId13_v, moneyCur_v, rCur01_v, inTotal_v, rwithin1_v, exCard_v, recCheck_v, rrecCheck_v, dNext_v, rNext_v, holder_v, rholder_v, foll_v, rfoll_v, rDec_v, rMove_v, exmpl_v, hlt, l0, lp, fl, aw, sP]
      | cons x l ih =>
        obtain ⟨ha, hl2, h3'⟩ := drop_some h3
        have hlt : ((e : Int) < (out.length : Int)) = True := by simp; omega
        have we : IntKind.i64.wrap ((e : Int) + 1) = ((e + 1 : Nat) : Int) := by rw [w_i64 (by omega) (by omega)]; omega
        obtain ⟨bk, off, cs, ty, fr0, hp0, lb, hcr, hcc⟩ := hS1.at ha
        obtain ⟨e1, e2, e3, e4, e5⟩ := g3 e x ha
        have k0 : cs[off + e * 12]? = some (.int .i64 x.kd) := hcc 0 _ rfl
        have k6 : cs[off + e * 12 + 6]? = some (.string x.ca) := hcc 6 _ rfl
        have k9 : cs[off + e * 12 + 9]? = some (.int .i64 x.da) := hcc 9 _ rfl
        have kr : rdCS (some (.cells cs ty fr0)) (off + e * 12 + 7) 2 = some #[.int .i64 x.am, .string x.cu] := by
          have := rdCS_sub (k := 7) (n := 2) hcr (by omega)
          simpa [Rc.cells] using this
        have m2 : (e : Int).tmod 2 = ((e % 2 : Nat) : Int) := by rw [Int.tmod_eq_emod_of_nonneg (by omega)]; omega
        rw [e2, e3] at kr
        rw [e4] at k6
        rw [e5] at k9
        subst hp0
        refine LoopA.intro (by kernel_rfl) ?_
        intro ν fr; have nuE := fr.nu
        by_cases ho : e % 2 = 1
        · have b : (((e % 2 : Nat) : Int) == 1) = true := by rw [ho]; rfl
          rw [if_pos ho] at e1
          rw [e1] at k0
          simp (maxDischargeDepth := 16) only [argE_nil, argE_cons, ↓vmD, vmV, vmStd, Nat.reduceMul, ↓reduceIte, Nat.reduceAdd, Nat.reduceSub, Nat.reduceEqDiff, Nat.reduceLT, Nat.reduceLeDiff, reduceCtorEq, Int.reduceToNat, Int.reduceLT, Int.reduceLE, Int.reduceEq, Int.reduceNeg, Int.reduceBEq, Int.reduceBNe, String.reduceEq, forall_const, ↓vmDA, vmVA, ↓vmQA, vmR, vmRA, ↓vmSA, vmSV, tyS, nuE, SubA.skip, SubA.refl, fr.2, slIndexByte_v, indexByte_v, indexRune_v, containsRune_v, classOf_v, isWordByte_v, letter_v, digit_v, wordAt_v, rword_v, isName_v, risName_v, recId_v, rId13_v, moneyCur_v, rCur01_v, inTotal_v, rwithin1_v, exCard_v, recCheck_v, rrecCheck_v, dNext_v, rNext_v, holder_v, rholder_v, foll_v, rfoll_v, rDec_v, rMove_v, exmpl_v, hlt, m2, b, lb, k0, k6, k9, kr, l0, l1, bne0, BEq.rfl, Bool.and_self, we]
          exact LoopA.weak (ih (e + 1) h3') (by simp only [subE, get_cons, Nat.reduceEqDiff, ↓reduceIte, reduceCtorEq, Nat.reduceAdd, and_self, and_true]) (SubA.refl _)
        · have b : (((e % 2 : Nat) : Int) == 1) = false := by simp; omega
          rw [if_neg ho] at e1
          rw [e1] at k0
          simp (maxDischargeDepth := 16) only [argE_nil, argE_cons, ↓vmD, vmV, vmStd, Nat.reduceMul, ↓reduceIte, Nat.reduceAdd, Nat.reduceSub, Nat.reduceEqDiff, Nat.reduceLT, Nat.reduceLeDiff, reduceCtorEq, Int.reduceToNat, Int.reduceLT, Int.reduceLE, Int.reduceEq, Int.reduceNeg, Int.reduceBEq, Int.reduceBNe, String.reduceEq, forall_const, ↓vmDA, vmVA, ↓vmQA, vmR, vmRA, ↓vmSA, vmSV, tyS, nuE, SubA.skip, SubA.refl, fr.2, slIndexByte_v, indexByte_v, indexRune_v, containsRune_v, classOf_v, isWordByte_v, letter_v, digit_v, wordAt_v, rword_v, isName_v, risName_v, recId_v, rId13_v, moneyCur_v, rCur01_v, inTotal_v, rwithin1_v, exCard_v, recCheck_v, rrecCheck_v, dNext_v, rNext_v, holder_v, rholder_v, foll_v, rfoll_v, rDec_v, rMove_v, exmpl_v, hlt, m2, b, lb, k0, k6, k9, kr, l0, l1, bne0, BEq.rfl, Bool.and_self, we]
          exact LoopA.weak (ih (e + 1) h3') (by simp only [subE, get_cons, Nat.reduceEqDiff, ↓reduceIte, reduceCtorEq, Nat.reduceAdd, and_self, and_true]) (SubA.refl _)
    · have hh : (holdF (lastI L 0) == 1) = false := by simpa using hw
      rw [if_neg hw] at nt
      simp (maxDischargeDepth := 16) only [argE_nil, argE_cons, ↓vmD, vmV, vmStd, Nat.reduceMul, ↓reduceIte, Nat.reduceAdd, Nat.reduceSub, Nat.reduceEqDiff, Nat.reduceLT, Nat.reduceLeDiff, reduceCtorEq, Int.reduceToNat, Int.reduceLT, Int.reduceLE, Int.reduceEq, Int.reduceNeg, Int.reduceBEq, Int.reduceBNe, String.reduceEq, forall_const, ↓vmDA, vmVA, ↓vmQA, vmR, vmRA, ↓vmSA, vmSV, tyS, nuE, SubA.skip, SubA.refl, fr.2, slIndexByte_v, indexByte_v, indexRune_v, containsRune_v, classOf_v, isWordByte_v, letter_v, digit_v, wordAt_v, rword_v, isName_v, risName_v, recId_v, rId13_v, moneyCur_v, rCur01_v, inTotal_v, rwithin1_v, exCard_v, recCheck_v, rrecCheck_v, dNext_v, rNext_v, holder_v, rholder_v, foll_v, rfoll_v, rDec_v, rMove_v, exmpl_v, l0, l1, qE, z, wl, wlt, lbp, cL, cL2, hh, q3, nt, bne0]
      obtain ⟨e, l, he, h3⟩ : ∃ (e : Nat) (l : List Rc), e = 0 ∧ l = out.drop e := ⟨0, out, rfl, by simp⟩
      rw [show (13, some (Value.int .i64 0)) = (13, some (Value.int .i64 (e : Int))) by rw [he]; rfl]
      clear he nuE fr
      induction l generalizing e with
      | nil =>
        have hle := drop_nil h3
        have hlt : ((e : Int) < (out.length : Int)) = False := by simp; omega
        refine LoopA.intro (by kernel_rfl) ?_
        intro ν fr; have nuE := fr.nu
        simp (maxDischargeDepth := 16) only [argE_nil, argE_cons, ↓vmD, vmV, vmStd, Nat.reduceMul, ↓reduceIte, Nat.reduceAdd, Nat.reduceSub, Nat.reduceEqDiff, Nat.reduceLT, Nat.reduceLeDiff, reduceCtorEq, Int.reduceToNat, Int.reduceLT, Int.reduceLE, Int.reduceEq, Int.reduceNeg, Int.reduceBEq, Int.reduceBNe, String.reduceEq, forall_const, ↓vmDA, vmVA, ↓vmQA, vmR, vmRA, ↓vmSA, vmSV, tyS, nuE, SubA.skip, SubA.refl, fr.2, slIndexByte_v, indexByte_v, indexRune_v, containsRune_v, classOf_v, isWordByte_v, letter_v, digit_v, wordAt_v, rword_v, isName_v, risName_v, recId_v, rId13_v, moneyCur_v, rCur01_v, inTotal_v, rwithin1_v, exCard_v, recCheck_v, rrecCheck_v, dNext_v, rNext_v, holder_v, rholder_v, foll_v, rfoll_v, rDec_v, rMove_v, exmpl_v, hlt, l0, lp, fl, aw, sP]
      | cons x l ih =>
        obtain ⟨ha, hl2, h3'⟩ := drop_some h3
        have hlt : ((e : Int) < (out.length : Int)) = True := by simp; omega
        have we : IntKind.i64.wrap ((e : Int) + 1) = ((e + 1 : Nat) : Int) := by rw [w_i64 (by omega) (by omega)]; omega
        obtain ⟨bk, off, cs, ty, fr0, hp0, lb, hcr, hcc⟩ := hS1.at ha
        obtain ⟨e1, e2, e3, e4, e5⟩ := g3 e x ha
        have k0 : cs[off + e * 12]? = some (.int .i64 x.kd) := hcc 0 _ rfl
        have k6 : cs[off + e * 12 + 6]? = some (.string x.ca) := hcc 6 _ rfl
        have k9 : cs[off + e * 12 + 9]? = some (.int .i64 x.da) := hcc 9 _ rfl
        have kr : rdCS (some (.cells cs ty fr0)) (off + e * 12 + 7) 2 = some #[.int .i64 x.am, .string x.cu] := by
          have := rdCS_sub (k := 7) (n := 2) hcr (by omega)
          simpa [Rc.cells] using this
        have m2 : (e : Int).tmod 2 = ((e % 2 : Nat) : Int) := by rw [Int.tmod_eq_emod_of_nonneg (by omega)]; omega
        rw [e2, e3] at kr
        rw [e4] at k6
        rw [e5] at k9
        subst hp0
        refine LoopA.intro (by kernel_rfl) ?_
        intro ν fr; have nuE := fr.nu
        by_cases ho : e % 2 = 1
        · have b : (((e % 2 : Nat) : Int) == 1) = true := by rw [ho]; rfl
          rw [if_pos ho] at e1
          rw [e1] at k0
          simp (maxDischargeDepth := 16) only [argE_nil, argE_cons, ↓vmD, vmV, vmStd, Nat.reduceMul, ↓reduceIte, Nat.reduceAdd, Nat.reduceSub, Nat.reduceEqDiff, Nat.reduceLT, Nat.reduceLeDiff, reduceCtorEq, Int.reduceToNat, Int.reduceLT, Int.reduceLE, Int.reduceEq, Int.reduceNeg, Int.reduceBEq, Int.reduceBNe, String.reduceEq, forall_const, ↓vmDA, vmVA, ↓vmQA, vmR, vmRA, ↓vmSA, vmSV, tyS, nuE, SubA.skip, SubA.refl, fr.2, slIndexByte_v, indexByte_v, indexRune_v, containsRune_v, classOf_v, isWordByte_v, letter_v, digit_v, wordAt_v, rword_v, isName_v, risName_v, recId_v, rId13_v, moneyCur_v, rCur01_v, inTotal_v, rwithin1_v, exCard_v, recCheck_v, rrecCheck_v, dNext_v, rNext_v, holder_v, rholder_v, foll_v, rfoll_v, rDec_v, rMove_v, exmpl_v, hlt, m2, b, lb, k0, k6, k9, kr, l0, l1, bne0, BEq.rfl, Bool.and_self, we]
          exact LoopA.weak (ih (e + 1) h3') (by simp only [subE, get_cons, Nat.reduceEqDiff, ↓reduceIte, reduceCtorEq, Nat.reduceAdd, and_self, and_true]) (SubA.refl _)
        · have b : (((e % 2 : Nat) : Int) == 1) = false := by simp; omega
          rw [if_neg ho] at e1
          rw [e1] at k0
          simp (maxDischargeDepth := 16) only [argE_nil, argE_cons, ↓vmD, vmV, vmStd, Nat.reduceMul, ↓reduceIte, Nat.reduceAdd, Nat.reduceSub, Nat.reduceEqDiff, Nat.reduceLT, Nat.reduceLeDiff, reduceCtorEq, Int.reduceToNat, Int.reduceLT, Int.reduceLE, Int.reduceEq, Int.reduceNeg, Int.reduceBEq, Int.reduceBNe, String.reduceEq, forall_const, ↓vmDA, vmVA, ↓vmQA, vmR, vmRA, ↓vmSA, vmSV, tyS, nuE, SubA.skip, SubA.refl, fr.2, slIndexByte_v, indexByte_v, indexRune_v, containsRune_v, classOf_v, isWordByte_v, letter_v, digit_v, wordAt_v, rword_v, isName_v, risName_v, recId_v, rId13_v, moneyCur_v, rCur01_v, inTotal_v, rwithin1_v, exCard_v, recCheck_v, rrecCheck_v, dNext_v, rNext_v, holder_v, rholder_v, foll_v, rfoll_v, rDec_v, rMove_v, exmpl_v, hlt, m2, b, lb, k0, k6, k9, kr, l0, l1, bne0, BEq.rfl, Bool.and_self, we]
          exact LoopA.weak (ih (e + 1) h3') (by simp only [subE, get_cons, Nat.reduceEqDiff, ↓reduceIte, reduceCtorEq, Nat.reduceAdd, and_self, and_true]) (SubA.refl _)
theorem holderLaw_w (A : AH) (hT : TabA A) (c : Cs) (r : Rc) (hc : SzC c) (hr : SzR r) (L : List Int) (p : Option Addr) (cap : Nat) (hL : StR intC 1 A p L) (d : Int) (B_ : AH) (hB_ : SubA A B_) : valA Tryd.prog 3 #[.agg #[.string c.id, .string c.rc, .string c.rs, .string c.is, .string c.aq, .int .i64 c.am, .string c.cu, .int .i64 c.st, .int .i64 c.op, .int .i64 c.du], .agg #[.int .i64 r.kd, .string r.id, .string r.au, .string r.aq, .string r.is, .string r.me, .string r.ca, .int .i64 r.am, .string r.cu, .int .i64 r.da, .int .i64 r.ct, .bool r.fi], .slice p L.length cap, .int .i64 d] B_ = some (.bool true) := valA_eq (pureA_at (by kernel_rfl) (holderLaw_h A hT c r hc hr L p cap hL d) hB_)
theorem holderLaw_v (A : AH) (hT : TabA A) (c : Cs) (r : Rc) (hc : SzC c) (hr : SzR r) (L : List Int) (p : Option Addr) (cap : Nat) (hL : StR intC 1 A p L) (d : Int) : valA Tryd.prog 3 #[.agg #[.string c.id, .string c.rc, .string c.rs, .string c.is, .string c.aq, .int .i64 c.am, .string c.cu, .int .i64 c.st, .int .i64 c.op, .int .i64 c.du], .agg #[.int .i64 r.kd, .string r.id, .string r.au, .string r.aq, .string r.is, .string r.me, .string r.ca, .int .i64 r.am, .string r.cu, .int .i64 r.da, .int .i64 r.ct, .bool r.fi], .slice p L.length cap, .int .i64 d] A = some (.bool true) := valA_eq (pureA_at (by kernel_rfl) (holderLaw_h A hT c r hc hr L p cap hL d) (SubA.refl _))
end Go.Proofs.YtejcnpllodgmlaaDoor
