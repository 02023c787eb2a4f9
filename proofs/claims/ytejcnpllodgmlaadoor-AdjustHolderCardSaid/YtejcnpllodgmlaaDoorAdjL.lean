/-
Adjustments: the walks of lists of movements.
Conditions: none.
-/
import Derived.Test.YtejcnpllodgmlaaDoorAdjR
import Derived.Test.YtejcnpllodgmlaaDoorVmAB
namespace Go.Proofs.YtejcnpllodgmlaaDoor
open Go.Vm
set_option linter.unusedSimpArgs false
set_option linter.unusedVariables false
set_option maxHeartbeats 4000000
set_option maxRecDepth 20000
def intC (n : Int) : List Value := [.int .i64 n]
theorem int_len (n : Int) : (intC n).length = 1 := rfl
theorem drop_some {α : Type} {L l : List α} {e : Nat} {a : α} (h3 : a :: l = L.drop e) : L[e]? = some a ∧ e < L.length ∧ l = L.drop (e + 1) := by
  have ha : L[e]? = some a := by
    have := congrArg (fun x => x[0]?) h3
    simpa using this.symm
  refine ⟨ha, (List.getElem?_eq_some_iff.1 ha).1, ?_⟩
  have := congrArg (fun x => x.drop 1) h3
  simpa [List.drop_drop, Nat.add_comm] using this
theorem drop_nil {α : Type} {L : List α} {e : Nat} (h3 : [] = L.drop e) : L.length ≤ e := by
  rcases Nat.lt_or_ge e L.length with h | h
  · rw [List.drop_eq_getElem_cons h] at h3; cases h3
  · exact h
theorem sc_rec (a : Int) (b c d e f g : ByteArray) (h : Int) (i : ByteArray) (j k : Int) (l : Bool) : sliceCells Tryd.prog 30 1 [(0, .agg #[.int .i64 a, .string b, .string c, .string d, .string e, .string f, .string g, .int .i64 h, .string i, .int .i64 j, .int .i64 k, .bool l])] = some (27, #[.int .i64 a, .string b, .string c, .string d, .string e, .string f, .string g, .int .i64 h, .string i, .int .i64 j, .int .i64 k, .bool l]) := by kernel_rfl
theorem panMoves_h (A : AH) (hT : TabA A) (c : Cs) (r : Rc) (hc : SzC c) (hr : SzR r) (L : List Int) (p : Option Addr) (cap : Nat) (hL : StR intC 1 A p L) (hl : L.length ≤ 100) (d : Int) : CallA Tryd.prog 8 #[.agg #[.string c.id, .string c.rc, .string c.rs, .string c.is, .string c.aq, .int .i64 c.am, .string c.cu, .int .i64 c.st, .int .i64 c.op, .int .i64 c.du], .agg #[.int .i64 r.kd, .string r.id, .string r.au, .string r.aq, .string r.is, .string r.me, .string r.ca, .int .i64 r.am, .string r.cu, .int .i64 r.da, .int .i64 r.ct, .bool r.fi], .slice p L.length cap, .int .i64 d] A (fun u_ A_ => ∃ v B, u_ = .tuple #[v, .int .i64 (movL c r d L 0 []).2] ∧ OwnL Rc.cells 12 27 v B (movL c r d L 0 []).1 ∧ Dis B A ∧ SubA (B ++ A) A_) := by
  refine callA_of_denA ⟨Tryd.prog, 8, Tryd.f8, 47, [0, 1, 2, 3, 4, 5, 8, 9, 10, 11, 13, 14, 15, 16, 17, 18, 19], [], [], _⟩ (args := [_, _, _, _]) Tryd.func8 rfl (by kernel_rfl) Tryd.ntmps8 (by simp) (by kernel_rfl) ?_
  intro ν fr; have nuE := fr.nu
  simp (maxDischargeDepth := 16) only [argE_nil, argE_cons, ↓vmD, vmV, vmStd, Nat.reduceMul, ↓reduceIte, Nat.reduceAdd, Nat.reduceSub, Nat.reduceEqDiff, Nat.reduceLT, Nat.reduceLeDiff, reduceCtorEq, Int.reduceToNat, Int.reduceLT, Int.reduceLE, Int.reduceEq, Int.reduceNeg, Int.reduceBEq, Int.reduceBNe, String.reduceEq, forall_const, ↓vmDA, vmVA, ↓vmQA, vmR, vmRA, ↓vmSA, vmSV, tyS, nuE, SubA.skip, SubA.refl, fr.2, slIndexByte_v, indexByte_v, indexRune_v, containsRune_v, classOf_v, isWordByte_v, letter_v, digit_v, wordAt_v, rword_v, isName_v, risName_v, recId_v, rId13_v, moneyCur_v, rCur01_v, inTotal_v, rwithin1_v, exCard_v, recCheck_v, rrecCheck_v, dNext_v, rNext_v, holder_v, rholder_v, foll_v, rfoll_v, rDec_v, rMove_v]
  have hA0 := fr.2 0
  have hA1 := fr.2 1
  have dst_ : ((ν 0 = ν 1) = False) ∧ ((ν 1 = ν 0) = False) := (by simp [nuE]); generalize ν 0 = n0 at dst_  hA0 hA1 ⊢; generalize ν 1 = n1 at dst_  hA0 hA1 ⊢
  obtain ⟨e, l, s, out, v, B, he, hs, hv, hB, h3, hm, hown, hle, sp⟩ : ∃ (e : Nat) (l : List Int) (s : Int) (out : List Rc) (v : Value) (B : AH), e = 0 ∧ s = 0 ∧ v = .slice none 0 0 ∧ B = [] ∧ l = L.drop e ∧ movL c r d L 0 [] = movL c r d l s out ∧ OwnL Rc.cells 12 27 v B out ∧ out.length ≤ e ∧ Sep [[(n1, (Obj.cells #[.int .i64 r.kd, .string r.id, .string r.au, .string r.aq, .string r.is, .string r.me, .string r.ca, .int .i64 r.am, .string r.cu, .int .i64 r.da, .int .i64 r.ct, .bool r.fi] 27))], [(n0, (Obj.cells #[.string c.id, .string c.rc, .string c.rs, .string c.is, .string c.aq, .int .i64 c.am, .string c.cu, .int .i64 c.st, .int .i64 c.op, .int .i64 c.du] 25))], B, A] :=
    ⟨0, L, 0, [], .slice none 0 0, [], rfl, rfl, rfl, rfl, by simp, rfl, OwnL.nil _ _ _, by simp, Sep.fresh (by simp [cat, Vm.look, hA1, dst_]) _ (Sep.fresh (by simp [cat, hA0]) _ (Sep.cons (Dis.nil _) (Sep.one A)))⟩
  rw [show (19, some (Value.int .i64 0)) = (19, some (Value.int .i64 (e : Int))) by rw [he]; rfl]
  rw [show (11, some (Value.int .i64 0)) = (11, some (Value.int .i64 s)) by rw [hs]]
  rw [show (10, some (Value.slice none 0 0)) = (10, some v) by rw [hv]]
  refine LoopA.at (A := cat [[(n1, (Obj.cells #[.int .i64 r.kd, .string r.id, .string r.au, .string r.aq, .string r.is, .string r.me, .string r.ca, .int .i64 r.am, .string r.cu, .int .i64 r.da, .int .i64 r.ct, .bool r.fi] 27))], [(n0, (Obj.cells #[.string c.id, .string c.rc, .string c.rs, .string c.is, .string c.aq, .int .i64 c.am, .string c.cu, .int .i64 c.st, .int .i64 c.op, .int .i64 c.du] 25))], B, A]) ?_ ?_
  · subst hB
    exact SubA.refl _
  clear he hs hv hB nuE fr
  simp only [cat, List.cons_append, List.nil_append]
  induction l generalizing e s out v B with
  | nil =>
    have hle2 := drop_nil h3
    have hlt : ((e : Int) < (L.length : Int)) = False := by simp; omega
    have hm2 : movL c r d L 0 [] = (out, 0) := hm
    have sB : SubA (B ++ A) ((n1, (Obj.cells #[.int .i64 r.kd, .string r.id, .string r.au, .string r.aq, .string r.is, .string r.me, .string r.ca, .int .i64 r.am, .string r.cu, .int .i64 r.da, .int .i64 r.ct, .bool r.fi] 27)) :: (n0, (Obj.cells #[.string c.id, .string c.rc, .string c.rs, .string c.is, .string c.aq, .int .i64 c.am, .string c.cu, .int .i64 c.st, .int .i64 c.op, .int .i64 c.du] 25)) :: (B ++ A)) := sp.subs [2, 3] rfl
    have dB : Dis B A := (sp.pick [2, 3] rfl rfl).dis
    refine LoopA.intro (by kernel_rfl) ?_
    intro ν fr; have nuE := fr.nu
    simp (maxDischargeDepth := 16) only [argE_nil, argE_cons, ↓vmD, vmV, vmStd, Nat.reduceMul, ↓reduceIte, Nat.reduceAdd, Nat.reduceSub, Nat.reduceEqDiff, Nat.reduceLT, Nat.reduceLeDiff, reduceCtorEq, Int.reduceToNat, Int.reduceLT, Int.reduceLE, Int.reduceEq, Int.reduceNeg, Int.reduceBEq, Int.reduceBNe, String.reduceEq, forall_const, ↓vmDA, vmVA, ↓vmQA, vmR, vmRA, ↓vmSA, vmSV, tyS, nuE, SubA.skip, SubA.refl, fr.2, slIndexByte_v, indexByte_v, indexRune_v, containsRune_v, classOf_v, isWordByte_v, letter_v, digit_v, wordAt_v, rword_v, isName_v, risName_v, recId_v, rId13_v, moneyCur_v, rCur01_v, inTotal_v, rwithin1_v, exCard_v, recCheck_v, rrecCheck_v, dNext_v, rNext_v, holder_v, rholder_v, foll_v, rfoll_v, rDec_v, rMove_v, hlt]
    rw [hm2]
    exact ⟨v, B, rfl, hown, dB, sB⟩
  | cons x l ih =>
    obtain ⟨ha, hl2, h3'⟩ := drop_some h3
    have hlt : ((e : Int) < (L.length : Int)) = True := by simp; omega
    have we : IntKind.i64.wrap ((e : Int) + 1) = ((e + 1 : Nat) : Int) := by rw [w_i64 (by omega) (by omega)]; omega
    have wo : IntKind.i64.wrap ((out.length : Int) + 1) = ((out.length + 1 : Nat) : Int) := by rw [w_i64 (by omega) (by omega)]; omega
    obtain ⟨bk, off, cs, ty, fr0, hp0, hbk, hcr, hcc⟩ := hL.at ha
    subst hp0
    obtain ⟨q, vcap, rfl, hvc, hvs⟩ := hown.read Rc.len
    have sA : SubA A ((n1, (Obj.cells #[.int .i64 r.kd, .string r.id, .string r.au, .string r.aq, .string r.is, .string r.me, .string r.ca, .int .i64 r.am, .string r.cu, .int .i64 r.da, .int .i64 r.ct, .bool r.fi] 27)) :: (n0, (Obj.cells #[.string c.id, .string c.rc, .string c.rs, .string c.is, .string c.aq, .int .i64 c.am, .string c.cu, .int .i64 c.st, .int .i64 c.op, .int .i64 c.du] 25)) :: (B ++ A)) := sp.subs [3] rfl
    have lb := sA _ _ hbk
    have mv := fun D hD => panMove_w A hT c r s x d ((out.length + 1 : Nat) : Int) hc hr D hD
    have mvs := mv _ sA
    have hc0 : cs[off + e * 1]? = some (.int .i64 x) := hcc 0 _ rfl
    refine LoopA.intro (by kernel_rfl) ?_
    intro ν fr; have nuE := And.intro (fr.mem (b := n0) (by simp)) (And.intro (fr.mem (b := n1) (by simp)) (And.intro dst_ fr.nu))
    have nb0 := look_ne (fr.2 0) lb
    have nb1 := look_ne (fr.2 1) lb
    by_cases hE : movE c r s x d ((out.length + 1 : Nat) : Int) = 0
    rotate_left
    · have hv := movV_err (c := c) (r := r) (s := s) (t := x) (d := d) (n := ((out.length + 1 : Nat) : Int)) rfl hE
      have q1 : (movE c r s x d ((out.length + 1 : Nat) : Int) != 0) = true := by simpa using hE
      have hm2 : movL c r d L 0 [] = ([], movE c r s x d ((out.length + 1 : Nat) : Int)) := by rw [hm]; simp only [movL]; rw [if_pos hE]
      rw [hv] at mvs
      simp (maxDischargeDepth := 16) only [argE_nil, argE_cons, ↓vmD, vmV, vmStd, Nat.reduceMul, ↓reduceIte, Nat.reduceAdd, Nat.reduceSub, Nat.reduceEqDiff, Nat.reduceLT, Nat.reduceLeDiff, reduceCtorEq, Int.reduceToNat, Int.reduceLT, Int.reduceLE, Int.reduceEq, Int.reduceNeg, Int.reduceBEq, Int.reduceBNe, String.reduceEq, forall_const, ↓vmDA, vmVA, ↓vmQA, vmR, vmRA, ↓vmSA, vmSV, tyS, nuE, SubA.skip, SubA.refl, fr.2, slIndexByte_v, indexByte_v, indexRune_v, containsRune_v, classOf_v, isWordByte_v, letter_v, digit_v, wordAt_v, rword_v, isName_v, risName_v, recId_v, rId13_v, moneyCur_v, rCur01_v, inTotal_v, rwithin1_v, exCard_v, recCheck_v, rrecCheck_v, dNext_v, rNext_v, holder_v, rholder_v, foll_v, rfoll_v, rDec_v, rMove_v, hlt, lb, hc0, mvs, wo, q1]
      rw [hm2]
      exact ⟨_, [], rfl, OwnL.nil _ _ _, Dis.nil _, SubA.trans sA (SubA.skip (fr.2 0) (SubA.refl _))⟩
    have q1 : (movE c r s x d ((out.length + 1 : Nat) : Int) != 0) = false := by simpa using hE
    by_cases hH : holdF s = holdF x
    · have hv := movV_no (c := c) (r := r) (s := s) (t := x) (d := d) (n := ((out.length + 1 : Nat) : Int)) hE hH
      rw [hv] at mvs
      have hm2 : movL c r d L 0 [] = movL c r d l x out := by rw [hm]; simp only [movL]; rw [if_neg (by simpa using hE), if_pos hH]
      simp (maxDischargeDepth := 16) only [argE_nil, argE_cons, ↓vmD, vmV, vmStd, Nat.reduceMul, ↓reduceIte, Nat.reduceAdd, Nat.reduceSub, Nat.reduceEqDiff, Nat.reduceLT, Nat.reduceLeDiff, reduceCtorEq, Int.reduceToNat, Int.reduceLT, Int.reduceLE, Int.reduceEq, Int.reduceNeg, Int.reduceBEq, Int.reduceBNe, String.reduceEq, forall_const, ↓vmDA, vmVA, ↓vmQA, vmR, vmRA, ↓vmSA, vmSV, tyS, nuE, SubA.skip, SubA.refl, fr.2, slIndexByte_v, indexByte_v, indexRune_v, containsRune_v, classOf_v, isWordByte_v, letter_v, digit_v, wordAt_v, rword_v, isName_v, risName_v, recId_v, rId13_v, moneyCur_v, rCur01_v, inTotal_v, rwithin1_v, exCard_v, recCheck_v, rrecCheck_v, dNext_v, rNext_v, holder_v, rholder_v, foll_v, rfoll_v, rDec_v, rMove_v, hlt, lb, nb0, nb1, hc0, mvs, wo, q1, we]
      exact LoopA.weak (ih (e + 1) x out _ B h3' hm2 hown (by omega) sp) (by simp only [subE, get_cons, Nat.reduceEqDiff, ↓reduceIte, reduceCtorEq, Nat.reduceAdd, and_self, and_true]) (SubA.skip (fr.2 0) (SubA.refl _))
    · have hv := movV_yes (c := c) (r := r) (s := s) (t := x) (d := d) (n := ((out.length + 1 : Nat) : Int)) hE hH
      rw [Int.toNat_natCast, Rc.agg] at hv
      have hm2 : movL c r d L 0 [] = movL c r d l x (out ++ [movR c r x d (out.length + 1)]) := by rw [hm]; simp only [movL]; rw [if_neg (by simpa using hE), if_neg hH]
      generalize movR c r x d (out.length + 1) = y at hv hm2
      rw [hv] at mvs
      simp (maxDischargeDepth := 16) only [argE_nil, argE_cons, ↓vmD, vmV, vmStd, Nat.reduceMul, ↓reduceIte, Nat.reduceAdd, Nat.reduceSub, Nat.reduceEqDiff, Nat.reduceLT, Nat.reduceLeDiff, reduceCtorEq, Int.reduceToNat, Int.reduceLT, Int.reduceLE, Int.reduceEq, Int.reduceNeg, Int.reduceBEq, Int.reduceBNe, String.reduceEq, forall_const, ↓vmDA, vmVA, ↓vmQA, vmR, vmRA, ↓vmSA, vmSV, tyS, nuE, SubA.skip, SubA.refl, fr.2, slIndexByte_v, indexByte_v, indexRune_v, containsRune_v, classOf_v, isWordByte_v, letter_v, digit_v, wordAt_v, rword_v, isName_v, risName_v, recId_v, rId13_v, moneyCur_v, rCur01_v, inTotal_v, rwithin1_v, exCard_v, recCheck_v, rrecCheck_v, dNext_v, rNext_v, holder_v, rholder_v, foll_v, rfoll_v, rDec_v, rMove_v, hlt, lb, hc0, mvs, wo, q1, we, sc_rec]
      have n0' := fr.2 0
      have n1' := fr.2 1
      have hX : SubA (cat [[(n1, (Obj.cells #[.int .i64 r.kd, .string r.id, .string r.au, .string r.aq, .string r.is, .string r.me, .string r.ca, .int .i64 r.am, .string r.cu, .int .i64 r.da, .int .i64 r.ct, .bool r.fi] 27))], [(n0, (Obj.cells #[.string c.id, .string c.rc, .string c.rs, .string c.is, .string c.aq, .int .i64 c.am, .string c.cu, .int .i64 c.st, .int .i64 c.op, .int .i64 c.du] 25))], A]) ((n1, (Obj.cells #[.int .i64 r.kd, .string r.id, .string r.au, .string r.aq, .string r.is, .string r.me, .string r.ca, .int .i64 r.am, .string r.cu, .int .i64 r.da, .int .i64 r.ct, .bool r.fi] 27)) :: (n0, (Obj.cells #[.string c.id, .string c.rc, .string c.rs, .string c.is, .string c.aq, .int .i64 c.am, .string c.cu, .int .i64 c.st, .int .i64 c.op, .int .i64 c.du] 25)) :: (B ++ A)) := sp.subs [0, 1, 3] rfl
      have hBs : SubA B ((n1, (Obj.cells #[.int .i64 r.kd, .string r.id, .string r.au, .string r.aq, .string r.is, .string r.me, .string r.ca, .int .i64 r.am, .string r.cu, .int .i64 r.da, .int .i64 r.ct, .bool r.fi] 27)) :: (n0, (Obj.cells #[.string c.id, .string c.rc, .string c.rs, .string c.is, .string c.aq, .int .i64 c.am, .string c.cu, .int .i64 c.st, .int .i64 c.op, .int .i64 c.du] 25)) :: (B ++ A)) := sp.subs [2] rfl
      have hXs : SubA (cat [[(n1, (Obj.cells #[.int .i64 r.kd, .string r.id, .string r.au, .string r.aq, .string r.is, .string r.me, .string r.ca, .int .i64 r.am, .string r.cu, .int .i64 r.da, .int .i64 r.ct, .bool r.fi] 27))], [(n0, (Obj.cells #[.string c.id, .string c.rc, .string c.rs, .string c.is, .string c.aq, .int .i64 c.am, .string c.cu, .int .i64 c.st, .int .i64 c.op, .int .i64 c.du] 25))], A]) ((ν 1, (Obj.cells #[.int .i64 y.kd, .string y.id, .string y.au, .string y.aq, .string y.is, .string y.me, .string y.ca, .int .i64 y.am, .string y.cu, .int .i64 y.da, .int .i64 y.ct, .bool y.fi] 27)) :: (ν 0, (Obj.cells #[.int .i64 y.kd, .string y.id, .string y.au, .string y.aq, .string y.is, .string y.me, .string y.ca, .int .i64 y.am, .string y.cu, .int .i64 y.da, .int .i64 y.ct, .bool y.fi] 27)) :: (n1, (Obj.cells #[.int .i64 r.kd, .string r.id, .string r.au, .string r.aq, .string r.is, .string r.me, .string r.ca, .int .i64 r.am, .string r.cu, .int .i64 r.da, .int .i64 r.ct, .bool r.fi] 27)) :: (n0, (Obj.cells #[.string c.id, .string c.rc, .string c.rs, .string c.is, .string c.aq, .int .i64 c.am, .string c.cu, .int .i64 c.st, .int .i64 c.op, .int .i64 c.du] 25)) :: (B ++ A)) := SubA.skip (hX.none n1') (SubA.skip (hX.none n0') hX)
      refine RunA.use ?_
      refine append_src (m := 1) (news := y.cells) (B := B) slc30 zro27 rfl (by decide) hown ?_ (.inr ⟨ν 1, 0, rfl, ?_⟩) (by simp [Rc.cells, Value.oneCell']) (by simp only [maxLen]; omega) (by omega) ?_
      · exact SubA.skip (hBs.none n1') (SubA.skip (hBs.none n0') hBs)
      · simp (maxDischargeDepth := 16) only [argE_nil, argE_cons, ↓vmD, vmV, vmStd, Nat.reduceMul, ↓reduceIte, Nat.reduceAdd, Nat.reduceSub, Nat.reduceEqDiff, Nat.reduceLT, Nat.reduceLeDiff, reduceCtorEq, Int.reduceToNat, Int.reduceLT, Int.reduceLE, Int.reduceEq, Int.reduceNeg, Int.reduceBEq, Int.reduceBNe, String.reduceEq, forall_const, ↓vmDA, vmVA, ↓vmQA, vmR, vmRA, ↓vmSA, vmSV, tyS, nuE, SubA.skip, SubA.refl, fr.2, slIndexByte_v, indexByte_v, indexRune_v, containsRune_v, classOf_v, isWordByte_v, letter_v, digit_v, wordAt_v, rword_v, isName_v, risName_v, recId_v, rId13_v, moneyCur_v, rCur01_v, inTotal_v, rwithin1_v, exCard_v, recCheck_v, rrecCheck_v, dNext_v, rNext_v, holder_v, rholder_v, foll_v, rfoll_v, rDec_v, rMove_v, Rc.cells]
      intro v' B' ho' hb'
      have dX : Dis B (cat [[(n1, (Obj.cells #[.int .i64 r.kd, .string r.id, .string r.au, .string r.aq, .string r.is, .string r.me, .string r.ca, .int .i64 r.am, .string r.cu, .int .i64 r.da, .int .i64 r.ct, .bool r.fi] 27))], [(n0, (Obj.cells #[.string c.id, .string c.rc, .string c.rs, .string c.is, .string c.aq, .int .i64 c.am, .string c.cu, .int .i64 c.st, .int .i64 c.op, .int .i64 c.du] 25))], A]) := (sp.pick [2, 0, 1, 3] rfl rfl).dis
      have dB' : Dis B' (cat [[(n1, (Obj.cells #[.int .i64 r.kd, .string r.id, .string r.au, .string r.aq, .string r.is, .string r.me, .string r.ca, .int .i64 r.am, .string r.cu, .int .i64 r.da, .int .i64 r.ct, .bool r.fi] 27))], [(n0, (Obj.cells #[.string c.id, .string c.rc, .string c.rs, .string c.is, .string c.aq, .int .i64 c.am, .string c.cu, .int .i64 c.st, .int .i64 c.op, .int .i64 c.du] 25))], A]) := ap_dis hb' dX hXs
      have sp' : Sep [B', [(n1, (Obj.cells #[.int .i64 r.kd, .string r.id, .string r.au, .string r.aq, .string r.is, .string r.me, .string r.ca, .int .i64 r.am, .string r.cu, .int .i64 r.da, .int .i64 r.ct, .bool r.fi] 27))], [(n0, (Obj.cells #[.string c.id, .string c.rc, .string c.rs, .string c.is, .string c.aq, .int .i64 c.am, .string c.cu, .int .i64 c.st, .int .i64 c.op, .int .i64 c.du] 25))], A] := Sep.cons dB' (sp.pick [0, 1, 3] rfl rfl)
      have ow' : OwnL Rc.cells 12 27 v' B' (out ++ [y]) := by
        unfold OwnL
        rw [List.length_append, List.flatMap_append]
        simpa using ho'
      refine ⟨cat [[(n1, (Obj.cells #[.int .i64 r.kd, .string r.id, .string r.au, .string r.aq, .string r.is, .string r.me, .string r.ca, .int .i64 r.am, .string r.cu, .int .i64 r.da, .int .i64 r.ct, .bool r.fi] 27))], [(n0, (Obj.cells #[.string c.id, .string c.rc, .string c.rs, .string c.is, .string c.aq, .int .i64 c.am, .string c.cu, .int .i64 c.st, .int .i64 c.op, .int .i64 c.du] 25))], B', A], SubA.trans (sp'.subs [1, 2, 0, 3] rfl) (SubA.app hXs), ?_⟩
      have lb2 := (show SubA A (cat [[(n1, (Obj.cells #[.int .i64 r.kd, .string r.id, .string r.au, .string r.aq, .string r.is, .string r.me, .string r.ca, .int .i64 r.am, .string r.cu, .int .i64 r.da, .int .i64 r.ct, .bool r.fi] 27))], [(n0, (Obj.cells #[.string c.id, .string c.rc, .string c.rs, .string c.is, .string c.aq, .int .i64 c.am, .string c.cu, .int .i64 c.st, .int .i64 c.op, .int .i64 c.du] 25))], B', A]) from (sp'.pick [1, 2, 0, 3] rfl rfl).subs [3] rfl) _ _ hbk
      simp only [cat, List.cons_append, List.nil_append] at lb2 ⊢
      intro ν2 fr
      have nuE := fr.nu
      simp (maxDischargeDepth := 16) only [argE_nil, argE_cons, ↓vmD, vmV, vmStd, Nat.reduceMul, ↓reduceIte, Nat.reduceAdd, Nat.reduceSub, Nat.reduceEqDiff, Nat.reduceLT, Nat.reduceLeDiff, reduceCtorEq, Int.reduceToNat, Int.reduceLT, Int.reduceLE, Int.reduceEq, Int.reduceNeg, Int.reduceBEq, Int.reduceBNe, String.reduceEq, forall_const, ↓vmDA, vmVA, ↓vmQA, vmR, vmRA, ↓vmSA, vmSV, tyS, nuE, SubA.skip, SubA.refl, fr.2, slIndexByte_v, indexByte_v, indexRune_v, containsRune_v, classOf_v, isWordByte_v, letter_v, digit_v, wordAt_v, rword_v, isName_v, risName_v, recId_v, rId13_v, moneyCur_v, rCur01_v, inTotal_v, rwithin1_v, exCard_v, recCheck_v, rrecCheck_v, dNext_v, rNext_v, holder_v, rholder_v, foll_v, rfoll_v, rDec_v, rMove_v, we, hlt, lb2, hc0]
      exact LoopA.weak (ih (e + 1) x (out ++ [y]) v' B' h3' hm2 ow' (by simp; omega) (sp'.pick [1, 2, 0, 3] rfl rfl)) (by simp only [subE, get_cons, Nat.reduceEqDiff, ↓reduceIte, reduceCtorEq, Nat.reduceAdd, and_self, and_true]) (SubA.refl _)

theorem rMoves_h (A : AH) (c : Cs) (r : Rc) (hc : SzC c) (hr : SzR r) (L : List Int) (p : Option Addr) (cap : Nat) (hL : StR intC 1 A p L) (hl : L.length ≤ 100) (d : Int) : CallA Tryd.prog 15 #[.agg #[.string c.id, .string c.rc, .string c.rs, .string c.is, .string c.aq, .int .i64 c.am, .string c.cu, .int .i64 c.st, .int .i64 c.op, .int .i64 c.du], .agg #[.int .i64 r.kd, .string r.id, .string r.au, .string r.aq, .string r.is, .string r.me, .string r.ca, .int .i64 r.am, .string r.cu, .int .i64 r.da, .int .i64 r.ct, .bool r.fi], .slice p L.length cap, .int .i64 d] A (fun u_ A_ => ∃ v B, u_ = .tuple #[v, .int .i64 (movL c r d L 0 []).2] ∧ OwnL Rc.cells 12 27 v B (movL c r d L 0 []).1 ∧ Dis B A ∧ SubA (B ++ A) A_) := by
  refine callA_of_denA ⟨Tryd.prog, 15, Tryd.f15, 51, [0, 1, 2, 3, 4, 5, 8, 9, 10, 11, 12, 13, 14, 15], [], [(6, .p [(0, 0), (1, 0), (2, 0), (3, 0), (4, 0), (5, 0), (6, 0), (7, 0), (8, 0), (9, 0), (10, 0), (11, 0), (12, 0), (13, 0), (14, 0), (15, 0), (16, 1), (17, 2), (18, 0), (19, 0)])], _⟩ (args := [_, _, _, _]) Tryd.func15 rfl (by kernel_rfl) Tryd.ntmps15 (by simp) (by kernel_rfl) ?_
  intro ν fr; have nuE := fr.nu
  simp (maxDischargeDepth := 16) only [argE_nil, argE_cons, ↓vmD, vmV, vmStd, Nat.reduceMul, ↓reduceIte, Nat.reduceAdd, Nat.reduceSub, Nat.reduceEqDiff, Nat.reduceLT, Nat.reduceLeDiff, reduceCtorEq, Int.reduceToNat, Int.reduceLT, Int.reduceLE, Int.reduceEq, Int.reduceNeg, Int.reduceBEq, Int.reduceBNe, String.reduceEq, forall_const, ↓vmDA, vmVA, ↓vmQA, vmR, vmRA, ↓vmSA, vmSV, tyS, nuE, SubA.skip, SubA.refl, fr.2, slIndexByte_v, indexByte_v, indexRune_v, containsRune_v, classOf_v, isWordByte_v, letter_v, digit_v, wordAt_v, rword_v, isName_v, risName_v, recId_v, rId13_v, moneyCur_v, rCur01_v, inTotal_v, rwithin1_v, exCard_v, recCheck_v, rrecCheck_v, dNext_v, rNext_v, holder_v, rholder_v, foll_v, rfoll_v, rDec_v, rMove_v]
  have hA0 := fr.2 0
  have hA1 := fr.2 1
  have dst_ : ((ν 0 = ν 1) = False) ∧ ((ν 1 = ν 0) = False) := (by simp [nuE]); generalize ν 0 = n0 at dst_  hA0 hA1 ⊢; generalize ν 1 = n1 at dst_  hA0 hA1 ⊢
  obtain ⟨e, l, s, out, v, B, he, hs, hv, hB, h3, hm, hown, hle, sp⟩ : ∃ (e : Nat) (l : List Int) (s : Int) (out : List Rc) (v : Value) (B : AH), e = 0 ∧ s = 0 ∧ v = .slice none 0 0 ∧ B = [] ∧ l = L.drop e ∧ movL c r d L 0 [] = movL c r d l s out ∧ OwnL Rc.cells 12 27 v B out ∧ out.length ≤ e ∧ Sep [[(n1, (Obj.cells #[.int .i64 r.kd, .string r.id, .string r.au, .string r.aq, .string r.is, .string r.me, .string r.ca, .int .i64 r.am, .string r.cu, .int .i64 r.da, .int .i64 r.ct, .bool r.fi] 27))], [(n0, (Obj.cells #[.string c.id, .string c.rc, .string c.rs, .string c.is, .string c.aq, .int .i64 c.am, .string c.cu, .int .i64 c.st, .int .i64 c.op, .int .i64 c.du] 25))], B, A] :=
    ⟨0, L, 0, [], .slice none 0 0, [], rfl, rfl, rfl, rfl, by simp, rfl, OwnL.nil _ _ _, by simp, Sep.fresh (by simp [cat, Vm.look, hA1, dst_]) _ (Sep.fresh (by simp [cat, hA0]) _ (Sep.cons (Dis.nil _) (Sep.one A)))⟩
  rw [show (12, some (Value.int .i64 0)) = (12, some (Value.int .i64 (e : Int))) by rw [he]; rfl]
  rw [show (11, some (Value.int .i64 0)) = (11, some (Value.int .i64 s)) by rw [hs]]
  rw [show (10, some (Value.slice none 0 0)) = (10, some v) by rw [hv]]
  refine LoopA.at (A := cat [[(n1, (Obj.cells #[.int .i64 r.kd, .string r.id, .string r.au, .string r.aq, .string r.is, .string r.me, .string r.ca, .int .i64 r.am, .string r.cu, .int .i64 r.da, .int .i64 r.ct, .bool r.fi] 27))], [(n0, (Obj.cells #[.string c.id, .string c.rc, .string c.rs, .string c.is, .string c.aq, .int .i64 c.am, .string c.cu, .int .i64 c.st, .int .i64 c.op, .int .i64 c.du] 25))], B, A]) ?_ ?_
  · subst hB
    exact SubA.refl _
  clear he hs hv hB nuE fr
  simp only [cat, List.cons_append, List.nil_append]
  induction l generalizing e s out v B with
  | nil =>
    have hle2 := drop_nil h3
    have hlt : ((e : Int) < (L.length : Int)) = False := by simp; omega
    have hm2 : movL c r d L 0 [] = (out, 0) := hm
    have sB : SubA (B ++ A) ((n1, (Obj.cells #[.int .i64 r.kd, .string r.id, .string r.au, .string r.aq, .string r.is, .string r.me, .string r.ca, .int .i64 r.am, .string r.cu, .int .i64 r.da, .int .i64 r.ct, .bool r.fi] 27)) :: (n0, (Obj.cells #[.string c.id, .string c.rc, .string c.rs, .string c.is, .string c.aq, .int .i64 c.am, .string c.cu, .int .i64 c.st, .int .i64 c.op, .int .i64 c.du] 25)) :: (B ++ A)) := sp.subs [2, 3] rfl
    have dB : Dis B A := (sp.pick [2, 3] rfl rfl).dis
    refine LoopA.intro (by kernel_rfl) ?_
    intro ν fr; have nuE := fr.nu
    simp (maxDischargeDepth := 16) only [argE_nil, argE_cons, ↓vmD, vmV, vmStd, Nat.reduceMul, ↓reduceIte, Nat.reduceAdd, Nat.reduceSub, Nat.reduceEqDiff, Nat.reduceLT, Nat.reduceLeDiff, reduceCtorEq, Int.reduceToNat, Int.reduceLT, Int.reduceLE, Int.reduceEq, Int.reduceNeg, Int.reduceBEq, Int.reduceBNe, String.reduceEq, forall_const, ↓vmDA, vmVA, ↓vmQA, vmR, vmRA, ↓vmSA, vmSV, tyS, nuE, SubA.skip, SubA.refl, fr.2, slIndexByte_v, indexByte_v, indexRune_v, containsRune_v, classOf_v, isWordByte_v, letter_v, digit_v, wordAt_v, rword_v, isName_v, risName_v, recId_v, rId13_v, moneyCur_v, rCur01_v, inTotal_v, rwithin1_v, exCard_v, recCheck_v, rrecCheck_v, dNext_v, rNext_v, holder_v, rholder_v, foll_v, rfoll_v, rDec_v, rMove_v, hlt]
    rw [hm2]
    exact ⟨v, B, rfl, hown, dB, sB⟩
  | cons x l ih =>
    obtain ⟨ha, hl2, h3'⟩ := drop_some h3
    have hlt : ((e : Int) < (L.length : Int)) = True := by simp; omega
    have we : IntKind.i64.wrap ((e : Int) + 1) = ((e + 1 : Nat) : Int) := by rw [w_i64 (by omega) (by omega)]; omega
    have wo : IntKind.i64.wrap ((out.length : Int) + 1) = ((out.length + 1 : Nat) : Int) := by rw [w_i64 (by omega) (by omega)]; omega
    obtain ⟨bk, off, cs, ty, fr0, hp0, hbk, hcr, hcc⟩ := hL.at ha
    subst hp0
    obtain ⟨q, vcap, rfl, hvc, hvs⟩ := hown.read Rc.len
    have sA : SubA A ((n1, (Obj.cells #[.int .i64 r.kd, .string r.id, .string r.au, .string r.aq, .string r.is, .string r.me, .string r.ca, .int .i64 r.am, .string r.cu, .int .i64 r.da, .int .i64 r.ct, .bool r.fi] 27)) :: (n0, (Obj.cells #[.string c.id, .string c.rc, .string c.rs, .string c.is, .string c.aq, .int .i64 c.am, .string c.cu, .int .i64 c.st, .int .i64 c.op, .int .i64 c.du] 25)) :: (B ++ A)) := sp.subs [3] rfl
    have lb := sA _ _ hbk
    have mv := fun D (hD : SubA A D) => rMove_v c r s x d ((out.length + 1 : Nat) : Int) hc hr D
    have mvs := mv _ sA
    have hc0 : cs[off + e * 1]? = some (.int .i64 x) := hcc 0 _ rfl
    refine LoopA.intro (by kernel_rfl) ?_
    intro ν fr; have nuE := And.intro (fr.mem (b := n0) (by simp)) (And.intro (fr.mem (b := n1) (by simp)) (And.intro dst_ fr.nu))
    have nb0 := look_ne (fr.2 0) lb
    have nb1 := look_ne (fr.2 1) lb
    by_cases hE : movE c r s x d ((out.length + 1 : Nat) : Int) = 0
    rotate_left
    · have hv := movV_err (c := c) (r := r) (s := s) (t := x) (d := d) (n := ((out.length + 1 : Nat) : Int)) rfl hE
      have q1 : (movE c r s x d ((out.length + 1 : Nat) : Int) != 0) = true := by simpa using hE
      have hm2 : movL c r d L 0 [] = ([], movE c r s x d ((out.length + 1 : Nat) : Int)) := by rw [hm]; simp only [movL]; rw [if_pos hE]
      rw [hv] at mvs
      simp (maxDischargeDepth := 16) only [argE_nil, argE_cons, ↓vmD, vmV, vmStd, Nat.reduceMul, ↓reduceIte, Nat.reduceAdd, Nat.reduceSub, Nat.reduceEqDiff, Nat.reduceLT, Nat.reduceLeDiff, reduceCtorEq, Int.reduceToNat, Int.reduceLT, Int.reduceLE, Int.reduceEq, Int.reduceNeg, Int.reduceBEq, Int.reduceBNe, String.reduceEq, forall_const, ↓vmDA, vmVA, ↓vmQA, vmR, vmRA, ↓vmSA, vmSV, tyS, nuE, SubA.skip, SubA.refl, fr.2, slIndexByte_v, indexByte_v, indexRune_v, containsRune_v, classOf_v, isWordByte_v, letter_v, digit_v, wordAt_v, rword_v, isName_v, risName_v, recId_v, rId13_v, moneyCur_v, rCur01_v, inTotal_v, rwithin1_v, exCard_v, recCheck_v, rrecCheck_v, dNext_v, rNext_v, holder_v, rholder_v, foll_v, rfoll_v, rDec_v, rMove_v, hlt, lb, hc0, mvs, wo, q1]
      rw [hm2]
      exact ⟨_, [], rfl, OwnL.nil _ _ _, Dis.nil _, SubA.trans sA (SubA.skip (fr.2 0) (SubA.refl _))⟩
    have q1 : (movE c r s x d ((out.length + 1 : Nat) : Int) != 0) = false := by simpa using hE
    by_cases hH : holdF s = holdF x
    · have hv := movV_no (c := c) (r := r) (s := s) (t := x) (d := d) (n := ((out.length + 1 : Nat) : Int)) hE hH
      rw [hv] at mvs
      have hm2 : movL c r d L 0 [] = movL c r d l x out := by rw [hm]; simp only [movL]; rw [if_neg (by simpa using hE), if_pos hH]
      simp (maxDischargeDepth := 16) only [argE_nil, argE_cons, ↓vmD, vmV, vmStd, Nat.reduceMul, ↓reduceIte, Nat.reduceAdd, Nat.reduceSub, Nat.reduceEqDiff, Nat.reduceLT, Nat.reduceLeDiff, reduceCtorEq, Int.reduceToNat, Int.reduceLT, Int.reduceLE, Int.reduceEq, Int.reduceNeg, Int.reduceBEq, Int.reduceBNe, String.reduceEq, forall_const, ↓vmDA, vmVA, ↓vmQA, vmR, vmRA, ↓vmSA, vmSV, tyS, nuE, SubA.skip, SubA.refl, fr.2, slIndexByte_v, indexByte_v, indexRune_v, containsRune_v, classOf_v, isWordByte_v, letter_v, digit_v, wordAt_v, rword_v, isName_v, risName_v, recId_v, rId13_v, moneyCur_v, rCur01_v, inTotal_v, rwithin1_v, exCard_v, recCheck_v, rrecCheck_v, dNext_v, rNext_v, holder_v, rholder_v, foll_v, rfoll_v, rDec_v, rMove_v, hlt, lb, nb0, nb1, hc0, mvs, wo, q1, we]
      exact LoopA.weak (ih (e + 1) x out _ B h3' hm2 hown (by omega) sp) (by simp only [subE, get_cons, Nat.reduceEqDiff, ↓reduceIte, reduceCtorEq, Nat.reduceAdd, and_self, and_true]) (SubA.skip (fr.2 0) (SubA.refl _))
    · have hv := movV_yes (c := c) (r := r) (s := s) (t := x) (d := d) (n := ((out.length + 1 : Nat) : Int)) hE hH
      rw [Int.toNat_natCast, Rc.agg] at hv
      have hm2 : movL c r d L 0 [] = movL c r d l x (out ++ [movR c r x d (out.length + 1)]) := by rw [hm]; simp only [movL]; rw [if_neg (by simpa using hE), if_neg hH]
      generalize movR c r x d (out.length + 1) = y at hv hm2
      rw [hv] at mvs
      simp (maxDischargeDepth := 16) only [argE_nil, argE_cons, ↓vmD, vmV, vmStd, Nat.reduceMul, ↓reduceIte, Nat.reduceAdd, Nat.reduceSub, Nat.reduceEqDiff, Nat.reduceLT, Nat.reduceLeDiff, reduceCtorEq, Int.reduceToNat, Int.reduceLT, Int.reduceLE, Int.reduceEq, Int.reduceNeg, Int.reduceBEq, Int.reduceBNe, String.reduceEq, forall_const, ↓vmDA, vmVA, ↓vmQA, vmR, vmRA, ↓vmSA, vmSV, tyS, nuE, SubA.skip, SubA.refl, fr.2, slIndexByte_v, indexByte_v, indexRune_v, containsRune_v, classOf_v, isWordByte_v, letter_v, digit_v, wordAt_v, rword_v, isName_v, risName_v, recId_v, rId13_v, moneyCur_v, rCur01_v, inTotal_v, rwithin1_v, exCard_v, recCheck_v, rrecCheck_v, dNext_v, rNext_v, holder_v, rholder_v, foll_v, rfoll_v, rDec_v, rMove_v, hlt, lb, hc0, mvs, wo, q1, we, sc_rec]
      have n0' := fr.2 0
      have n1' := fr.2 1
      have hX : SubA (cat [[(n1, (Obj.cells #[.int .i64 r.kd, .string r.id, .string r.au, .string r.aq, .string r.is, .string r.me, .string r.ca, .int .i64 r.am, .string r.cu, .int .i64 r.da, .int .i64 r.ct, .bool r.fi] 27))], [(n0, (Obj.cells #[.string c.id, .string c.rc, .string c.rs, .string c.is, .string c.aq, .int .i64 c.am, .string c.cu, .int .i64 c.st, .int .i64 c.op, .int .i64 c.du] 25))], A]) ((n1, (Obj.cells #[.int .i64 r.kd, .string r.id, .string r.au, .string r.aq, .string r.is, .string r.me, .string r.ca, .int .i64 r.am, .string r.cu, .int .i64 r.da, .int .i64 r.ct, .bool r.fi] 27)) :: (n0, (Obj.cells #[.string c.id, .string c.rc, .string c.rs, .string c.is, .string c.aq, .int .i64 c.am, .string c.cu, .int .i64 c.st, .int .i64 c.op, .int .i64 c.du] 25)) :: (B ++ A)) := sp.subs [0, 1, 3] rfl
      have hBs : SubA B ((n1, (Obj.cells #[.int .i64 r.kd, .string r.id, .string r.au, .string r.aq, .string r.is, .string r.me, .string r.ca, .int .i64 r.am, .string r.cu, .int .i64 r.da, .int .i64 r.ct, .bool r.fi] 27)) :: (n0, (Obj.cells #[.string c.id, .string c.rc, .string c.rs, .string c.is, .string c.aq, .int .i64 c.am, .string c.cu, .int .i64 c.st, .int .i64 c.op, .int .i64 c.du] 25)) :: (B ++ A)) := sp.subs [2] rfl
      have hXs : SubA (cat [[(n1, (Obj.cells #[.int .i64 r.kd, .string r.id, .string r.au, .string r.aq, .string r.is, .string r.me, .string r.ca, .int .i64 r.am, .string r.cu, .int .i64 r.da, .int .i64 r.ct, .bool r.fi] 27))], [(n0, (Obj.cells #[.string c.id, .string c.rc, .string c.rs, .string c.is, .string c.aq, .int .i64 c.am, .string c.cu, .int .i64 c.st, .int .i64 c.op, .int .i64 c.du] 25))], A]) ((ν 1, (Obj.cells #[.int .i64 y.kd, .string y.id, .string y.au, .string y.aq, .string y.is, .string y.me, .string y.ca, .int .i64 y.am, .string y.cu, .int .i64 y.da, .int .i64 y.ct, .bool y.fi] 27)) :: (ν 0, (Obj.cells #[.int .i64 y.kd, .string y.id, .string y.au, .string y.aq, .string y.is, .string y.me, .string y.ca, .int .i64 y.am, .string y.cu, .int .i64 y.da, .int .i64 y.ct, .bool y.fi] 27)) :: (n1, (Obj.cells #[.int .i64 r.kd, .string r.id, .string r.au, .string r.aq, .string r.is, .string r.me, .string r.ca, .int .i64 r.am, .string r.cu, .int .i64 r.da, .int .i64 r.ct, .bool r.fi] 27)) :: (n0, (Obj.cells #[.string c.id, .string c.rc, .string c.rs, .string c.is, .string c.aq, .int .i64 c.am, .string c.cu, .int .i64 c.st, .int .i64 c.op, .int .i64 c.du] 25)) :: (B ++ A)) := SubA.skip (hX.none n1') (SubA.skip (hX.none n0') hX)
      refine RunA.use ?_
      refine append_src (m := 1) (news := y.cells) (B := B) slc30 zro27 rfl (by decide) hown ?_ (.inr ⟨ν 1, 0, rfl, ?_⟩) (by simp [Rc.cells, Value.oneCell']) (by simp only [maxLen]; omega) (by omega) ?_
      · exact SubA.skip (hBs.none n1') (SubA.skip (hBs.none n0') hBs)
      · simp (maxDischargeDepth := 16) only [argE_nil, argE_cons, ↓vmD, vmV, vmStd, Nat.reduceMul, ↓reduceIte, Nat.reduceAdd, Nat.reduceSub, Nat.reduceEqDiff, Nat.reduceLT, Nat.reduceLeDiff, reduceCtorEq, Int.reduceToNat, Int.reduceLT, Int.reduceLE, Int.reduceEq, Int.reduceNeg, Int.reduceBEq, Int.reduceBNe, String.reduceEq, forall_const, ↓vmDA, vmVA, ↓vmQA, vmR, vmRA, ↓vmSA, vmSV, tyS, nuE, SubA.skip, SubA.refl, fr.2, slIndexByte_v, indexByte_v, indexRune_v, containsRune_v, classOf_v, isWordByte_v, letter_v, digit_v, wordAt_v, rword_v, isName_v, risName_v, recId_v, rId13_v, moneyCur_v, rCur01_v, inTotal_v, rwithin1_v, exCard_v, recCheck_v, rrecCheck_v, dNext_v, rNext_v, holder_v, rholder_v, foll_v, rfoll_v, rDec_v, rMove_v, Rc.cells]
      intro v' B' ho' hb'
      have dX : Dis B (cat [[(n1, (Obj.cells #[.int .i64 r.kd, .string r.id, .string r.au, .string r.aq, .string r.is, .string r.me, .string r.ca, .int .i64 r.am, .string r.cu, .int .i64 r.da, .int .i64 r.ct, .bool r.fi] 27))], [(n0, (Obj.cells #[.string c.id, .string c.rc, .string c.rs, .string c.is, .string c.aq, .int .i64 c.am, .string c.cu, .int .i64 c.st, .int .i64 c.op, .int .i64 c.du] 25))], A]) := (sp.pick [2, 0, 1, 3] rfl rfl).dis
      have dB' : Dis B' (cat [[(n1, (Obj.cells #[.int .i64 r.kd, .string r.id, .string r.au, .string r.aq, .string r.is, .string r.me, .string r.ca, .int .i64 r.am, .string r.cu, .int .i64 r.da, .int .i64 r.ct, .bool r.fi] 27))], [(n0, (Obj.cells #[.string c.id, .string c.rc, .string c.rs, .string c.is, .string c.aq, .int .i64 c.am, .string c.cu, .int .i64 c.st, .int .i64 c.op, .int .i64 c.du] 25))], A]) := ap_dis hb' dX hXs
      have sp' : Sep [B', [(n1, (Obj.cells #[.int .i64 r.kd, .string r.id, .string r.au, .string r.aq, .string r.is, .string r.me, .string r.ca, .int .i64 r.am, .string r.cu, .int .i64 r.da, .int .i64 r.ct, .bool r.fi] 27))], [(n0, (Obj.cells #[.string c.id, .string c.rc, .string c.rs, .string c.is, .string c.aq, .int .i64 c.am, .string c.cu, .int .i64 c.st, .int .i64 c.op, .int .i64 c.du] 25))], A] := Sep.cons dB' (sp.pick [0, 1, 3] rfl rfl)
      have ow' : OwnL Rc.cells 12 27 v' B' (out ++ [y]) := by
        unfold OwnL
        rw [List.length_append, List.flatMap_append]
        simpa using ho'
      refine ⟨cat [[(n1, (Obj.cells #[.int .i64 r.kd, .string r.id, .string r.au, .string r.aq, .string r.is, .string r.me, .string r.ca, .int .i64 r.am, .string r.cu, .int .i64 r.da, .int .i64 r.ct, .bool r.fi] 27))], [(n0, (Obj.cells #[.string c.id, .string c.rc, .string c.rs, .string c.is, .string c.aq, .int .i64 c.am, .string c.cu, .int .i64 c.st, .int .i64 c.op, .int .i64 c.du] 25))], B', A], SubA.trans (sp'.subs [1, 2, 0, 3] rfl) (SubA.app hXs), ?_⟩
      have lb2 := (show SubA A (cat [[(n1, (Obj.cells #[.int .i64 r.kd, .string r.id, .string r.au, .string r.aq, .string r.is, .string r.me, .string r.ca, .int .i64 r.am, .string r.cu, .int .i64 r.da, .int .i64 r.ct, .bool r.fi] 27))], [(n0, (Obj.cells #[.string c.id, .string c.rc, .string c.rs, .string c.is, .string c.aq, .int .i64 c.am, .string c.cu, .int .i64 c.st, .int .i64 c.op, .int .i64 c.du] 25))], B', A]) from (sp'.pick [1, 2, 0, 3] rfl rfl).subs [3] rfl) _ _ hbk
      simp only [cat, List.cons_append, List.nil_append] at lb2 ⊢
      intro ν2 fr
      have nuE := fr.nu
      simp (maxDischargeDepth := 16) only [argE_nil, argE_cons, ↓vmD, vmV, vmStd, Nat.reduceMul, ↓reduceIte, Nat.reduceAdd, Nat.reduceSub, Nat.reduceEqDiff, Nat.reduceLT, Nat.reduceLeDiff, reduceCtorEq, Int.reduceToNat, Int.reduceLT, Int.reduceLE, Int.reduceEq, Int.reduceNeg, Int.reduceBEq, Int.reduceBNe, String.reduceEq, forall_const, ↓vmDA, vmVA, ↓vmQA, vmR, vmRA, ↓vmSA, vmSV, tyS, nuE, SubA.skip, SubA.refl, fr.2, slIndexByte_v, indexByte_v, indexRune_v, containsRune_v, classOf_v, isWordByte_v, letter_v, digit_v, wordAt_v, rword_v, isName_v, risName_v, recId_v, rId13_v, moneyCur_v, rCur01_v, inTotal_v, rwithin1_v, exCard_v, recCheck_v, rrecCheck_v, dNext_v, rNext_v, holder_v, rholder_v, foll_v, rfoll_v, rDec_v, rMove_v, we, hlt, lb2, hc0]
      exact LoopA.weak (ih (e + 1) x (out ++ [y]) v' B' h3' hm2 ow' (by simp; omega) (sp'.pick [1, 2, 0, 3] rfl rfl)) (by simp only [subE, get_cons, Nat.reduceEqDiff, ↓reduceIte, reduceCtorEq, Nat.reduceAdd, and_self, and_true]) (SubA.refl _)

end Go.Proofs.YtejcnpllodgmlaaDoor
