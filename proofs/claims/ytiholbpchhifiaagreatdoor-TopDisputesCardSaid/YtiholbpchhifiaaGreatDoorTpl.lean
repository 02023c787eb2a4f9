/-
The top of disputes: the law, and its walk.
Conditions: none.
-/
import Derived.Test.YtiholbpchhifiaaGreatDoorTpa
import Derived.Test.YtiholbpchhifiaaGreatDoorVmOpen
namespace Go.Proofs.YtiholbpchhifiaaGreatDoor
open Go.Vm
set_option linter.unusedSimpArgs false
set_option linter.unusedVariables false
set_option maxHeartbeats 8000000
set_option maxRecDepth 20000
theorem vbTpl : type_of% (And.intro @slIndexByte_v (And.intro @indexByte_v (And.intro @indexRune_v (And.intro @containsRune_v (And.intro @classOf_v (And.intro @isWordByte_v (And.intro @wordAt_v (And.intro @isName_v (And.intro @possible_v (And.intro @days_v (And.intro @due_v (And.intro @evName_v (And.intro @evCheck_v (And.intro @dNext_v (And.intro @recId_v (And.intro @moneyCur_v (And.intro @inTotal_v (And.intro @exCard_v (And.intro @recCheck_v (And.intro @holder_v (And.intro @foll_v (And.intro @dspId_v (And.intro @isNaN_v (And.intro @isLess_v (And.intro @len2_v (And.intro @lenB2_v (And.intro @monChk_v (And.intro @withn_v (@saleT_v))))))))))))))))))))))))))))) := And.intro @slIndexByte_v (And.intro @indexByte_v (And.intro @indexRune_v (And.intro @containsRune_v (And.intro @classOf_v (And.intro @isWordByte_v (And.intro @wordAt_v (And.intro @isName_v (And.intro @possible_v (And.intro @days_v (And.intro @due_v (And.intro @evName_v (And.intro @evCheck_v (And.intro @dNext_v (And.intro @recId_v (And.intro @moneyCur_v (And.intro @inTotal_v (And.intro @exCard_v (And.intro @recCheck_v (And.intro @holder_v (And.intro @foll_v (And.intro @dspId_v (And.intro @isNaN_v (And.intro @isLess_v (And.intro @len2_v (And.intro @lenB2_v (And.intro @monChk_v (And.intro @withn_v (@saleT_v))))))))))))))))))))))))))))
structure Mv where
  ev : Nat
  dy : Nat
  ex : Bool
def mvC (m : Mv) : List Value := [.int .u8 (m.ev : Int), .int .u8 (m.dy : Int), .bool m.ex]
theorem mvC_len (m : Mv) : (mvC m).length = 3 := rfl
theorem exp_use' {g : FuncId} {args : Array Value} {A E X : AH} {db : Nat} {fv : Value} {R : List Rs} {q : List Txt × List Fd} {K : Value → AH → Prop} (hc : CallA Tryz.prog g args (E ++ X) fun u D => ExpP X db fv R u D q) (hs : SubA (E ++ X) A)
    (hk : ∀ u E' F', DkP E' db fv R F' → F'.map Fo.d = q.2 → Dis E' X → K u (E' ++ X)) : CallA Tryz.prog g args A K :=
  CallA.useX hc hs [] (SubA.nil _) (fun x hx => absurd rfl hx) fun v D ⟨B, E', F', h0, h1, h2, h3, h4, h5⟩ _ => ⟨E' ++ X, SubA.trans (SubA.app h4.right) h5, by rw [List.append_nil]; exact hk v E' F' h1 h2 (Dis.subr h3 h4.right)⟩
theorem getX_top {a d : Int} {f : Fd} (h : TopI a d f) : getX dT [f] = some f.c := by
  have hid : f.c.id = dT := by rw [h.c]; rfl
  simp [getX, posF, hid]
theorem histX_top {a d : Int} {f : Fd} (h : TopI a d f) : histX dT [f] = f.h := by
  have hid : f.c.id = dT := by rw [h.c]; rfl
  simp [histX, posF, hid]
theorem hist_len {F : List Fo} {f : Fd} {a d : Int} (h : TopI a d f) (hF : F.map Fo.d = [f]) : ∀ g ∈ F, g.d.h.length ≤ 100 := fun g hg => by
  have : g.d ∈ F.map Fo.d := List.mem_map_of_mem hg
  rw [hF] at this
  simp at this
  rw [this]
  have := h.len
  have := h.st
  omega
theorem first_one {a d : Int} {f : Fd} (h : TopI a d f) : f.h[0]? = some 1 := by
  have hne := h.ne
  have hch := h.ch
  cases hf : f.h with
  | nil => exact absurd hf hne
  | cons t l =>
    rw [hf] at hch
    have := hch.1
    unfold follF at this
    rw [if_pos rfl] at this
    simpa using this
theorem last_at : ∀ {h : List Int} {s : Int}, h ≠ [] → h[h.length - 1]? = some (lasT s h)
  | [], s, hn => absurd rfl hn
  | [t], s, _ => rfl
  | t :: u :: l, s, _ => by
    have := last_at (h := u :: l) (s := t) (by simp)
    simp only [List.length_cons, Nat.add_sub_cancel] at this ⊢
    rw [List.getElem?_cons_succ]
    exact this
theorem cellsI {A : AH} {p : Option Addr} {h : List Int} (hs : StR intC 1 A p h) (hn : h ≠ []) : ∃ bk off cs ty fr0, p = some ⟨bk, off, none⟩ ∧ Vm.look A bk = some (.cells cs ty fr0) ∧ ∀ (j : Nat) (t : Int), h[j]? = some t → cs[off + j * 1]? = some (.int .i64 t) := by
  rcases hs with h0 | ⟨bk, off, cs, ty, fr0, h1, h2, h3⟩
  · exact absurd h0 hn
  · exact ⟨bk, off, cs, ty, fr0, h1, h2, fun j t ht => (rdCS_cell (h3 j t ht)).2 0 _ rfl⟩
def netT (a s : Int) : Int := if holdF s = 1 then a else 0
def endT (f : Fd) : Prop := (f.c.st = 5 ∨ f.c.st = 6) ∧ f.c.du = 0
theorem look_one (n : Nat) (o : Obj) : Vm.look [(n, o)] n = some o := by
  simp only [Vm.look, if_true]
theorem sc_2 (a b : ByteArray) : sliceCells Tryz.prog 37 2 [(0, .string a), (1, .string b)] = some (9, #[.string a, .string b]) := by kernel_rfl
theorem topLaw_h (A : AH) (hT : TabA A) (a : Int) (M : List Mv) (p : Option Addr) (cap : Nat) (hM : StR mvC 3 A p M) (hm : ∀ m ∈ M, m.ev ≤ 255 ∧ m.dy ≤ 255) (is : Bool) : CallA Tryz.prog 3 #[.int .i64 a, .slice p M.length cap, .bool is] A (fun u_ A_ => u_ = .bool true ∧ SubA A A_) := by
  refine callA_of_denA ⟨Tryz.prog, 3, Tryz.f3, 234, [0, 1, 2, 6, 7, 8, 9, 10, 11, 12, 13, 14, 15, 16, 17, 18, 19, 20, 21, 22, 23, 24, 25, 26, 27], [4, 7, 6, 8, 9, 10, 12, 14], [(27, .q false), (32, .p [(0, 0), (1, 0), (2, 0), (3, 0), (4, 0), (5, 0), (6, 0), (7, 0), (8, 0), (9, 0), (10, 0), (11, 0), (12, 0), (13, 0), (14, 0), (15, 1), (16, 2), (17, 0), (18, 0)])], _⟩ (args := [_, _, _]) Tryz.func3 rfl (by kernel_rfl) Tryz.ntmps3 (by simp) (by kernel_rfl) ?_
  intro ν fr; have nuE := fr.nu
  simp (maxDischargeDepth := 16) only [argE_nil, argE_cons, ↓vmD, vmV, vmStd, Nat.reduceMul, ↓reduceIte, Nat.reduceAdd, Nat.reduceSub, Nat.reduceEqDiff, Nat.reduceLT, Nat.reduceLeDiff, reduceCtorEq, Int.reduceToNat, Int.reduceLT, Int.reduceLE, Int.reduceEq, Int.reduceNeg, Int.reduceBEq, Int.reduceBNe, String.reduceEq, forall_const, ↓vmDA, vmVA, ↓vmQA, vmR, vmRA, ↓vmSA, vmSV, tyS, nuE, SubA.skip, SubA.refl, fr.2, vbTpl]
  clear nuE fr
  refine CallA.newX (deskT_h A) (SubA.refl A) ?_
  rintro v E ⟨db, fv, R, rfl, hE, hR⟩ hd
  refine ⟨E ++ A, SubA.refl _, ?_⟩
  intro ν fr; have nuE := fr.nu
  have f0 := fr.2 0
  by_cases h12 : 12 < M.length
  · have t12 : ((12 : Int) < (M.length : Int)) = True := eq_true (by omega)
    simp (maxDischargeDepth := 16) only [argE_nil, argE_cons, ↓vmD, vmV, vmStd, Nat.reduceMul, ↓reduceIte, Nat.reduceAdd, Nat.reduceSub, Nat.reduceEqDiff, Nat.reduceLT, Nat.reduceLeDiff, reduceCtorEq, Int.reduceToNat, Int.reduceLT, Int.reduceLE, Int.reduceEq, Int.reduceNeg, Int.reduceBEq, Int.reduceBNe, String.reduceEq, forall_const, ↓vmDA, vmVA, ↓vmQA, vmR, vmRA, ↓vmSA, vmSV, tyS, nuE, SubA.skip, SubA.refl, fr.2, vbTpl, t12]
    clear nuE
    have sA : ∀ o, SubA A ((ν 0, o) :: (E ++ A)) := fun o => SubA.trans hd.right (SubA.fresh f0 (SubA.refl _))
    refine CallA.newX (pure_n (topAwk_h A hT)) (sA _) ?_
    rintro v B rfl hd2
    refine ⟨A, SubA.trans (sA _) hd2.right, ?_⟩
    clear fr f0
    intro ν fr; have nuE := fr.nu
    simp (maxDischargeDepth := 16) only [argE_nil, argE_cons, ↓vmD, vmV, vmStd, Nat.reduceMul, ↓reduceIte, Nat.reduceAdd, Nat.reduceSub, Nat.reduceEqDiff, Nat.reduceLT, Nat.reduceLeDiff, reduceCtorEq, Int.reduceToNat, Int.reduceLT, Int.reduceLE, Int.reduceEq, Int.reduceNeg, Int.reduceBEq, Int.reduceBNe, String.reduceEq, forall_const, ↓vmDA, vmVA, ↓vmQA, vmR, vmRA, ↓vmSA, vmSV, tyS, nuE, SubA.skip, SubA.refl, fr.2, vbTpl]
  have t12 : ((12 : Int) < (M.length : Int)) = False := eq_false (by omega)
  simp (maxDischargeDepth := 16) only [argE_nil, argE_cons, ↓vmD, vmV, vmStd, Nat.reduceMul, ↓reduceIte, Nat.reduceAdd, Nat.reduceSub, Nat.reduceEqDiff, Nat.reduceLT, Nat.reduceLeDiff, reduceCtorEq, Int.reduceToNat, Int.reduceLT, Int.reduceLE, Int.reduceEq, Int.reduceNeg, Int.reduceBEq, Int.reduceBNe, String.reduceEq, forall_const, ↓vmDA, vmVA, ↓vmQA, vmR, vmRA, ↓vmSA, vmSV, tyS, nuE, SubA.skip, SubA.refl, fr.2, vbTpl, t12]
  have dst_ : True := (by simp [nuE]); generalize ν 0 = n9 at dst_  f0 ⊢
  clear nuE fr dst_
  have fE : Vm.look E n9 = none := (SubA.left E A).none f0
  have fA : Vm.look A n9 = none := hd.right.none f0
  refine open_use (openP_h E ((n9, (Obj.cells #[.int .i64 1, .string (bs pT), .string (bs []), .string (bs shopT), .string (bs homeT), .string (bs mT), .string (bs cardT), .int .i64 1000, .string (bs eurT), .int .i64 10, .int .i64 5411, .bool true] 29)) :: A) db fv R [] hE (dis_cons fE hd) ⟨(fun f hf => by cases hf), by simp, by simp⟩ dT rTop fraudT a 20 [] none 0 StR.nil) (cons_back fE) ?_
  intro E1 fv1 F1 g1 g2 g3
  rw [hR, List.map_nil] at g2 ⊢
  have hA1 : SubA A (E1 ++ ((n9, (Obj.cells #[.int .i64 1, .string (bs pT), .string (bs []), .string (bs shopT), .string (bs homeT), .string (bs mT), .string (bs cardT), .int .i64 1000, .string (bs eurT), .int .i64 10, .int .i64 5411, .bool true] 29)) :: A)) := SubA.trans (SubA.skip fA (SubA.refl A)) g3.right
  by_cases ha : 1 ≤ a ∧ a ≤ 1000
  rotate_left
  · have he : (openX [rnTop] [] dT rTop fraudT a 20 []).1 = 4 := by
      unfold openX
      rw [topOpen, if_pos (show a < 1 ∨ 1000 < a by omega)]
      rfl
    rw [he]
    intro ν fr; have nuE := fr.nu
    by_cases ha1 : a < 1
    · simp (maxDischargeDepth := 16) only [argE_nil, argE_cons, ↓vmD, vmV, vmStd, Nat.reduceMul, ↓reduceIte, Nat.reduceAdd, Nat.reduceSub, Nat.reduceEqDiff, Nat.reduceLT, Nat.reduceLeDiff, reduceCtorEq, Int.reduceToNat, Int.reduceLT, Int.reduceLE, Int.reduceEq, Int.reduceNeg, Int.reduceBEq, Int.reduceBNe, String.reduceEq, forall_const, ↓vmDA, vmVA, ↓vmQA, vmR, vmRA, ↓vmSA, vmSV, tyS, nuE, SubA.skip, SubA.refl, fr.2, vbTpl, t12, eq_true ha1]
      clear nuE fr
      refine CallA.newX (pure_n (topAwk_h A hT)) hA1 ?_
      rintro v B rfl hd2
      refine ⟨A, SubA.trans hA1 hd2.right, ?_⟩
      intro ν fr; have nuE := fr.nu
      simp (maxDischargeDepth := 16) only [argE_nil, argE_cons, ↓vmD, vmV, vmStd, Nat.reduceMul, ↓reduceIte, Nat.reduceAdd, Nat.reduceSub, Nat.reduceEqDiff, Nat.reduceLT, Nat.reduceLeDiff, reduceCtorEq, Int.reduceToNat, Int.reduceLT, Int.reduceLE, Int.reduceEq, Int.reduceNeg, Int.reduceBEq, Int.reduceBNe, String.reduceEq, forall_const, ↓vmDA, vmVA, ↓vmQA, vmR, vmRA, ↓vmSA, vmSV, tyS, nuE, SubA.skip, SubA.refl, fr.2, vbTpl]
    · simp (maxDischargeDepth := 16) only [argE_nil, argE_cons, ↓vmD, vmV, vmStd, Nat.reduceMul, ↓reduceIte, Nat.reduceAdd, Nat.reduceSub, Nat.reduceEqDiff, Nat.reduceLT, Nat.reduceLeDiff, reduceCtorEq, Int.reduceToNat, Int.reduceLT, Int.reduceLE, Int.reduceEq, Int.reduceNeg, Int.reduceBEq, Int.reduceBNe, String.reduceEq, forall_const, ↓vmDA, vmVA, ↓vmQA, vmR, vmRA, ↓vmSA, vmSV, tyS, nuE, SubA.skip, SubA.refl, fr.2, vbTpl, t12, eq_false ha1, eq_true (show 1000 < a by omega)]
      clear nuE fr
      refine CallA.newX (pure_n (topAwk_h A hT)) hA1 ?_
      rintro v B rfl hd2
      refine ⟨A, SubA.trans hA1 hd2.right, ?_⟩
      intro ν fr; have nuE := fr.nu
      simp (maxDischargeDepth := 16) only [argE_nil, argE_cons, ↓vmD, vmV, vmStd, Nat.reduceMul, ↓reduceIte, Nat.reduceAdd, Nat.reduceSub, Nat.reduceEqDiff, Nat.reduceLT, Nat.reduceLeDiff, reduceCtorEq, Int.reduceToNat, Int.reduceLT, Int.reduceLE, Int.reduceEq, Int.reduceNeg, Int.reduceBEq, Int.reduceBNe, String.reduceEq, forall_const, ↓vmDA, vmVA, ↓vmQA, vmR, vmRA, ↓vmSA, vmSV, tyS, nuE, SubA.skip, SubA.refl, fr.2, vbTpl]
  rw [topOpenX a ha] at g2 ⊢
  have i1 := topStart a
  generalize hf1 : openF [rnTop] dT rTop fraudT a 20 = f1 at g2 i1
  have l1 : f1.h = [1] := by rw [← hf1, topFirst]
  intro ν fr; have nuE := fr.nu
  have w0 : Vm.look (E1 ++ ((n9, (Obj.cells #[.int .i64 1, .string (bs pT), .string (bs []), .string (bs shopT), .string (bs homeT), .string (bs mT), .string (bs cardT), .int .i64 1000, .string (bs eurT), .int .i64 10, .int .i64 5411, .bool true] 29)) :: A)) (ν 0) = none := fr.2 0
  simp (maxDischargeDepth := 16) only [argE_nil, argE_cons, ↓vmD, vmV, vmStd, Nat.reduceMul, ↓reduceIte, Nat.reduceAdd, Nat.reduceSub, Nat.reduceEqDiff, Nat.reduceLT, Nat.reduceLeDiff, reduceCtorEq, Int.reduceToNat, Int.reduceLT, Int.reduceLE, Int.reduceEq, Int.reduceNeg, Int.reduceBEq, Int.reduceBNe, String.reduceEq, forall_const, ↓vmDA, vmVA, ↓vmQA, vmR, vmRA, ↓vmSA, vmSV, tyS, nuE, SubA.skip, SubA.refl, fr.2, vbTpl, sc_2, b_h, b_s]
  have dst_ : True := (by simp [nuE]); generalize ν 0 = n5 at dst_  w0 ⊢
  clear nuE fr dst_
  have hT2 : TxR ((n5, .cells #[.string (bs homeT), .string (bs shopT)] 9) :: (E1 ++ ((n9, (Obj.cells #[.int .i64 1, .string (bs pT), .string (bs []), .string (bs shopT), .string (bs homeT), .string (bs mT), .string (bs cardT), .int .i64 1000, .string (bs eurT), .int .i64 10, .int .i64 5411, .bool true] 29)) :: A))) (some ⟨n5, 0, none⟩) 2 [homeT, shopT] := (TxR.at n5 9 [homeT, shopT] (by simp)).mono (SubA.left [_] _)
  refine CallA.newX (posNew_h _ _ 2 hT2) (SubA.refl _) ?_
  rintro v BB ⟨bb, rfl, hB⟩ hdB
  have hdB2 : Dis BB (cat [E1, [(n9, (Obj.cells #[.int .i64 1, .string (bs pT), .string (bs []), .string (bs shopT), .string (bs homeT), .string (bs mT), .string (bs cardT), .int .i64 1000, .string (bs eurT), .int .i64 10, .int .i64 5411, .bool true] 29))], A]) := Dis.subr hdB (SubA.fresh w0 (SubA.refl _))
  have sp0 : Sep [BB, E1, [(n9, (Obj.cells #[.int .i64 1, .string (bs pT), .string (bs []), .string (bs shopT), .string (bs homeT), .string (bs mT), .string (bs cardT), .int .i64 1000, .string (bs eurT), .int .i64 10, .int .i64 5411, .bool true] 29))], A] := Sep.cons hdB2 (Sep.cons g3 (Sep.fresh (by simpa [cat] using fA) _ (Sep.one A)))
  have sp : Sep [E1, BB, [(n9, (Obj.cells #[.int .i64 1, .string (bs pT), .string (bs []), .string (bs shopT), .string (bs homeT), .string (bs mT), .string (bs cardT), .int .i64 1000, .string (bs eurT), .int .i64 10, .int .i64 5411, .bool true] 29))], A] := Sep.pick sp0 [1, 0, 2, 3] rfl rfl
  refine ⟨cat [E1, BB, [(n9, (Obj.cells #[.int .i64 1, .string (bs pT), .string (bs []), .string (bs shopT), .string (bs homeT), .string (bs mT), .string (bs cardT), .int .i64 1000, .string (bs eurT), .int .i64 10, .int .i64 5411, .bool true] 29))], A], SubA.trans (Sep.subs sp0 [1, 0, 2, 3] rfl) (SubA.app (SubA.fresh w0 (SubA.refl _))), ?_⟩
  clear hdB hdB2 sp0 hT2 w0 g3 fE hd hE f0 hA1
  simp only [cat, List.cons_append, List.nil_append]
  intro ν fr; have nuE := fr.nu
  simp (maxDischargeDepth := 16) only [argE_nil, argE_cons, ↓vmD, vmV, vmStd, Nat.reduceMul, ↓reduceIte, Nat.reduceAdd, Nat.reduceSub, Nat.reduceEqDiff, Nat.reduceLT, Nat.reduceLeDiff, reduceCtorEq, Int.reduceToNat, Int.reduceLT, Int.reduceLE, Int.reduceEq, Int.reduceNeg, Int.reduceBEq, Int.reduceBNe, String.reduceEq, forall_const, ↓vmDA, vmVA, ↓vmQA, vmR, vmRA, ↓vmSA, vmSV, tyS, nuE, SubA.skip, SubA.refl, fr.2, vbTpl]
  clear nuE fr
  obtain ⟨e, k, date, st, n, f, E2, fv2, F2, B2, he0, hk, hd0, hs0, hn0, hE20, hB20, hdt, hI, hF, hE2, sp2, hBk, hn, hst, hend⟩ : ∃ (e k : Nat) (date st : Int) (n : Nat) (f : Fd) (E2 : AH) (fv2 : Value) (F2 : List Fo) (B2 : AH), e = 0 ∧ e + k = M.length + 3 ∧ date = 20 ∧ st = 0 ∧ n = 0 ∧ E2 = E1 ∧ B2 = BB ∧ (20 ≤ date ∧ date ≤ 20 + 1000 * (e : Int)) ∧ TopI a date f ∧ F2.map Fo.d = [f] ∧ DkP E2 db fv2 R F2 ∧ Sep [E2, B2, [(n9, (Obj.cells #[.int .i64 1, .string (bs pT), .string (bs []), .string (bs shopT), .string (bs homeT), .string (bs mT), .string (bs cardT), .int .i64 1000, .string (bs eurT), .int .i64 10, .int .i64 5411, .bool true] 29))], A] ∧ BkP B2 bb (netT a st) ∧ n ≤ f.h.length ∧ st = lasT 0 (f.h.take n) ∧ (k = 0 → endT f) :=
    ⟨0, M.length + 3, 20, 0, 0, f1, E1, fv1, F1, BB, rfl, by omega, rfl, rfl, rfl, rfl, rfl, by omega, i1, by simpa using g2, g1, sp, hB, by omega, rfl, fun h => by omega⟩
  rw [show (15, some (Value.int .i64 0)) = (15, some (Value.int .i64 (e : Int))) by rw [he0]; rfl, show (12, some (Value.int .i64 20)) = (12, some (Value.int .i64 date)) by rw [hd0], show (13, some (Value.int .i64 0)) = (13, some (Value.int .i64 st)) by rw [hs0], show (14, some (Value.int .i64 0)) = (14, some (Value.int .i64 (n : Int))) by rw [hn0]; rfl]
  refine LoopA.at (A := cat [E2, B2, [(n9, (Obj.cells #[.int .i64 1, .string (bs pT), .string (bs []), .string (bs shopT), .string (bs homeT), .string (bs mT), .string (bs cardT), .int .i64 1000, .string (bs eurT), .int .i64 10, .int .i64 5411, .bool true] 29))], A]) (by subst hE20; subst hB20; exact SubA.refl _) ?_
  clear he0 hd0 hs0 hn0 hE20 hB20 g1 g2 sp hB i1 hf1 l1
  have wM : IntKind.i64.wrap ((M.length : Int) + 2) = (M.length : Int) + 2 := w_i64 (by omega) (by omega)
  induction k generalizing e date st n f E2 fv2 F2 B2 with
  | zero =>
    have lt : ((e : Int) ≤ (M.length : Int) + 2) = False := eq_false (by omega)
    obtain ⟨hst5, hdu0⟩ := hend rfl
    have gv := getDk_w E2 db fv2 R F2 hE2 dT _ (Sep.subs sp2 [0] rfl)
    rw [hF, getX_top hI] at gv
    simp only [Option.getD_some, Option.isSome_some, caAgg, cat, List.cons_append, List.nil_append] at gv
    have sA : SubA A (cat [E2, B2, [(n9, (Obj.cells #[.int .i64 1, .string (bs pT), .string (bs []), .string (bs shopT), .string (bs homeT), .string (bs mT), .string (bs cardT), .int .i64 1000, .string (bs eurT), .int .i64 10, .int .i64 5411, .bool true] 29))], A]) := Sep.subs sp2 [3] rfl
    refine LoopA.intro (by kernel_rfl) ?_
    simp only [cat, List.cons_append, List.nil_append]
    intro ν fr; have nuE := fr.nu
    have w0 : Vm.look (cat [E2, B2, [(n9, (Obj.cells #[.int .i64 1, .string (bs pT), .string (bs []), .string (bs shopT), .string (bs homeT), .string (bs mT), .string (bs cardT), .int .i64 1000, .string (bs eurT), .int .i64 10, .int .i64 5411, .bool true] 29))], A]) (ν 0) = none := fr.2 0
    have sA2 : ∀ o, SubA A ((ν 0, o) :: cat [E2, B2, [(n9, (Obj.cells #[.int .i64 1, .string (bs pT), .string (bs []), .string (bs shopT), .string (bs homeT), .string (bs mT), .string (bs cardT), .int .i64 1000, .string (bs eurT), .int .i64 10, .int .i64 5411, .bool true] 29))], A]) := fun o => SubA.trans sA (SubA.fresh w0 (SubA.refl _))
    rcases hst5 with h5 | h5
    · have q1 : (f.c.st == 5) = true := by rw [h5]; rfl
      have q2 : (f.c.du == 0) = true := by rw [hdu0]; rfl
      simp (maxDischargeDepth := 16) only [argE_nil, argE_cons, ↓vmD, vmV, vmStd, Nat.reduceMul, ↓reduceIte, Nat.reduceAdd, Nat.reduceSub, Nat.reduceEqDiff, Nat.reduceLT, Nat.reduceLeDiff, reduceCtorEq, Int.reduceToNat, Int.reduceLT, Int.reduceLE, Int.reduceEq, Int.reduceNeg, Int.reduceBEq, Int.reduceBNe, String.reduceEq, forall_const, ↓vmDA, vmVA, ↓vmQA, vmR, vmRA, ↓vmSA, vmSV, tyS, nuE, SubA.skip, SubA.refl, fr.2, vbTpl, lt, wM, gv, b_d, q1, q2]
      refine CallA.newX (pure_n (topAwk_h A hT)) (sA2 _) ?_
      rintro v B rfl hd2
      refine ⟨A, SubA.trans (sA2 _) hd2.right, ?_⟩
      clear nuE fr sA2 w0
      intro ν fr; have nuE := fr.nu
      simp (maxDischargeDepth := 16) only [argE_nil, argE_cons, ↓vmD, vmV, vmStd, Nat.reduceMul, ↓reduceIte, Nat.reduceAdd, Nat.reduceSub, Nat.reduceEqDiff, Nat.reduceLT, Nat.reduceLeDiff, reduceCtorEq, Int.reduceToNat, Int.reduceLT, Int.reduceLE, Int.reduceEq, Int.reduceNeg, Int.reduceBEq, Int.reduceBNe, String.reduceEq, forall_const, ↓vmDA, vmVA, ↓vmQA, vmR, vmRA, ↓vmSA, vmSV, tyS, nuE, SubA.skip, SubA.refl, fr.2, vbTpl]
    · have q0 : (f.c.st == 5) = false := by rw [h5]; rfl
      have q1 : (f.c.st == 6) = true := by rw [h5]; rfl
      have q2 : (f.c.du == 0) = true := by rw [hdu0]; rfl
      simp (maxDischargeDepth := 16) only [argE_nil, argE_cons, ↓vmD, vmV, vmStd, Nat.reduceMul, ↓reduceIte, Nat.reduceAdd, Nat.reduceSub, Nat.reduceEqDiff, Nat.reduceLT, Nat.reduceLeDiff, reduceCtorEq, Int.reduceToNat, Int.reduceLT, Int.reduceLE, Int.reduceEq, Int.reduceNeg, Int.reduceBEq, Int.reduceBNe, String.reduceEq, forall_const, ↓vmDA, vmVA, ↓vmQA, vmR, vmRA, ↓vmSA, vmSV, tyS, nuE, SubA.skip, SubA.refl, fr.2, vbTpl, lt, wM, gv, b_d, q0, q1, q2]
      refine CallA.newX (pure_n (topAwk_h A hT)) (sA2 _) ?_
      rintro v B rfl hd2
      refine ⟨A, SubA.trans (sA2 _) hd2.right, ?_⟩
      clear nuE fr sA2 w0
      intro ν fr; have nuE := fr.nu
      simp (maxDischargeDepth := 16) only [argE_nil, argE_cons, ↓vmD, vmV, vmStd, Nat.reduceMul, ↓reduceIte, Nat.reduceAdd, Nat.reduceSub, Nat.reduceEqDiff, Nat.reduceLT, Nat.reduceLeDiff, reduceCtorEq, Int.reduceToNat, Int.reduceLT, Int.reduceLE, Int.reduceEq, Int.reduceNeg, Int.reduceBEq, Int.reduceBNe, String.reduceEq, forall_const, ↓vmDA, vmVA, ↓vmQA, vmR, vmRA, ↓vmSA, vmSV, tyS, nuE, SubA.skip, SubA.refl, fr.2, vbTpl]
  | succ k ih =>
    have lt : ((e : Int) ≤ (M.length : Int) + 2) = True := eq_true (by omega)
    have we : IntKind.i64.wrap ((e : Int) + 1) = ((e + 1 : Nat) : Int) := by rw [w_i64 (by omega) (by omega)]; omega
    have hb : date + 1000 ≤ 90000 := by omega
    have spX : Sep [B2, [(n9, (Obj.cells #[.int .i64 1, .string (bs pT), .string (bs []), .string (bs shopT), .string (bs homeT), .string (bs mT), .string (bs cardT), .int .i64 1000, .string (bs eurT), .int .i64 10, .int .i64 5411, .bool true] 29))], A] := sp2.2
    have dE2 : Dis E2 (cat [B2, [(n9, (Obj.cells #[.int .i64 1, .string (bs pT), .string (bs []), .string (bs shopT), .string (bs homeT), .string (bs mT), .string (bs cardT), .int .i64 1000, .string (bs eurT), .int .i64 10, .int .i64 5411, .bool true] 29))], A]) := Sep.dis sp2
    have sX : SubA (E2 ++ cat [B2, [(n9, (Obj.cells #[.int .i64 1, .string (bs pT), .string (bs []), .string (bs shopT), .string (bs homeT), .string (bs mT), .string (bs cardT), .int .i64 1000, .string (bs eurT), .int .i64 10, .int .i64 5411, .bool true] 29))], A]) (cat [E2, B2, [(n9, (Obj.cells #[.int .i64 1, .string (bs pT), .string (bs []), .string (bs shopT), .string (bs homeT), .string (bs mT), .string (bs cardT), .int .i64 1000, .string (bs eurT), .int .i64 10, .int .i64 5411, .bool true] 29))], A]) := SubA.refl _
    by_cases hlt : e < M.length
    · have lt2 : ((e : Int) < (M.length : Int)) = True := eq_true (by omega)
      have li : ((e : Int) < 0) = False := eq_false (by omega)
      obtain ⟨x, hx⟩ : ∃ x, M[e]? = some x := ⟨_, List.getElem?_eq_getElem hlt⟩
      obtain ⟨hx1, hx2⟩ := hm x (List.mem_of_getElem? hx)
      have hM' := hM.mono (Sep.subs sp2 [3] rfl : SubA A (cat [E2, B2, [(n9, (Obj.cells #[.int .i64 1, .string (bs pT), .string (bs []), .string (bs shopT), .string (bs homeT), .string (bs mT), .string (bs cardT), .int .i64 1000, .string (bs eurT), .int .i64 10, .int .i64 5411, .bool true] 29))], A]))
      obtain ⟨bk, off, cs, ty, fr0, hp0, hbk, hcr, hcc⟩ := hM.at hx
      have c0 : cs[off + e * 3]? = some (.int .u8 (x.ev : Int)) := hcc 0 _ rfl
      have c1 : cs[off + e * 3 + 1]? = some (.int .u8 (x.dy : Int)) := hcc 1 _ rfl
      have c2 : cs[off + e * 3 + 2]? = some (.bool x.ex) := hcc 2 _ rfl
      have hbk2 := (Sep.subs sp2 [3] rfl : SubA A (cat [E2, B2, [(n9, (Obj.cells #[.int .i64 1, .string (bs pT), .string (bs []), .string (bs shopT), .string (bs homeT), .string (bs mT), .string (bs cardT), .int .i64 1000, .string (bs eurT), .int .i64 10, .int .i64 5411, .bool true] 29))], A])) _ _ hbk
      simp only [cat, List.cons_append, List.nil_append] at hbk2
      have w8 : IntKind.i64.wrap ((x.dy : Nat) : Int) = (x.dy : Int) := w_i64 (by omega) (by omega)
      have wd : IntKind.i64.wrap (date + (x.dy : Int)) = date + (x.dy : Int) := w_i64 (by omega) (by omega)
      have wt : ((x.ev : Int)).tmod 8 = ((x.ev % 8 : Nat) : Int) := by rw [Int.tmod_eq_emod_of_nonneg (by omega)]; omega
      have wt2 : IntKind.u8.wrap ((x.ev % 8 : Nat) : Int) = ((x.ev % 8 : Nat) : Int) := w_u8 (by omega) (by omega)
      have wt3 : IntKind.i64.wrap ((x.ev % 8 : Nat) : Int) = ((x.ev % 8 : Nat) : Int) := w_i64 (by omega) (by omega)
      obtain ⟨dt, hdt2⟩ : ∃ d, d = date + (x.dy : Int) := ⟨_, rfl⟩
      subst hp0
      refine LoopA.intro (by kernel_rfl) ?_
      simp only [cat, List.cons_append, List.nil_append]
      intro ν fr; have nuE := fr.nu
      cases hex : x.ex with
      | true =>
        rw [hex] at c2
        simp (maxDischargeDepth := 16) only [argE_nil, argE_cons, ↓vmD, vmV, vmStd, Nat.reduceMul, ↓reduceIte, Nat.reduceAdd, Nat.reduceSub, Nat.reduceEqDiff, Nat.reduceLT, Nat.reduceLeDiff, reduceCtorEq, Int.reduceToNat, Int.reduceLT, Int.reduceLE, Int.reduceEq, Int.reduceNeg, Int.reduceBEq, Int.reduceBNe, String.reduceEq, forall_const, ↓vmDA, vmVA, ↓vmQA, vmR, vmRA, ↓vmSA, vmSV, tyS, nuE, SubA.skip, SubA.refl, fr.2, vbTpl, lt, wM, lt2, li, hbk2, c0, c1, c2, w8, wd, wt, wt2, wt3]
        rw [← hdt2]
        clear nuE fr
        refine exp_use' (expP_h E2 (cat [B2, [(n9, (Obj.cells #[.int .i64 1, .string (bs pT), .string (bs []), .string (bs shopT), .string (bs homeT), .string (bs mT), .string (bs cardT), .int .i64 1000, .string (bs eurT), .int .i64 10, .int .i64 5411, .bool true] 29))], A]) db fv2 R F2 hE2 dE2 (by rw [hF]; exact hI.ok ha) dt) sX ?_
        intro u E4 F4 k1 k2 k3
        rw [hR, hF] at k2
        obtain ⟨x1, x2, y1, x3⟩ := expX_top hI (date := dt) (by omega) (by omega)
        rw [x1] at k2
        have hbk3 : Vm.look (E4 ++ cat [B2, [(n9, (Obj.cells #[.int .i64 1, .string (bs pT), .string (bs []), .string (bs shopT), .string (bs homeT), .string (bs mT), .string (bs cardT), .int .i64 1000, .string (bs eurT), .int .i64 10, .int .i64 5411, .bool true] 29))], A]) bk = some (.cells cs ty fr0) := k3.right _ _ ((Sep.subs spX [2] rfl) _ _ hbk)
        simp only [cat, List.cons_append, List.nil_append] at hbk3 ⊢
        intro ν fr; have nuE := fr.nu
        simp (maxDischargeDepth := 16) only [argE_nil, argE_cons, ↓vmD, vmV, vmStd, Nat.reduceMul, ↓reduceIte, Nat.reduceAdd, Nat.reduceSub, Nat.reduceEqDiff, Nat.reduceLT, Nat.reduceLeDiff, reduceCtorEq, Int.reduceToNat, Int.reduceLT, Int.reduceLE, Int.reduceEq, Int.reduceNeg, Int.reduceBEq, Int.reduceBNe, String.reduceEq, forall_const, ↓vmDA, vmVA, ↓vmQA, vmR, vmRA, ↓vmSA, vmSV, tyS, nuE, SubA.skip, SubA.refl, fr.2, vbTpl, lt, wM, lt2, li, hbk3, c0, c1, c2, w8, wd, wt, wt2, wt3]
        clear nuE fr
        refine open_use (stepP_h E4 (cat [B2, [(n9, (Obj.cells #[.int .i64 1, .string (bs pT), .string (bs []), .string (bs shopT), .string (bs homeT), .string (bs mT), .string (bs cardT), .int .i64 1000, .string (bs eurT), .int .i64 10, .int .i64 5411, .bool true] 29))], A]) db fv2 R F4 k1 k3 (by rw [k2]; exact x2.ok ha) dT ((x.ev % 8 : Nat) : Int) dt [] none 0 StR.nil) (SubA.refl _) ?_
        intro E3 fv3 F3 g1 g2 g3
        rw [hR, k2] at g2 ⊢
        obtain ⟨f3, z1, hI3, y2, z3⟩ := stepX_top (e := ((x.ev % 8 : Nat) : Int)) x2 (Int.le_refl dt) (by omega)
        rw [z1] at g2
        have hpre : ∃ y, f3.h = f.h ++ y := ⟨y1 ++ y2, by rw [z3, x3]; simp⟩
        have hdt3 : 20 ≤ dt ∧ dt ≤ 20 + 1000 * ((e + 1 : Nat) : Int) := by omega
        have hend3 : k = 0 → endT f3 := fun h => by omega
        have sp3 : Sep [E3, B2, [(n9, (Obj.cells #[.int .i64 1, .string (bs pT), .string (bs []), .string (bs shopT), .string (bs homeT), .string (bs mT), .string (bs cardT), .int .i64 1000, .string (bs eurT), .int .i64 10, .int .i64 5411, .bool true] 29))], A] := Sep.cons g3 spX
        have hc3 := hI3.c
        have gv := getDk_w E3 db fv3 R F3 g1 dT _ (Sep.subs sp3 [0] rfl)
        rw [g2, getX_top hI3] at gv
        rw [Option.getD_some, hc3] at gv
        simp only [Option.isSome_some, caAgg, caTop, cat, List.cons_append, List.nil_append] at gv ⊢
        intro ν fr; have nuE := fr.nu
        have w0 : Vm.look (cat [E3, B2, [(n9, (Obj.cells #[.int .i64 1, .string (bs pT), .string (bs []), .string (bs shopT), .string (bs homeT), .string (bs mT), .string (bs cardT), .int .i64 1000, .string (bs eurT), .int .i64 10, .int .i64 5411, .bool true] 29))], A]) (ν 0) = none := fr.2 0
        simp (maxDischargeDepth := 16) only [argE_nil, argE_cons, ↓vmD, vmV, vmStd, Nat.reduceMul, ↓reduceIte, Nat.reduceAdd, Nat.reduceSub, Nat.reduceEqDiff, Nat.reduceLT, Nat.reduceLeDiff, reduceCtorEq, Int.reduceToNat, Int.reduceLT, Int.reduceLE, Int.reduceEq, Int.reduceNeg, Int.reduceBEq, Int.reduceBNe, String.reduceEq, forall_const, ↓vmDA, vmVA, ↓vmQA, vmR, vmRA, ↓vmSA, vmSV, tyS, nuE, SubA.skip, SubA.refl, fr.2, vbTpl, gv, b_d]
        have dst_ : True := (by simp [nuE]); generalize ν 0 = n7 at dst_  w0 ⊢
        clear nuE fr gv dst_
        have sp4 : Sep [[(n7, (Obj.cells #[.string (bs dT), .string (bs pT), .string (bs fraudT), .string (bs homeT), .string (bs shopT), .int .i64 a, .string (bs eurT), .int .i64 f3.c.st, .int .i64 20, .int .i64 f3.c.du] 43))], E3, B2, [(n9, (Obj.cells #[.int .i64 1, .string (bs pT), .string (bs []), .string (bs shopT), .string (bs homeT), .string (bs mT), .string (bs cardT), .int .i64 1000, .string (bs eurT), .int .i64 10, .int .i64 5411, .bool true] 29))], A] := Sep.fresh w0 _ sp3
        refine CallA.newX (histD_h E3 db fv3 R F3 g1 (hist_len hI3 g2) dT) (Sep.subs sp4 [1] rfl) ?_
        rintro v5 B5 ho5 hd5
        rw [g2, histX_top hI3] at ho5
        have sp4' : Sep [B5, [(n7, (Obj.cells #[.string (bs dT), .string (bs pT), .string (bs fraudT), .string (bs homeT), .string (bs shopT), .int .i64 a, .string (bs eurT), .int .i64 f3.c.st, .int .i64 20, .int .i64 f3.c.du] 43))], E3, B2, [(n9, (Obj.cells #[.int .i64 1, .string (bs pT), .string (bs []), .string (bs shopT), .string (bs homeT), .string (bs mT), .string (bs cardT), .int .i64 1000, .string (bs eurT), .int .i64 10, .int .i64 5411, .bool true] 29))], A] := Sep.cons (show Dis B5 (cat [[(n7, (Obj.cells #[.string (bs dT), .string (bs pT), .string (bs fraudT), .string (bs homeT), .string (bs shopT), .int .i64 a, .string (bs eurT), .int .i64 f3.c.st, .int .i64 20, .int .i64 f3.c.du] 43))], E3, B2, [(n9, (Obj.cells #[.int .i64 1, .string (bs pT), .string (bs []), .string (bs shopT), .string (bs homeT), .string (bs mT), .string (bs cardT), .int .i64 1000, .string (bs eurT), .int .i64 10, .int .i64 5411, .bool true] 29))], A]) from hd5) sp4
        have sp5 : Sep [[(n7, (Obj.cells #[.string (bs dT), .string (bs pT), .string (bs fraudT), .string (bs homeT), .string (bs shopT), .int .i64 a, .string (bs eurT), .int .i64 f3.c.st, .int .i64 20, .int .i64 f3.c.du] 43))], B5, E3, B2, [(n9, (Obj.cells #[.int .i64 1, .string (bs pT), .string (bs []), .string (bs shopT), .string (bs homeT), .string (bs mT), .string (bs cardT), .int .i64 1000, .string (bs eurT), .int .i64 10, .int .i64 5411, .bool true] 29))], A] := Sep.pick sp4' [1, 0, 2, 3, 4, 5] rfl rfl
        refine ⟨cat [[(n7, (Obj.cells #[.string (bs dT), .string (bs pT), .string (bs fraudT), .string (bs homeT), .string (bs shopT), .int .i64 a, .string (bs eurT), .int .i64 f3.c.st, .int .i64 20, .int .i64 f3.c.du] 43))], B5, E3, B2, [(n9, (Obj.cells #[.int .i64 1, .string (bs pT), .string (bs []), .string (bs shopT), .string (bs homeT), .string (bs mT), .string (bs cardT), .int .i64 1000, .string (bs eurT), .int .i64 10, .int .i64 5411, .bool true] 29))], A], Sep.subs sp4' [1, 0, 2, 3, 4, 5] rfl, ?_⟩
        obtain ⟨p5, c5, rfl, hc5, hs5⟩ := ho5.read intC_len
        obtain ⟨b5, o5, cs5, ty5, fr5, rfl, hb5, cl5⟩ := cellsI hs5 hI3.ne
        have hb6 := (Sep.subs sp5 [1] rfl : SubA B5 (cat [[(n7, (Obj.cells #[.string (bs dT), .string (bs pT), .string (bs fraudT), .string (bs homeT), .string (bs shopT), .int .i64 a, .string (bs eurT), .int .i64 f3.c.st, .int .i64 20, .int .i64 f3.c.du] 43))], B5, E3, B2, [(n9, (Obj.cells #[.int .i64 1, .string (bs pT), .string (bs []), .string (bs shopT), .string (bs homeT), .string (bs mT), .string (bs cardT), .int .i64 1000, .string (bs eurT), .int .i64 10, .int .i64 5411, .bool true] 29))], A])) _ _ hb5
        have q0 : cs5[o5]? = some (.int .i64 1) := cl5 0 _ (first_one hI3)
        have q1 := cl5 _ _ (last_at (s := 0) hI3.ne)
        rw [hI3.ls] at q1
        have hl5 := hI3.len
        have hs6 := hI3.st
        have hp5 : 0 < f3.h.length := List.length_pos_iff.2 hI3.ne
        have wl : IntKind.i64.wrap ((f3.h.length : Int) - 1) = ((f3.h.length - 1 : Nat) : Int) := (w_i64 (by omega) (by omega)).trans (by omega)
        have le0 : ((f3.h.length : Int) == 0) = false := by simpa using hI3.ne
        have l1t : (((f3.h.length - 1 : Nat) : Int) < (f3.h.length : Int)) = True := eq_true (by omega)
        have l1n : (((f3.h.length - 1 : Nat) : Int) < 0) = False := eq_false (by omega)
        have l0t : ((0 : Int) < (f3.h.length : Int)) = True := eq_true (by omega)
        have m75 : (n7 = b5) = False := eq_false fun h => by
          have := sp5.1.1 b5 (by rw [hb5]; simp)
          simp only [Vm.look] at this
          rw [if_pos h] at this; cases this
        simp only [cat, List.cons_append, List.nil_append, Vm.look, m75, if_false] at hb6
        simp only [cat, List.cons_append, List.nil_append]
        intro ν fr; have nuE := And.intro (fr.mem (b := n7) (by simp)) (fr.nu)
        simp (maxDischargeDepth := 16) only [argE_nil, argE_cons, ↓vmD, vmV, vmStd, Nat.reduceMul, ↓reduceIte, Nat.reduceAdd, Nat.reduceSub, Nat.reduceEqDiff, Nat.reduceLT, Nat.reduceLeDiff, reduceCtorEq, Int.reduceToNat, Int.reduceLT, Int.reduceLE, Int.reduceEq, Int.reduceNeg, Int.reduceBEq, Int.reduceBNe, String.reduceEq, forall_const, ↓vmDA, vmVA, ↓vmQA, vmR, vmRA, ↓vmSA, vmSV, tyS, nuE, SubA.skip, SubA.refl, fr.2, vbTpl, hb6, m75, q0, q1, wl, le0, l1t, l1n, l0t, bne_self_eq_false]
        clear nuE fr
        obtain ⟨y0, hy0⟩ := hpre
        have hn3 : n ≤ f3.h.length := by rw [hy0]; simp; omega
        have hst3 : st = lasT 0 (f3.h.take n) := by rw [hy0, List.take_append_of_le_length hn]; exact hst
        obtain ⟨c, j, s, B6, hcn, hcj, hss, hB6, hs, hBk6, sp6⟩ : ∃ (c j : Nat) (s : Int) (B6 : AH), c = n ∧ c + j = f3.h.length ∧ s = st ∧ B6 = B2 ∧ s = lasT 0 (f3.h.take c) ∧ BkP B6 bb (netT a s) ∧ Sep [[(n7, (Obj.cells #[.string (bs dT), .string (bs pT), .string (bs fraudT), .string (bs homeT), .string (bs shopT), .int .i64 a, .string (bs eurT), .int .i64 f3.c.st, .int .i64 20, .int .i64 f3.c.du] 43))], B5, E3, B6, [(n9, (Obj.cells #[.int .i64 1, .string (bs pT), .string (bs []), .string (bs shopT), .string (bs homeT), .string (bs mT), .string (bs cardT), .int .i64 1000, .string (bs eurT), .int .i64 10, .int .i64 5411, .bool true] 29))], A] := ⟨n, f3.h.length - n, st, B2, rfl, by omega, rfl, rfl, hst3, hBk, sp5⟩
        rw [← hcn, ← hss]
        rw [show (14, some (Value.int .i64 (c : Int))) = (14, some (Value.int .i64 (n : Int))) by rw [hcn]]
        refine LoopA.at (A := cat [[(n7, (Obj.cells #[.string (bs dT), .string (bs pT), .string (bs fraudT), .string (bs homeT), .string (bs shopT), .int .i64 a, .string (bs eurT), .int .i64 f3.c.st, .int .i64 20, .int .i64 f3.c.du] 43))], B5, E3, B6, [(n9, (Obj.cells #[.int .i64 1, .string (bs pT), .string (bs []), .string (bs shopT), .string (bs homeT), .string (bs mT), .string (bs cardT), .int .i64 1000, .string (bs eurT), .int .i64 10, .int .i64 5411, .bool true] 29))], A]) (by rw [hB6]; exact SubA.refl _) ?_
        clear hcn hss hB6 sp5 hb6
        induction j generalizing c s B6 with
        | zero =>
          have lj : ((c : Int) < (f3.h.length : Int)) = False := eq_false (by omega)
          have hsl : s = f3.c.st := by rw [hs, show c = f3.h.length by omega, List.take_length]; exact hI3.ls
          have n1 := posNet_w B6 bb (netT a s) hBk6 true _ (Sep.subs sp6 [3] rfl)
          have n2 := posNet_w B6 bb (netT a s) hBk6 false _ (Sep.subs sp6 [3] rfl)
          simp only [if_true, Bool.false_eq_true, if_false, cat, List.cons_append, List.nil_append] at n1 n2
          refine LoopA.intro (by kernel_rfl) ?_
          simp only [cat, List.cons_append, List.nil_append]
          intro ν fr; have nuE := And.intro (fr.mem (b := n7) (by simp)) (fr.nu)
          have fin : SubA (cat [E3, B6, [(n9, (Obj.cells #[.int .i64 1, .string (bs pT), .string (bs []), .string (bs shopT), .string (bs homeT), .string (bs mT), .string (bs cardT), .int .i64 1000, .string (bs eurT), .int .i64 10, .int .i64 5411, .bool true] 29))], A]) (cat [[(n7, (Obj.cells #[.string (bs dT), .string (bs pT), .string (bs fraudT), .string (bs homeT), .string (bs shopT), .int .i64 a, .string (bs eurT), .int .i64 f3.c.st, .int .i64 20, .int .i64 f3.c.du] 43))], B5, E3, B6, [(n9, (Obj.cells #[.int .i64 1, .string (bs pT), .string (bs []), .string (bs shopT), .string (bs homeT), .string (bs mT), .string (bs cardT), .int .i64 1000, .string (bs eurT), .int .i64 10, .int .i64 5411, .bool true] 29))], A]) := Sep.subs sp6 [2, 3, 4, 5] rfl
          have hsx : s = lasT 0 (f3.h.take f3.h.length) := by rw [List.take_length, hI3.ls]; exact hsl
          by_cases hh : holdF f3.c.st = 1
          · have hh2 : (holdF f3.c.st == 1) = true := by rw [hh]; rfl
            have hnt : netT a s = a := by unfold netT; rw [hsl, if_pos hh]
            rw [hnt] at n1 n2
            have wn : IntKind.i64.wrap (0 - a) = -a := by rw [w_i64 (by omega) (by omega)]; omega
            simp (maxDischargeDepth := 16) only [argE_nil, argE_cons, ↓vmD, vmV, vmStd, Nat.reduceMul, ↓reduceIte, Nat.reduceAdd, Nat.reduceSub, Nat.reduceEqDiff, Nat.reduceLT, Nat.reduceLeDiff, reduceCtorEq, Int.reduceToNat, Int.reduceLT, Int.reduceLE, Int.reduceEq, Int.reduceNeg, Int.reduceBEq, Int.reduceBNe, String.reduceEq, forall_const, ↓vmDA, vmVA, ↓vmQA, vmR, vmRA, ↓vmSA, vmSV, tyS, nuE, SubA.skip, SubA.refl, fr.2, vbTpl, lj, n1, n2, hh, hh2, b_h, b_s, b_e, wn, we, bne_self_eq_false]
            refine LoopA.at (A := cat [E3, B6, [(n9, (Obj.cells #[.int .i64 1, .string (bs pT), .string (bs []), .string (bs shopT), .string (bs homeT), .string (bs mT), .string (bs cardT), .int .i64 1000, .string (bs eurT), .int .i64 10, .int .i64 5411, .bool true] 29))], A]) fin ?_
            exact LoopA.weak (ih (e + 1) dt s f3.h.length f3 E3 fv3 F3 B6 (by omega) hdt3 hI3 g2 g1 (Sep.pick sp6 [2, 3, 4, 5] rfl rfl) hBk6 (Nat.le_refl _) hsx hend3) (by simp only [subE, get_cons, Nat.reduceEqDiff, ↓reduceIte, reduceCtorEq, Nat.reduceAdd, and_self, and_true]) (SubA.refl _)
          · have hh2 : (holdF f3.c.st == 1) = false := by simpa using hh
            have hnt : netT a s = 0 := by unfold netT; rw [hsl, if_neg hh]
            rw [hnt] at n1 n2
            have wn : IntKind.i64.wrap (0 - 0) = 0 := by decide
            have wn2 : (-0 : Int) = 0 := by decide
            rw [wn2] at n2
            simp (maxDischargeDepth := 16) only [argE_nil, argE_cons, ↓vmD, vmV, vmStd, Nat.reduceMul, ↓reduceIte, Nat.reduceAdd, Nat.reduceSub, Nat.reduceEqDiff, Nat.reduceLT, Nat.reduceLeDiff, reduceCtorEq, Int.reduceToNat, Int.reduceLT, Int.reduceLE, Int.reduceEq, Int.reduceNeg, Int.reduceBEq, Int.reduceBNe, String.reduceEq, forall_const, ↓vmDA, vmVA, ↓vmQA, vmR, vmRA, ↓vmSA, vmSV, tyS, nuE, SubA.skip, SubA.refl, fr.2, vbTpl, lj, n1, n2, eq_false hh, hh2, b_h, b_s, b_e, wn, we, bne_self_eq_false]
            refine LoopA.at (A := cat [E3, B6, [(n9, (Obj.cells #[.int .i64 1, .string (bs pT), .string (bs []), .string (bs shopT), .string (bs homeT), .string (bs mT), .string (bs cardT), .int .i64 1000, .string (bs eurT), .int .i64 10, .int .i64 5411, .bool true] 29))], A]) fin ?_
            exact LoopA.weak (ih (e + 1) dt s f3.h.length f3 E3 fv3 F3 B6 (by omega) hdt3 hI3 g2 g1 (Sep.pick sp6 [2, 3, 4, 5] rfl rfl) hBk6 (Nat.le_refl _) hsx hend3) (by simp only [subE, get_cons, Nat.reduceEqDiff, ↓reduceIte, reduceCtorEq, Nat.reduceAdd, and_self, and_true]) (SubA.refl _)
        | succ j jh =>
          have lj : ((c : Int) < (f3.h.length : Int)) = True := eq_true (by omega)
          have lcn : ((c : Int) < 0) = False := eq_false (by omega)
          obtain ⟨t, ht⟩ : ∃ t, f3.h[c]? = some t := ⟨_, List.getElem?_eq_getElem (by omega)⟩
          have qc := cl5 c t ht
          obtain ⟨u1, u2⟩ := chT_at hI3.ch ht
          rw [← hs] at u1
          have srng : 0 ≤ s ∧ s ≤ 6 := by rw [hs]; exact lasT_rng c hI3.ch (by decide)
          have wc : IntKind.i64.wrap ((c : Int) + 1) = ((c + 1 : Nat) : Int) := by rw [w_i64 (by omega) (by omega)]; omega
          have hmv := topMove (a := a) (s := s) (t := t) (d := dt) (st := f3.c.st) (du := f3.c.du) (n := c + 1) ha srng u2 u1 (by omega) (by omega)
          have hb7 := (Sep.subs sp6 [1] rfl : SubA B5 (cat [[(n7, (Obj.cells #[.string (bs dT), .string (bs pT), .string (bs fraudT), .string (bs homeT), .string (bs shopT), .int .i64 a, .string (bs eurT), .int .i64 f3.c.st, .int .i64 20, .int .i64 f3.c.du] 43))], B5, E3, B6, [(n9, (Obj.cells #[.int .i64 1, .string (bs pT), .string (bs []), .string (bs shopT), .string (bs homeT), .string (bs mT), .string (bs cardT), .int .i64 1000, .string (bs eurT), .int .i64 10, .int .i64 5411, .bool true] 29))], A])) _ _ hb5
          have hr7 := (Sep.subs sp6 [4] rfl : SubA [(n9, (Obj.cells #[.int .i64 1, .string (bs pT), .string (bs []), .string (bs shopT), .string (bs homeT), .string (bs mT), .string (bs cardT), .int .i64 1000, .string (bs eurT), .int .i64 10, .int .i64 5411, .bool true] 29))] (cat [[(n7, (Obj.cells #[.string (bs dT), .string (bs pT), .string (bs fraudT), .string (bs homeT), .string (bs shopT), .int .i64 a, .string (bs eurT), .int .i64 f3.c.st, .int .i64 20, .int .i64 f3.c.du] 43))], B5, E3, B6, [(n9, (Obj.cells #[.int .i64 1, .string (bs pT), .string (bs []), .string (bs shopT), .string (bs homeT), .string (bs mT), .string (bs cardT), .int .i64 1000, .string (bs eurT), .int .i64 10, .int .i64 5411, .bool true] 29))], A])) n9 (Obj.cells #[.int .i64 1, .string (bs pT), .string (bs []), .string (bs shopT), .string (bs homeT), .string (bs mT), .string (bs cardT), .int .i64 1000, .string (bs eurT), .int .i64 10, .int .i64 5411, .bool true] 29) (look_one n9 _)
          have m79 : (n7 = n9) = False := eq_false fun h => by
            have := (Sep.dis sp6) n9 (by rw [show Vm.look (cat [B5, E3, B6, [(n9, (Obj.cells #[.int .i64 1, .string (bs pT), .string (bs []), .string (bs shopT), .string (bs homeT), .string (bs mT), .string (bs cardT), .int .i64 1000, .string (bs eurT), .int .i64 10, .int .i64 5411, .bool true] 29))], A]) n9 = some (Obj.cells #[.int .i64 1, .string (bs pT), .string (bs []), .string (bs shopT), .string (bs homeT), .string (bs mT), .string (bs cardT), .int .i64 1000, .string (bs eurT), .int .i64 10, .int .i64 5411, .bool true] 29) from (Sep.subs sp6.2 [3] rfl : SubA [(n9, (Obj.cells #[.int .i64 1, .string (bs pT), .string (bs []), .string (bs shopT), .string (bs homeT), .string (bs mT), .string (bs cardT), .int .i64 1000, .string (bs eurT), .int .i64 10, .int .i64 5411, .bool true] 29))] _) n9 (Obj.cells #[.int .i64 1, .string (bs pT), .string (bs []), .string (bs shopT), .string (bs homeT), .string (bs mT), .string (bs cardT), .int .i64 1000, .string (bs eurT), .int .i64 10, .int .i64 5411, .bool true] 29) (look_one n9 _)]; simp)
            simp only [Vm.look] at this
            rw [if_pos h] at this; cases this
          have hb7' := hb7
          have hr7' := hr7
          simp only [cat, List.cons_append, List.nil_append, Vm.look, m75, m79, if_false] at hb7 hr7
          have mv := panMove_w A hT (csOf (caTop a f3.c.st f3.c.du)) rcTop s t dt ((c + 1 : Nat) : Int) (csTop_sz _ _ _) rcTop_sz _ (Sep.subs sp6 [5] rfl : SubA A (cat [[(n7, (Obj.cells #[.string (bs dT), .string (bs pT), .string (bs fraudT), .string (bs homeT), .string (bs shopT), .int .i64 a, .string (bs eurT), .int .i64 f3.c.st, .int .i64 20, .int .i64 f3.c.du] 43))], B5, E3, B6, [(n9, (Obj.cells #[.int .i64 1, .string (bs pT), .string (bs []), .string (bs shopT), .string (bs homeT), .string (bs mT), .string (bs cardT), .int .i64 1000, .string (bs eurT), .int .i64 10, .int .i64 5411, .bool true] 29))], A]))
          have hs2 : t = lasT 0 (f3.h.take (c + 1)) := (lasT_take ht).symm
          refine LoopA.intro (by kernel_rfl) ?_
          simp only [cat, List.cons_append, List.nil_append]
          by_cases hhd : holdF s = holdF t
          · rw [movV_no (c := csOf (caTop a f3.c.st f3.c.du)) (r := rcTop) hmv hhd] at mv
            simp only [csOf, caTop, rcTop, cat, List.cons_append, List.nil_append] at mv
            have hnet : netT a t = netT a s := by unfold netT; rw [hhd]
            intro ν fr; have nuE := And.intro (fr.mem (b := n7) (by simp)) (fr.nu)
            have z0 : Vm.look (cat [[(n7, (Obj.cells #[.string (bs dT), .string (bs pT), .string (bs fraudT), .string (bs homeT), .string (bs shopT), .int .i64 a, .string (bs eurT), .int .i64 f3.c.st, .int .i64 20, .int .i64 f3.c.du] 43))], B5, E3, B6, [(n9, (Obj.cells #[.int .i64 1, .string (bs pT), .string (bs []), .string (bs shopT), .string (bs homeT), .string (bs mT), .string (bs cardT), .int .i64 1000, .string (bs eurT), .int .i64 10, .int .i64 5411, .bool true] 29))], A]) (ν 0) = none := fr.2 0
            have z5 := (look_ne z0 hb7').1
            have z9 := (look_ne z0 hr7').1
            simp (maxDischargeDepth := 16) only [argE_nil, argE_cons, ↓vmD, vmV, vmStd, Nat.reduceMul, ↓reduceIte, Nat.reduceAdd, Nat.reduceSub, Nat.reduceEqDiff, Nat.reduceLT, Nat.reduceLeDiff, reduceCtorEq, Int.reduceToNat, Int.reduceLT, Int.reduceLE, Int.reduceEq, Int.reduceNeg, Int.reduceBEq, Int.reduceBNe, String.reduceEq, forall_const, ↓vmDA, vmVA, ↓vmQA, vmR, vmRA, ↓vmSA, vmSV, tyS, nuE, SubA.skip, SubA.refl, fr.2, vbTpl, lj, lcn, hb7, hr7, m75, m79, z5, z9, qc, wc, mv]
            refine LoopA.at (A := cat [[(n7, (Obj.cells #[.string (bs dT), .string (bs pT), .string (bs fraudT), .string (bs homeT), .string (bs shopT), .int .i64 a, .string (bs eurT), .int .i64 f3.c.st, .int .i64 20, .int .i64 f3.c.du] 43))], B5, E3, B6, [(n9, (Obj.cells #[.int .i64 1, .string (bs pT), .string (bs []), .string (bs shopT), .string (bs homeT), .string (bs mT), .string (bs cardT), .int .i64 1000, .string (bs eurT), .int .i64 10, .int .i64 5411, .bool true] 29))], A]) (SubA.fresh z0 (SubA.refl _)) ?_
            exact LoopA.weak (jh (c + 1) t B6 (by omega) hs2 (by rw [hnet]; exact hBk6) sp6) (by simp only [subE, get_cons, Nat.reduceEqDiff, ↓reduceIte, reduceCtorEq, Nat.reduceAdd, and_self, and_true]) (SubA.refl _)
          · rw [movV_yes (c := csOf (caTop a f3.c.st f3.c.du)) (r := rcTop) hmv hhd] at mv
            simp only [movR, Rc.cells, csOf, caTop, rcTop, Int.toNat_natCast, cat, List.cons_append, List.nil_append] at mv
            intro ν fr; have nuE := And.intro (fr.mem (b := n7) (by simp)) (fr.nu)
            have z0 : Vm.look (cat [[(n7, (Obj.cells #[.string (bs dT), .string (bs pT), .string (bs fraudT), .string (bs homeT), .string (bs shopT), .int .i64 a, .string (bs eurT), .int .i64 f3.c.st, .int .i64 20, .int .i64 f3.c.du] 43))], B5, E3, B6, [(n9, (Obj.cells #[.int .i64 1, .string (bs pT), .string (bs []), .string (bs shopT), .string (bs homeT), .string (bs mT), .string (bs cardT), .int .i64 1000, .string (bs eurT), .int .i64 10, .int .i64 5411, .bool true] 29))], A]) (ν 0) = none := fr.2 0
            have z5 := (look_ne z0 hb7').1
            have z9 := (look_ne z0 hr7').1
            rcases hold12 (show 0 ≤ t ∧ t ≤ 6 by omega) with h1 | h2
            · have hs1 : holdF s = 2 := by rcases hold12 srng with h | h <;> omega
              have hnt : netT a s = 0 := by unfold netT; rw [if_neg (by omega)]
              have hnt2 : netT a t = 0 + a := by unfold netT; rw [if_pos h1]; omega
              rw [hnt] at hBk6
              have h12 : ((1 : Int) = 2) = False := by decide
              rw [h1] at mv
              simp (maxDischargeDepth := 16) only [argE_nil, argE_cons, ↓vmD, vmV, vmStd, Nat.reduceMul, ↓reduceIte, Nat.reduceAdd, Nat.reduceSub, Nat.reduceEqDiff, Nat.reduceLT, Nat.reduceLeDiff, reduceCtorEq, Int.reduceToNat, Int.reduceLT, Int.reduceLE, Int.reduceEq, Int.reduceNeg, Int.reduceBEq, Int.reduceBNe, String.reduceEq, forall_const, ↓vmDA, vmVA, ↓vmQA, vmR, vmRA, ↓vmSA, vmSV, tyS, nuE, SubA.skip, SubA.refl, fr.2, vbTpl, lj, lcn, hb7, hr7, m75, m79, z5, z9, qc, wc, mv, h12]
              refine CallA.st (posUp_h B6 bb 0 a hBk6 (by omega) (by omega)) (SubA.trans (Sep.subs sp6 [3] rfl) (SubA.fresh z0 (SubA.refl _))) (X := cat [[(n7, (Obj.cells #[.string (bs dT), .string (bs pT), .string (bs fraudT), .string (bs homeT), .string (bs shopT), .int .i64 a, .string (bs eurT), .int .i64 f3.c.st, .int .i64 20, .int .i64 f3.c.du] 43))], B5, E3, [(n9, (Obj.cells #[.int .i64 1, .string (bs pT), .string (bs []), .string (bs shopT), .string (bs homeT), .string (bs mT), .string (bs cardT), .int .i64 1000, .string (bs eurT), .int .i64 10, .int .i64 5411, .bool true] 29))], A]) (SubA.trans (Sep.subs sp6 [0, 1, 2, 4, 5] rfl) (SubA.fresh z0 (SubA.refl _))) (Sep.dis (Sep.pick sp6 [3, 0, 1, 2, 4, 5] rfl rfl)) ?_
              rintro v7 B7 ⟨rfl, hB7⟩ hd7
              have sp7 : Sep [B7, [(n7, (Obj.cells #[.string (bs dT), .string (bs pT), .string (bs fraudT), .string (bs homeT), .string (bs shopT), .int .i64 a, .string (bs eurT), .int .i64 f3.c.st, .int .i64 20, .int .i64 f3.c.du] 43))], B5, E3, [(n9, (Obj.cells #[.int .i64 1, .string (bs pT), .string (bs []), .string (bs shopT), .string (bs homeT), .string (bs mT), .string (bs cardT), .int .i64 1000, .string (bs eurT), .int .i64 10, .int .i64 5411, .bool true] 29))], A] := Sep.cons hd7 (Sep.pick sp6 [0, 1, 2, 4, 5] rfl rfl)
              have hb8 := (Sep.subs sp7 [2] rfl : SubA B5 (cat [B7, [(n7, (Obj.cells #[.string (bs dT), .string (bs pT), .string (bs fraudT), .string (bs homeT), .string (bs shopT), .int .i64 a, .string (bs eurT), .int .i64 f3.c.st, .int .i64 20, .int .i64 f3.c.du] 43))], B5, E3, [(n9, (Obj.cells #[.int .i64 1, .string (bs pT), .string (bs []), .string (bs shopT), .string (bs homeT), .string (bs mT), .string (bs cardT), .int .i64 1000, .string (bs eurT), .int .i64 10, .int .i64 5411, .bool true] 29))], A])) _ _ hb5
              simp only [cat, List.cons_append, List.nil_append] at hb8 ⊢
              clear nuE fr z0
              intro ν fr; have nuE := And.intro (fr.mem (b := n7) (by simp)) (fr.nu)
              simp (maxDischargeDepth := 16) only [argE_nil, argE_cons, ↓vmD, vmV, vmStd, Nat.reduceMul, ↓reduceIte, Nat.reduceAdd, Nat.reduceSub, Nat.reduceEqDiff, Nat.reduceLT, Nat.reduceLeDiff, reduceCtorEq, Int.reduceToNat, Int.reduceLT, Int.reduceLE, Int.reduceEq, Int.reduceNeg, Int.reduceBEq, Int.reduceBNe, String.reduceEq, forall_const, ↓vmDA, vmVA, ↓vmQA, vmR, vmRA, ↓vmSA, vmSV, tyS, nuE, SubA.skip, SubA.refl, fr.2, vbTpl, lj, lcn, hb8, qc, wc]
              refine LoopA.at (A := cat [[(n7, (Obj.cells #[.string (bs dT), .string (bs pT), .string (bs fraudT), .string (bs homeT), .string (bs shopT), .int .i64 a, .string (bs eurT), .int .i64 f3.c.st, .int .i64 20, .int .i64 f3.c.du] 43))], B5, E3, B7, [(n9, (Obj.cells #[.int .i64 1, .string (bs pT), .string (bs []), .string (bs shopT), .string (bs homeT), .string (bs mT), .string (bs cardT), .int .i64 1000, .string (bs eurT), .int .i64 10, .int .i64 5411, .bool true] 29))], A]) (Sep.subs sp7 [1, 2, 3, 0, 4, 5] rfl) ?_
              exact LoopA.weak (jh (c + 1) t B7 (by omega) hs2 (by rw [hnt2]; exact hB7) (Sep.pick sp7 [1, 2, 3, 0, 4, 5] rfl rfl)) (by simp only [subE, get_cons, Nat.reduceEqDiff, ↓reduceIte, reduceCtorEq, Nat.reduceAdd, and_self, and_true]) (SubA.refl _)
            · have hs1 : holdF s = 1 := by rcases hold12 srng with h | h <;> omega
              have hnt : netT a s = a := by unfold netT; rw [if_pos hs1]
              have hnt2 : netT a t = a - a := by unfold netT; rw [if_neg (by omega)]; omega
              rw [hnt] at hBk6
              rw [h2] at mv
              simp (maxDischargeDepth := 16) only [argE_nil, argE_cons, ↓vmD, vmV, vmStd, Nat.reduceMul, ↓reduceIte, Nat.reduceAdd, Nat.reduceSub, Nat.reduceEqDiff, Nat.reduceLT, Nat.reduceLeDiff, reduceCtorEq, Int.reduceToNat, Int.reduceLT, Int.reduceLE, Int.reduceEq, Int.reduceNeg, Int.reduceBEq, Int.reduceBNe, String.reduceEq, forall_const, ↓vmDA, vmVA, ↓vmQA, vmR, vmRA, ↓vmSA, vmSV, tyS, nuE, SubA.skip, SubA.refl, fr.2, vbTpl, lj, lcn, hb7, hr7, m75, m79, z5, z9, qc, wc, mv]
              refine CallA.st (posDn_h B6 bb a a hBk6 (by omega) (by omega)) (SubA.trans (Sep.subs sp6 [3] rfl) (SubA.fresh z0 (SubA.refl _))) (X := cat [[(n7, (Obj.cells #[.string (bs dT), .string (bs pT), .string (bs fraudT), .string (bs homeT), .string (bs shopT), .int .i64 a, .string (bs eurT), .int .i64 f3.c.st, .int .i64 20, .int .i64 f3.c.du] 43))], B5, E3, [(n9, (Obj.cells #[.int .i64 1, .string (bs pT), .string (bs []), .string (bs shopT), .string (bs homeT), .string (bs mT), .string (bs cardT), .int .i64 1000, .string (bs eurT), .int .i64 10, .int .i64 5411, .bool true] 29))], A]) (SubA.trans (Sep.subs sp6 [0, 1, 2, 4, 5] rfl) (SubA.fresh z0 (SubA.refl _))) (Sep.dis (Sep.pick sp6 [3, 0, 1, 2, 4, 5] rfl rfl)) ?_
              rintro v7 B7 ⟨rfl, hB7⟩ hd7
              have sp7 : Sep [B7, [(n7, (Obj.cells #[.string (bs dT), .string (bs pT), .string (bs fraudT), .string (bs homeT), .string (bs shopT), .int .i64 a, .string (bs eurT), .int .i64 f3.c.st, .int .i64 20, .int .i64 f3.c.du] 43))], B5, E3, [(n9, (Obj.cells #[.int .i64 1, .string (bs pT), .string (bs []), .string (bs shopT), .string (bs homeT), .string (bs mT), .string (bs cardT), .int .i64 1000, .string (bs eurT), .int .i64 10, .int .i64 5411, .bool true] 29))], A] := Sep.cons hd7 (Sep.pick sp6 [0, 1, 2, 4, 5] rfl rfl)
              have hb8 := (Sep.subs sp7 [2] rfl : SubA B5 (cat [B7, [(n7, (Obj.cells #[.string (bs dT), .string (bs pT), .string (bs fraudT), .string (bs homeT), .string (bs shopT), .int .i64 a, .string (bs eurT), .int .i64 f3.c.st, .int .i64 20, .int .i64 f3.c.du] 43))], B5, E3, [(n9, (Obj.cells #[.int .i64 1, .string (bs pT), .string (bs []), .string (bs shopT), .string (bs homeT), .string (bs mT), .string (bs cardT), .int .i64 1000, .string (bs eurT), .int .i64 10, .int .i64 5411, .bool true] 29))], A])) _ _ hb5
              simp only [cat, List.cons_append, List.nil_append] at hb8 ⊢
              clear nuE fr z0
              intro ν fr; have nuE := And.intro (fr.mem (b := n7) (by simp)) (fr.nu)
              simp (maxDischargeDepth := 16) only [argE_nil, argE_cons, ↓vmD, vmV, vmStd, Nat.reduceMul, ↓reduceIte, Nat.reduceAdd, Nat.reduceSub, Nat.reduceEqDiff, Nat.reduceLT, Nat.reduceLeDiff, reduceCtorEq, Int.reduceToNat, Int.reduceLT, Int.reduceLE, Int.reduceEq, Int.reduceNeg, Int.reduceBEq, Int.reduceBNe, String.reduceEq, forall_const, ↓vmDA, vmVA, ↓vmQA, vmR, vmRA, ↓vmSA, vmSV, tyS, nuE, SubA.skip, SubA.refl, fr.2, vbTpl, lj, lcn, hb8, qc, wc]
              refine LoopA.at (A := cat [[(n7, (Obj.cells #[.string (bs dT), .string (bs pT), .string (bs fraudT), .string (bs homeT), .string (bs shopT), .int .i64 a, .string (bs eurT), .int .i64 f3.c.st, .int .i64 20, .int .i64 f3.c.du] 43))], B5, E3, B7, [(n9, (Obj.cells #[.int .i64 1, .string (bs pT), .string (bs []), .string (bs shopT), .string (bs homeT), .string (bs mT), .string (bs cardT), .int .i64 1000, .string (bs eurT), .int .i64 10, .int .i64 5411, .bool true] 29))], A]) (Sep.subs sp7 [1, 2, 3, 0, 4, 5] rfl) ?_
              exact LoopA.weak (jh (c + 1) t B7 (by omega) hs2 (by rw [hnt2]; exact hB7) (Sep.pick sp7 [1, 2, 3, 0, 4, 5] rfl rfl)) (by simp only [subE, get_cons, Nat.reduceEqDiff, ↓reduceIte, reduceCtorEq, Nat.reduceAdd, and_self, and_true]) (SubA.refl _)
      | false =>
        rw [hex] at c2
        simp (maxDischargeDepth := 16) only [argE_nil, argE_cons, ↓vmD, vmV, vmStd, Nat.reduceMul, ↓reduceIte, Nat.reduceAdd, Nat.reduceSub, Nat.reduceEqDiff, Nat.reduceLT, Nat.reduceLeDiff, reduceCtorEq, Int.reduceToNat, Int.reduceLT, Int.reduceLE, Int.reduceEq, Int.reduceNeg, Int.reduceBEq, Int.reduceBNe, String.reduceEq, forall_const, ↓vmDA, vmVA, ↓vmQA, vmR, vmRA, ↓vmSA, vmSV, tyS, nuE, SubA.skip, SubA.refl, fr.2, vbTpl, lt, wM, lt2, li, hbk2, c0, c1, c2, w8, wd, wt, wt2, wt3]
        rw [← hdt2]
        clear nuE fr
        refine open_use (stepP_h E2 (cat [B2, [(n9, (Obj.cells #[.int .i64 1, .string (bs pT), .string (bs []), .string (bs shopT), .string (bs homeT), .string (bs mT), .string (bs cardT), .int .i64 1000, .string (bs eurT), .int .i64 10, .int .i64 5411, .bool true] 29))], A]) db fv2 R F2 hE2 dE2 (by rw [hF]; exact hI.ok ha) dT ((x.ev % 8 : Nat) : Int) dt [] none 0 StR.nil) sX ?_
        intro E3 fv3 F3 g1 g2 g3
        rw [hR, hF] at g2 ⊢
        obtain ⟨f3, z1, hI3, y2, z3⟩ := stepX_top (e := ((x.ev % 8 : Nat) : Int)) hI (date := dt) (by omega) (by omega)
        rw [z1] at g2
        have hpre : ∃ y, f3.h = f.h ++ y := ⟨y2, z3⟩
        have hdt3 : 20 ≤ dt ∧ dt ≤ 20 + 1000 * ((e + 1 : Nat) : Int) := by omega
        have hend3 : k = 0 → endT f3 := fun h => by omega
        have sp3 : Sep [E3, B2, [(n9, (Obj.cells #[.int .i64 1, .string (bs pT), .string (bs []), .string (bs shopT), .string (bs homeT), .string (bs mT), .string (bs cardT), .int .i64 1000, .string (bs eurT), .int .i64 10, .int .i64 5411, .bool true] 29))], A] := Sep.cons g3 spX
        have hc3 := hI3.c
        have gv := getDk_w E3 db fv3 R F3 g1 dT _ (Sep.subs sp3 [0] rfl)
        rw [g2, getX_top hI3] at gv
        rw [Option.getD_some, hc3] at gv
        simp only [Option.isSome_some, caAgg, caTop, cat, List.cons_append, List.nil_append] at gv ⊢
        intro ν fr; have nuE := fr.nu
        have w0 : Vm.look (cat [E3, B2, [(n9, (Obj.cells #[.int .i64 1, .string (bs pT), .string (bs []), .string (bs shopT), .string (bs homeT), .string (bs mT), .string (bs cardT), .int .i64 1000, .string (bs eurT), .int .i64 10, .int .i64 5411, .bool true] 29))], A]) (ν 0) = none := fr.2 0
        simp (maxDischargeDepth := 16) only [argE_nil, argE_cons, ↓vmD, vmV, vmStd, Nat.reduceMul, ↓reduceIte, Nat.reduceAdd, Nat.reduceSub, Nat.reduceEqDiff, Nat.reduceLT, Nat.reduceLeDiff, reduceCtorEq, Int.reduceToNat, Int.reduceLT, Int.reduceLE, Int.reduceEq, Int.reduceNeg, Int.reduceBEq, Int.reduceBNe, String.reduceEq, forall_const, ↓vmDA, vmVA, ↓vmQA, vmR, vmRA, ↓vmSA, vmSV, tyS, nuE, SubA.skip, SubA.refl, fr.2, vbTpl, gv, b_d]
        have dst_ : True := (by simp [nuE]); generalize ν 0 = n7 at dst_  w0 ⊢
        clear nuE fr gv dst_
        have sp4 : Sep [[(n7, (Obj.cells #[.string (bs dT), .string (bs pT), .string (bs fraudT), .string (bs homeT), .string (bs shopT), .int .i64 a, .string (bs eurT), .int .i64 f3.c.st, .int .i64 20, .int .i64 f3.c.du] 43))], E3, B2, [(n9, (Obj.cells #[.int .i64 1, .string (bs pT), .string (bs []), .string (bs shopT), .string (bs homeT), .string (bs mT), .string (bs cardT), .int .i64 1000, .string (bs eurT), .int .i64 10, .int .i64 5411, .bool true] 29))], A] := Sep.fresh w0 _ sp3
        refine CallA.newX (histD_h E3 db fv3 R F3 g1 (hist_len hI3 g2) dT) (Sep.subs sp4 [1] rfl) ?_
        rintro v5 B5 ho5 hd5
        rw [g2, histX_top hI3] at ho5
        have sp4' : Sep [B5, [(n7, (Obj.cells #[.string (bs dT), .string (bs pT), .string (bs fraudT), .string (bs homeT), .string (bs shopT), .int .i64 a, .string (bs eurT), .int .i64 f3.c.st, .int .i64 20, .int .i64 f3.c.du] 43))], E3, B2, [(n9, (Obj.cells #[.int .i64 1, .string (bs pT), .string (bs []), .string (bs shopT), .string (bs homeT), .string (bs mT), .string (bs cardT), .int .i64 1000, .string (bs eurT), .int .i64 10, .int .i64 5411, .bool true] 29))], A] := Sep.cons (show Dis B5 (cat [[(n7, (Obj.cells #[.string (bs dT), .string (bs pT), .string (bs fraudT), .string (bs homeT), .string (bs shopT), .int .i64 a, .string (bs eurT), .int .i64 f3.c.st, .int .i64 20, .int .i64 f3.c.du] 43))], E3, B2, [(n9, (Obj.cells #[.int .i64 1, .string (bs pT), .string (bs []), .string (bs shopT), .string (bs homeT), .string (bs mT), .string (bs cardT), .int .i64 1000, .string (bs eurT), .int .i64 10, .int .i64 5411, .bool true] 29))], A]) from hd5) sp4
        have sp5 : Sep [[(n7, (Obj.cells #[.string (bs dT), .string (bs pT), .string (bs fraudT), .string (bs homeT), .string (bs shopT), .int .i64 a, .string (bs eurT), .int .i64 f3.c.st, .int .i64 20, .int .i64 f3.c.du] 43))], B5, E3, B2, [(n9, (Obj.cells #[.int .i64 1, .string (bs pT), .string (bs []), .string (bs shopT), .string (bs homeT), .string (bs mT), .string (bs cardT), .int .i64 1000, .string (bs eurT), .int .i64 10, .int .i64 5411, .bool true] 29))], A] := Sep.pick sp4' [1, 0, 2, 3, 4, 5] rfl rfl
        refine ⟨cat [[(n7, (Obj.cells #[.string (bs dT), .string (bs pT), .string (bs fraudT), .string (bs homeT), .string (bs shopT), .int .i64 a, .string (bs eurT), .int .i64 f3.c.st, .int .i64 20, .int .i64 f3.c.du] 43))], B5, E3, B2, [(n9, (Obj.cells #[.int .i64 1, .string (bs pT), .string (bs []), .string (bs shopT), .string (bs homeT), .string (bs mT), .string (bs cardT), .int .i64 1000, .string (bs eurT), .int .i64 10, .int .i64 5411, .bool true] 29))], A], Sep.subs sp4' [1, 0, 2, 3, 4, 5] rfl, ?_⟩
        obtain ⟨p5, c5, rfl, hc5, hs5⟩ := ho5.read intC_len
        obtain ⟨b5, o5, cs5, ty5, fr5, rfl, hb5, cl5⟩ := cellsI hs5 hI3.ne
        have hb6 := (Sep.subs sp5 [1] rfl : SubA B5 (cat [[(n7, (Obj.cells #[.string (bs dT), .string (bs pT), .string (bs fraudT), .string (bs homeT), .string (bs shopT), .int .i64 a, .string (bs eurT), .int .i64 f3.c.st, .int .i64 20, .int .i64 f3.c.du] 43))], B5, E3, B2, [(n9, (Obj.cells #[.int .i64 1, .string (bs pT), .string (bs []), .string (bs shopT), .string (bs homeT), .string (bs mT), .string (bs cardT), .int .i64 1000, .string (bs eurT), .int .i64 10, .int .i64 5411, .bool true] 29))], A])) _ _ hb5
        have q0 : cs5[o5]? = some (.int .i64 1) := cl5 0 _ (first_one hI3)
        have q1 := cl5 _ _ (last_at (s := 0) hI3.ne)
        rw [hI3.ls] at q1
        have hl5 := hI3.len
        have hs6 := hI3.st
        have hp5 : 0 < f3.h.length := List.length_pos_iff.2 hI3.ne
        have wl : IntKind.i64.wrap ((f3.h.length : Int) - 1) = ((f3.h.length - 1 : Nat) : Int) := (w_i64 (by omega) (by omega)).trans (by omega)
        have le0 : ((f3.h.length : Int) == 0) = false := by simpa using hI3.ne
        have l1t : (((f3.h.length - 1 : Nat) : Int) < (f3.h.length : Int)) = True := eq_true (by omega)
        have l1n : (((f3.h.length - 1 : Nat) : Int) < 0) = False := eq_false (by omega)
        have l0t : ((0 : Int) < (f3.h.length : Int)) = True := eq_true (by omega)
        have m75 : (n7 = b5) = False := eq_false fun h => by
          have := sp5.1.1 b5 (by rw [hb5]; simp)
          simp only [Vm.look] at this
          rw [if_pos h] at this; cases this
        simp only [cat, List.cons_append, List.nil_append, Vm.look, m75, if_false] at hb6
        simp only [cat, List.cons_append, List.nil_append]
        intro ν fr; have nuE := And.intro (fr.mem (b := n7) (by simp)) (fr.nu)
        simp (maxDischargeDepth := 16) only [argE_nil, argE_cons, ↓vmD, vmV, vmStd, Nat.reduceMul, ↓reduceIte, Nat.reduceAdd, Nat.reduceSub, Nat.reduceEqDiff, Nat.reduceLT, Nat.reduceLeDiff, reduceCtorEq, Int.reduceToNat, Int.reduceLT, Int.reduceLE, Int.reduceEq, Int.reduceNeg, Int.reduceBEq, Int.reduceBNe, String.reduceEq, forall_const, ↓vmDA, vmVA, ↓vmQA, vmR, vmRA, ↓vmSA, vmSV, tyS, nuE, SubA.skip, SubA.refl, fr.2, vbTpl, hb6, m75, q0, q1, wl, le0, l1t, l1n, l0t, bne_self_eq_false]
        clear nuE fr
        obtain ⟨y0, hy0⟩ := hpre
        have hn3 : n ≤ f3.h.length := by rw [hy0]; simp; omega
        have hst3 : st = lasT 0 (f3.h.take n) := by rw [hy0, List.take_append_of_le_length hn]; exact hst
        obtain ⟨c, j, s, B6, hcn, hcj, hss, hB6, hs, hBk6, sp6⟩ : ∃ (c j : Nat) (s : Int) (B6 : AH), c = n ∧ c + j = f3.h.length ∧ s = st ∧ B6 = B2 ∧ s = lasT 0 (f3.h.take c) ∧ BkP B6 bb (netT a s) ∧ Sep [[(n7, (Obj.cells #[.string (bs dT), .string (bs pT), .string (bs fraudT), .string (bs homeT), .string (bs shopT), .int .i64 a, .string (bs eurT), .int .i64 f3.c.st, .int .i64 20, .int .i64 f3.c.du] 43))], B5, E3, B6, [(n9, (Obj.cells #[.int .i64 1, .string (bs pT), .string (bs []), .string (bs shopT), .string (bs homeT), .string (bs mT), .string (bs cardT), .int .i64 1000, .string (bs eurT), .int .i64 10, .int .i64 5411, .bool true] 29))], A] := ⟨n, f3.h.length - n, st, B2, rfl, by omega, rfl, rfl, hst3, hBk, sp5⟩
        rw [← hcn, ← hss]
        rw [show (14, some (Value.int .i64 (c : Int))) = (14, some (Value.int .i64 (n : Int))) by rw [hcn]]
        refine LoopA.at (A := cat [[(n7, (Obj.cells #[.string (bs dT), .string (bs pT), .string (bs fraudT), .string (bs homeT), .string (bs shopT), .int .i64 a, .string (bs eurT), .int .i64 f3.c.st, .int .i64 20, .int .i64 f3.c.du] 43))], B5, E3, B6, [(n9, (Obj.cells #[.int .i64 1, .string (bs pT), .string (bs []), .string (bs shopT), .string (bs homeT), .string (bs mT), .string (bs cardT), .int .i64 1000, .string (bs eurT), .int .i64 10, .int .i64 5411, .bool true] 29))], A]) (by rw [hB6]; exact SubA.refl _) ?_
        clear hcn hss hB6 sp5 hb6
        induction j generalizing c s B6 with
        | zero =>
          have lj : ((c : Int) < (f3.h.length : Int)) = False := eq_false (by omega)
          have hsl : s = f3.c.st := by rw [hs, show c = f3.h.length by omega, List.take_length]; exact hI3.ls
          have n1 := posNet_w B6 bb (netT a s) hBk6 true _ (Sep.subs sp6 [3] rfl)
          have n2 := posNet_w B6 bb (netT a s) hBk6 false _ (Sep.subs sp6 [3] rfl)
          simp only [if_true, Bool.false_eq_true, if_false, cat, List.cons_append, List.nil_append] at n1 n2
          refine LoopA.intro (by kernel_rfl) ?_
          simp only [cat, List.cons_append, List.nil_append]
          intro ν fr; have nuE := And.intro (fr.mem (b := n7) (by simp)) (fr.nu)
          have fin : SubA (cat [E3, B6, [(n9, (Obj.cells #[.int .i64 1, .string (bs pT), .string (bs []), .string (bs shopT), .string (bs homeT), .string (bs mT), .string (bs cardT), .int .i64 1000, .string (bs eurT), .int .i64 10, .int .i64 5411, .bool true] 29))], A]) (cat [[(n7, (Obj.cells #[.string (bs dT), .string (bs pT), .string (bs fraudT), .string (bs homeT), .string (bs shopT), .int .i64 a, .string (bs eurT), .int .i64 f3.c.st, .int .i64 20, .int .i64 f3.c.du] 43))], B5, E3, B6, [(n9, (Obj.cells #[.int .i64 1, .string (bs pT), .string (bs []), .string (bs shopT), .string (bs homeT), .string (bs mT), .string (bs cardT), .int .i64 1000, .string (bs eurT), .int .i64 10, .int .i64 5411, .bool true] 29))], A]) := Sep.subs sp6 [2, 3, 4, 5] rfl
          have hsx : s = lasT 0 (f3.h.take f3.h.length) := by rw [List.take_length, hI3.ls]; exact hsl
          by_cases hh : holdF f3.c.st = 1
          · have hh2 : (holdF f3.c.st == 1) = true := by rw [hh]; rfl
            have hnt : netT a s = a := by unfold netT; rw [hsl, if_pos hh]
            rw [hnt] at n1 n2
            have wn : IntKind.i64.wrap (0 - a) = -a := by rw [w_i64 (by omega) (by omega)]; omega
            simp (maxDischargeDepth := 16) only [argE_nil, argE_cons, ↓vmD, vmV, vmStd, Nat.reduceMul, ↓reduceIte, Nat.reduceAdd, Nat.reduceSub, Nat.reduceEqDiff, Nat.reduceLT, Nat.reduceLeDiff, reduceCtorEq, Int.reduceToNat, Int.reduceLT, Int.reduceLE, Int.reduceEq, Int.reduceNeg, Int.reduceBEq, Int.reduceBNe, String.reduceEq, forall_const, ↓vmDA, vmVA, ↓vmQA, vmR, vmRA, ↓vmSA, vmSV, tyS, nuE, SubA.skip, SubA.refl, fr.2, vbTpl, lj, n1, n2, hh, hh2, b_h, b_s, b_e, wn, we, bne_self_eq_false]
            refine LoopA.at (A := cat [E3, B6, [(n9, (Obj.cells #[.int .i64 1, .string (bs pT), .string (bs []), .string (bs shopT), .string (bs homeT), .string (bs mT), .string (bs cardT), .int .i64 1000, .string (bs eurT), .int .i64 10, .int .i64 5411, .bool true] 29))], A]) fin ?_
            exact LoopA.weak (ih (e + 1) dt s f3.h.length f3 E3 fv3 F3 B6 (by omega) hdt3 hI3 g2 g1 (Sep.pick sp6 [2, 3, 4, 5] rfl rfl) hBk6 (Nat.le_refl _) hsx hend3) (by simp only [subE, get_cons, Nat.reduceEqDiff, ↓reduceIte, reduceCtorEq, Nat.reduceAdd, and_self, and_true]) (SubA.refl _)
          · have hh2 : (holdF f3.c.st == 1) = false := by simpa using hh
            have hnt : netT a s = 0 := by unfold netT; rw [hsl, if_neg hh]
            rw [hnt] at n1 n2
            have wn : IntKind.i64.wrap (0 - 0) = 0 := by decide
            have wn2 : (-0 : Int) = 0 := by decide
            rw [wn2] at n2
            simp (maxDischargeDepth := 16) only [argE_nil, argE_cons, ↓vmD, vmV, vmStd, Nat.reduceMul, ↓reduceIte, Nat.reduceAdd, Nat.reduceSub, Nat.reduceEqDiff, Nat.reduceLT, Nat.reduceLeDiff, reduceCtorEq, Int.reduceToNat, Int.reduceLT, Int.reduceLE, Int.reduceEq, Int.reduceNeg, Int.reduceBEq, Int.reduceBNe, String.reduceEq, forall_const, ↓vmDA, vmVA, ↓vmQA, vmR, vmRA, ↓vmSA, vmSV, tyS, nuE, SubA.skip, SubA.refl, fr.2, vbTpl, lj, n1, n2, eq_false hh, hh2, b_h, b_s, b_e, wn, we, bne_self_eq_false]
            refine LoopA.at (A := cat [E3, B6, [(n9, (Obj.cells #[.int .i64 1, .string (bs pT), .string (bs []), .string (bs shopT), .string (bs homeT), .string (bs mT), .string (bs cardT), .int .i64 1000, .string (bs eurT), .int .i64 10, .int .i64 5411, .bool true] 29))], A]) fin ?_
            exact LoopA.weak (ih (e + 1) dt s f3.h.length f3 E3 fv3 F3 B6 (by omega) hdt3 hI3 g2 g1 (Sep.pick sp6 [2, 3, 4, 5] rfl rfl) hBk6 (Nat.le_refl _) hsx hend3) (by simp only [subE, get_cons, Nat.reduceEqDiff, ↓reduceIte, reduceCtorEq, Nat.reduceAdd, and_self, and_true]) (SubA.refl _)
        | succ j jh =>
          have lj : ((c : Int) < (f3.h.length : Int)) = True := eq_true (by omega)
          have lcn : ((c : Int) < 0) = False := eq_false (by omega)
          obtain ⟨t, ht⟩ : ∃ t, f3.h[c]? = some t := ⟨_, List.getElem?_eq_getElem (by omega)⟩
          have qc := cl5 c t ht
          obtain ⟨u1, u2⟩ := chT_at hI3.ch ht
          rw [← hs] at u1
          have srng : 0 ≤ s ∧ s ≤ 6 := by rw [hs]; exact lasT_rng c hI3.ch (by decide)
          have wc : IntKind.i64.wrap ((c : Int) + 1) = ((c + 1 : Nat) : Int) := by rw [w_i64 (by omega) (by omega)]; omega
          have hmv := topMove (a := a) (s := s) (t := t) (d := dt) (st := f3.c.st) (du := f3.c.du) (n := c + 1) ha srng u2 u1 (by omega) (by omega)
          have hb7 := (Sep.subs sp6 [1] rfl : SubA B5 (cat [[(n7, (Obj.cells #[.string (bs dT), .string (bs pT), .string (bs fraudT), .string (bs homeT), .string (bs shopT), .int .i64 a, .string (bs eurT), .int .i64 f3.c.st, .int .i64 20, .int .i64 f3.c.du] 43))], B5, E3, B6, [(n9, (Obj.cells #[.int .i64 1, .string (bs pT), .string (bs []), .string (bs shopT), .string (bs homeT), .string (bs mT), .string (bs cardT), .int .i64 1000, .string (bs eurT), .int .i64 10, .int .i64 5411, .bool true] 29))], A])) _ _ hb5
          have hr7 := (Sep.subs sp6 [4] rfl : SubA [(n9, (Obj.cells #[.int .i64 1, .string (bs pT), .string (bs []), .string (bs shopT), .string (bs homeT), .string (bs mT), .string (bs cardT), .int .i64 1000, .string (bs eurT), .int .i64 10, .int .i64 5411, .bool true] 29))] (cat [[(n7, (Obj.cells #[.string (bs dT), .string (bs pT), .string (bs fraudT), .string (bs homeT), .string (bs shopT), .int .i64 a, .string (bs eurT), .int .i64 f3.c.st, .int .i64 20, .int .i64 f3.c.du] 43))], B5, E3, B6, [(n9, (Obj.cells #[.int .i64 1, .string (bs pT), .string (bs []), .string (bs shopT), .string (bs homeT), .string (bs mT), .string (bs cardT), .int .i64 1000, .string (bs eurT), .int .i64 10, .int .i64 5411, .bool true] 29))], A])) n9 (Obj.cells #[.int .i64 1, .string (bs pT), .string (bs []), .string (bs shopT), .string (bs homeT), .string (bs mT), .string (bs cardT), .int .i64 1000, .string (bs eurT), .int .i64 10, .int .i64 5411, .bool true] 29) (look_one n9 _)
          have m79 : (n7 = n9) = False := eq_false fun h => by
            have := (Sep.dis sp6) n9 (by rw [show Vm.look (cat [B5, E3, B6, [(n9, (Obj.cells #[.int .i64 1, .string (bs pT), .string (bs []), .string (bs shopT), .string (bs homeT), .string (bs mT), .string (bs cardT), .int .i64 1000, .string (bs eurT), .int .i64 10, .int .i64 5411, .bool true] 29))], A]) n9 = some (Obj.cells #[.int .i64 1, .string (bs pT), .string (bs []), .string (bs shopT), .string (bs homeT), .string (bs mT), .string (bs cardT), .int .i64 1000, .string (bs eurT), .int .i64 10, .int .i64 5411, .bool true] 29) from (Sep.subs sp6.2 [3] rfl : SubA [(n9, (Obj.cells #[.int .i64 1, .string (bs pT), .string (bs []), .string (bs shopT), .string (bs homeT), .string (bs mT), .string (bs cardT), .int .i64 1000, .string (bs eurT), .int .i64 10, .int .i64 5411, .bool true] 29))] _) n9 (Obj.cells #[.int .i64 1, .string (bs pT), .string (bs []), .string (bs shopT), .string (bs homeT), .string (bs mT), .string (bs cardT), .int .i64 1000, .string (bs eurT), .int .i64 10, .int .i64 5411, .bool true] 29) (look_one n9 _)]; simp)
            simp only [Vm.look] at this
            rw [if_pos h] at this; cases this
          have hb7' := hb7
          have hr7' := hr7
          simp only [cat, List.cons_append, List.nil_append, Vm.look, m75, m79, if_false] at hb7 hr7
          have mv := panMove_w A hT (csOf (caTop a f3.c.st f3.c.du)) rcTop s t dt ((c + 1 : Nat) : Int) (csTop_sz _ _ _) rcTop_sz _ (Sep.subs sp6 [5] rfl : SubA A (cat [[(n7, (Obj.cells #[.string (bs dT), .string (bs pT), .string (bs fraudT), .string (bs homeT), .string (bs shopT), .int .i64 a, .string (bs eurT), .int .i64 f3.c.st, .int .i64 20, .int .i64 f3.c.du] 43))], B5, E3, B6, [(n9, (Obj.cells #[.int .i64 1, .string (bs pT), .string (bs []), .string (bs shopT), .string (bs homeT), .string (bs mT), .string (bs cardT), .int .i64 1000, .string (bs eurT), .int .i64 10, .int .i64 5411, .bool true] 29))], A]))
          have hs2 : t = lasT 0 (f3.h.take (c + 1)) := (lasT_take ht).symm
          refine LoopA.intro (by kernel_rfl) ?_
          simp only [cat, List.cons_append, List.nil_append]
          by_cases hhd : holdF s = holdF t
          · rw [movV_no (c := csOf (caTop a f3.c.st f3.c.du)) (r := rcTop) hmv hhd] at mv
            simp only [csOf, caTop, rcTop, cat, List.cons_append, List.nil_append] at mv
            have hnet : netT a t = netT a s := by unfold netT; rw [hhd]
            intro ν fr; have nuE := And.intro (fr.mem (b := n7) (by simp)) (fr.nu)
            have z0 : Vm.look (cat [[(n7, (Obj.cells #[.string (bs dT), .string (bs pT), .string (bs fraudT), .string (bs homeT), .string (bs shopT), .int .i64 a, .string (bs eurT), .int .i64 f3.c.st, .int .i64 20, .int .i64 f3.c.du] 43))], B5, E3, B6, [(n9, (Obj.cells #[.int .i64 1, .string (bs pT), .string (bs []), .string (bs shopT), .string (bs homeT), .string (bs mT), .string (bs cardT), .int .i64 1000, .string (bs eurT), .int .i64 10, .int .i64 5411, .bool true] 29))], A]) (ν 0) = none := fr.2 0
            have z5 := (look_ne z0 hb7').1
            have z9 := (look_ne z0 hr7').1
            simp (maxDischargeDepth := 16) only [argE_nil, argE_cons, ↓vmD, vmV, vmStd, Nat.reduceMul, ↓reduceIte, Nat.reduceAdd, Nat.reduceSub, Nat.reduceEqDiff, Nat.reduceLT, Nat.reduceLeDiff, reduceCtorEq, Int.reduceToNat, Int.reduceLT, Int.reduceLE, Int.reduceEq, Int.reduceNeg, Int.reduceBEq, Int.reduceBNe, String.reduceEq, forall_const, ↓vmDA, vmVA, ↓vmQA, vmR, vmRA, ↓vmSA, vmSV, tyS, nuE, SubA.skip, SubA.refl, fr.2, vbTpl, lj, lcn, hb7, hr7, m75, m79, z5, z9, qc, wc, mv]
            refine LoopA.at (A := cat [[(n7, (Obj.cells #[.string (bs dT), .string (bs pT), .string (bs fraudT), .string (bs homeT), .string (bs shopT), .int .i64 a, .string (bs eurT), .int .i64 f3.c.st, .int .i64 20, .int .i64 f3.c.du] 43))], B5, E3, B6, [(n9, (Obj.cells #[.int .i64 1, .string (bs pT), .string (bs []), .string (bs shopT), .string (bs homeT), .string (bs mT), .string (bs cardT), .int .i64 1000, .string (bs eurT), .int .i64 10, .int .i64 5411, .bool true] 29))], A]) (SubA.fresh z0 (SubA.refl _)) ?_
            exact LoopA.weak (jh (c + 1) t B6 (by omega) hs2 (by rw [hnet]; exact hBk6) sp6) (by simp only [subE, get_cons, Nat.reduceEqDiff, ↓reduceIte, reduceCtorEq, Nat.reduceAdd, and_self, and_true]) (SubA.refl _)
          · rw [movV_yes (c := csOf (caTop a f3.c.st f3.c.du)) (r := rcTop) hmv hhd] at mv
            simp only [movR, Rc.cells, csOf, caTop, rcTop, Int.toNat_natCast, cat, List.cons_append, List.nil_append] at mv
            intro ν fr; have nuE := And.intro (fr.mem (b := n7) (by simp)) (fr.nu)
            have z0 : Vm.look (cat [[(n7, (Obj.cells #[.string (bs dT), .string (bs pT), .string (bs fraudT), .string (bs homeT), .string (bs shopT), .int .i64 a, .string (bs eurT), .int .i64 f3.c.st, .int .i64 20, .int .i64 f3.c.du] 43))], B5, E3, B6, [(n9, (Obj.cells #[.int .i64 1, .string (bs pT), .string (bs []), .string (bs shopT), .string (bs homeT), .string (bs mT), .string (bs cardT), .int .i64 1000, .string (bs eurT), .int .i64 10, .int .i64 5411, .bool true] 29))], A]) (ν 0) = none := fr.2 0
            have z5 := (look_ne z0 hb7').1
            have z9 := (look_ne z0 hr7').1
            rcases hold12 (show 0 ≤ t ∧ t ≤ 6 by omega) with h1 | h2
            · have hs1 : holdF s = 2 := by rcases hold12 srng with h | h <;> omega
              have hnt : netT a s = 0 := by unfold netT; rw [if_neg (by omega)]
              have hnt2 : netT a t = 0 + a := by unfold netT; rw [if_pos h1]; omega
              rw [hnt] at hBk6
              have h12 : ((1 : Int) = 2) = False := by decide
              rw [h1] at mv
              simp (maxDischargeDepth := 16) only [argE_nil, argE_cons, ↓vmD, vmV, vmStd, Nat.reduceMul, ↓reduceIte, Nat.reduceAdd, Nat.reduceSub, Nat.reduceEqDiff, Nat.reduceLT, Nat.reduceLeDiff, reduceCtorEq, Int.reduceToNat, Int.reduceLT, Int.reduceLE, Int.reduceEq, Int.reduceNeg, Int.reduceBEq, Int.reduceBNe, String.reduceEq, forall_const, ↓vmDA, vmVA, ↓vmQA, vmR, vmRA, ↓vmSA, vmSV, tyS, nuE, SubA.skip, SubA.refl, fr.2, vbTpl, lj, lcn, hb7, hr7, m75, m79, z5, z9, qc, wc, mv, h12]
              refine CallA.st (posUp_h B6 bb 0 a hBk6 (by omega) (by omega)) (SubA.trans (Sep.subs sp6 [3] rfl) (SubA.fresh z0 (SubA.refl _))) (X := cat [[(n7, (Obj.cells #[.string (bs dT), .string (bs pT), .string (bs fraudT), .string (bs homeT), .string (bs shopT), .int .i64 a, .string (bs eurT), .int .i64 f3.c.st, .int .i64 20, .int .i64 f3.c.du] 43))], B5, E3, [(n9, (Obj.cells #[.int .i64 1, .string (bs pT), .string (bs []), .string (bs shopT), .string (bs homeT), .string (bs mT), .string (bs cardT), .int .i64 1000, .string (bs eurT), .int .i64 10, .int .i64 5411, .bool true] 29))], A]) (SubA.trans (Sep.subs sp6 [0, 1, 2, 4, 5] rfl) (SubA.fresh z0 (SubA.refl _))) (Sep.dis (Sep.pick sp6 [3, 0, 1, 2, 4, 5] rfl rfl)) ?_
              rintro v7 B7 ⟨rfl, hB7⟩ hd7
              have sp7 : Sep [B7, [(n7, (Obj.cells #[.string (bs dT), .string (bs pT), .string (bs fraudT), .string (bs homeT), .string (bs shopT), .int .i64 a, .string (bs eurT), .int .i64 f3.c.st, .int .i64 20, .int .i64 f3.c.du] 43))], B5, E3, [(n9, (Obj.cells #[.int .i64 1, .string (bs pT), .string (bs []), .string (bs shopT), .string (bs homeT), .string (bs mT), .string (bs cardT), .int .i64 1000, .string (bs eurT), .int .i64 10, .int .i64 5411, .bool true] 29))], A] := Sep.cons hd7 (Sep.pick sp6 [0, 1, 2, 4, 5] rfl rfl)
              have hb8 := (Sep.subs sp7 [2] rfl : SubA B5 (cat [B7, [(n7, (Obj.cells #[.string (bs dT), .string (bs pT), .string (bs fraudT), .string (bs homeT), .string (bs shopT), .int .i64 a, .string (bs eurT), .int .i64 f3.c.st, .int .i64 20, .int .i64 f3.c.du] 43))], B5, E3, [(n9, (Obj.cells #[.int .i64 1, .string (bs pT), .string (bs []), .string (bs shopT), .string (bs homeT), .string (bs mT), .string (bs cardT), .int .i64 1000, .string (bs eurT), .int .i64 10, .int .i64 5411, .bool true] 29))], A])) _ _ hb5
              simp only [cat, List.cons_append, List.nil_append] at hb8 ⊢
              clear nuE fr z0
              intro ν fr; have nuE := And.intro (fr.mem (b := n7) (by simp)) (fr.nu)
              simp (maxDischargeDepth := 16) only [argE_nil, argE_cons, ↓vmD, vmV, vmStd, Nat.reduceMul, ↓reduceIte, Nat.reduceAdd, Nat.reduceSub, Nat.reduceEqDiff, Nat.reduceLT, Nat.reduceLeDiff, reduceCtorEq, Int.reduceToNat, Int.reduceLT, Int.reduceLE, Int.reduceEq, Int.reduceNeg, Int.reduceBEq, Int.reduceBNe, String.reduceEq, forall_const, ↓vmDA, vmVA, ↓vmQA, vmR, vmRA, ↓vmSA, vmSV, tyS, nuE, SubA.skip, SubA.refl, fr.2, vbTpl, lj, lcn, hb8, qc, wc]
              refine LoopA.at (A := cat [[(n7, (Obj.cells #[.string (bs dT), .string (bs pT), .string (bs fraudT), .string (bs homeT), .string (bs shopT), .int .i64 a, .string (bs eurT), .int .i64 f3.c.st, .int .i64 20, .int .i64 f3.c.du] 43))], B5, E3, B7, [(n9, (Obj.cells #[.int .i64 1, .string (bs pT), .string (bs []), .string (bs shopT), .string (bs homeT), .string (bs mT), .string (bs cardT), .int .i64 1000, .string (bs eurT), .int .i64 10, .int .i64 5411, .bool true] 29))], A]) (Sep.subs sp7 [1, 2, 3, 0, 4, 5] rfl) ?_
              exact LoopA.weak (jh (c + 1) t B7 (by omega) hs2 (by rw [hnt2]; exact hB7) (Sep.pick sp7 [1, 2, 3, 0, 4, 5] rfl rfl)) (by simp only [subE, get_cons, Nat.reduceEqDiff, ↓reduceIte, reduceCtorEq, Nat.reduceAdd, and_self, and_true]) (SubA.refl _)
            · have hs1 : holdF s = 1 := by rcases hold12 srng with h | h <;> omega
              have hnt : netT a s = a := by unfold netT; rw [if_pos hs1]
              have hnt2 : netT a t = a - a := by unfold netT; rw [if_neg (by omega)]; omega
              rw [hnt] at hBk6
              rw [h2] at mv
              simp (maxDischargeDepth := 16) only [argE_nil, argE_cons, ↓vmD, vmV, vmStd, Nat.reduceMul, ↓reduceIte, Nat.reduceAdd, Nat.reduceSub, Nat.reduceEqDiff, Nat.reduceLT, Nat.reduceLeDiff, reduceCtorEq, Int.reduceToNat, Int.reduceLT, Int.reduceLE, Int.reduceEq, Int.reduceNeg, Int.reduceBEq, Int.reduceBNe, String.reduceEq, forall_const, ↓vmDA, vmVA, ↓vmQA, vmR, vmRA, ↓vmSA, vmSV, tyS, nuE, SubA.skip, SubA.refl, fr.2, vbTpl, lj, lcn, hb7, hr7, m75, m79, z5, z9, qc, wc, mv]
              refine CallA.st (posDn_h B6 bb a a hBk6 (by omega) (by omega)) (SubA.trans (Sep.subs sp6 [3] rfl) (SubA.fresh z0 (SubA.refl _))) (X := cat [[(n7, (Obj.cells #[.string (bs dT), .string (bs pT), .string (bs fraudT), .string (bs homeT), .string (bs shopT), .int .i64 a, .string (bs eurT), .int .i64 f3.c.st, .int .i64 20, .int .i64 f3.c.du] 43))], B5, E3, [(n9, (Obj.cells #[.int .i64 1, .string (bs pT), .string (bs []), .string (bs shopT), .string (bs homeT), .string (bs mT), .string (bs cardT), .int .i64 1000, .string (bs eurT), .int .i64 10, .int .i64 5411, .bool true] 29))], A]) (SubA.trans (Sep.subs sp6 [0, 1, 2, 4, 5] rfl) (SubA.fresh z0 (SubA.refl _))) (Sep.dis (Sep.pick sp6 [3, 0, 1, 2, 4, 5] rfl rfl)) ?_
              rintro v7 B7 ⟨rfl, hB7⟩ hd7
              have sp7 : Sep [B7, [(n7, (Obj.cells #[.string (bs dT), .string (bs pT), .string (bs fraudT), .string (bs homeT), .string (bs shopT), .int .i64 a, .string (bs eurT), .int .i64 f3.c.st, .int .i64 20, .int .i64 f3.c.du] 43))], B5, E3, [(n9, (Obj.cells #[.int .i64 1, .string (bs pT), .string (bs []), .string (bs shopT), .string (bs homeT), .string (bs mT), .string (bs cardT), .int .i64 1000, .string (bs eurT), .int .i64 10, .int .i64 5411, .bool true] 29))], A] := Sep.cons hd7 (Sep.pick sp6 [0, 1, 2, 4, 5] rfl rfl)
              have hb8 := (Sep.subs sp7 [2] rfl : SubA B5 (cat [B7, [(n7, (Obj.cells #[.string (bs dT), .string (bs pT), .string (bs fraudT), .string (bs homeT), .string (bs shopT), .int .i64 a, .string (bs eurT), .int .i64 f3.c.st, .int .i64 20, .int .i64 f3.c.du] 43))], B5, E3, [(n9, (Obj.cells #[.int .i64 1, .string (bs pT), .string (bs []), .string (bs shopT), .string (bs homeT), .string (bs mT), .string (bs cardT), .int .i64 1000, .string (bs eurT), .int .i64 10, .int .i64 5411, .bool true] 29))], A])) _ _ hb5
              simp only [cat, List.cons_append, List.nil_append] at hb8 ⊢
              clear nuE fr z0
              intro ν fr; have nuE := And.intro (fr.mem (b := n7) (by simp)) (fr.nu)
              simp (maxDischargeDepth := 16) only [argE_nil, argE_cons, ↓vmD, vmV, vmStd, Nat.reduceMul, ↓reduceIte, Nat.reduceAdd, Nat.reduceSub, Nat.reduceEqDiff, Nat.reduceLT, Nat.reduceLeDiff, reduceCtorEq, Int.reduceToNat, Int.reduceLT, Int.reduceLE, Int.reduceEq, Int.reduceNeg, Int.reduceBEq, Int.reduceBNe, String.reduceEq, forall_const, ↓vmDA, vmVA, ↓vmQA, vmR, vmRA, ↓vmSA, vmSV, tyS, nuE, SubA.skip, SubA.refl, fr.2, vbTpl, lj, lcn, hb8, qc, wc]
              refine LoopA.at (A := cat [[(n7, (Obj.cells #[.string (bs dT), .string (bs pT), .string (bs fraudT), .string (bs homeT), .string (bs shopT), .int .i64 a, .string (bs eurT), .int .i64 f3.c.st, .int .i64 20, .int .i64 f3.c.du] 43))], B5, E3, B7, [(n9, (Obj.cells #[.int .i64 1, .string (bs pT), .string (bs []), .string (bs shopT), .string (bs homeT), .string (bs mT), .string (bs cardT), .int .i64 1000, .string (bs eurT), .int .i64 10, .int .i64 5411, .bool true] 29))], A]) (Sep.subs sp7 [1, 2, 3, 0, 4, 5] rfl) ?_
              exact LoopA.weak (jh (c + 1) t B7 (by omega) hs2 (by rw [hnt2]; exact hB7) (Sep.pick sp7 [1, 2, 3, 0, 4, 5] rfl rfl)) (by simp only [subE, get_cons, Nat.reduceEqDiff, ↓reduceIte, reduceCtorEq, Nat.reduceAdd, and_self, and_true]) (SubA.refl _)
    · have lt2 : ((e : Int) < (M.length : Int)) = False := eq_false (by omega)
      have wd : IntKind.i64.wrap (date + 1000) = date + 1000 := w_i64 (by omega) (by omega)
      obtain ⟨dt, hdt2⟩ : ∃ d, d = date + 1000 := ⟨_, rfl⟩
      obtain ⟨ee, hee⟩ : ∃ ee : Int, ee = if is = true then 5 else 6 := ⟨_, rfl⟩
      have hee2 : ee = 5 ∨ ee = 6 := by rw [hee]; cases is <;> simp
      refine LoopA.intro (by kernel_rfl) ?_
      simp only [cat, List.cons_append, List.nil_append]
      intro ν fr; have nuE := fr.nu
      simp (maxDischargeDepth := 16) only [argE_nil, argE_cons, ↓vmD, vmV, vmStd, Nat.reduceMul, ↓reduceIte, Nat.reduceAdd, Nat.reduceSub, Nat.reduceEqDiff, Nat.reduceLT, Nat.reduceLeDiff, reduceCtorEq, Int.reduceToNat, Int.reduceLT, Int.reduceLE, Int.reduceEq, Int.reduceNeg, Int.reduceBEq, Int.reduceBNe, String.reduceEq, forall_const, ↓vmDA, vmVA, ↓vmQA, vmR, vmRA, ↓vmSA, vmSV, tyS, nuE, SubA.skip, SubA.refl, fr.2, vbTpl, lt, wM, lt2, wd]
      rw [← hdt2]
      clear nuE fr
      refine exp_use' (expP_h E2 (cat [B2, [(n9, (Obj.cells #[.int .i64 1, .string (bs pT), .string (bs []), .string (bs shopT), .string (bs homeT), .string (bs mT), .string (bs cardT), .int .i64 1000, .string (bs eurT), .int .i64 10, .int .i64 5411, .bool true] 29))], A]) db fv2 R F2 hE2 dE2 (by rw [hF]; exact hI.ok ha) dt) sX ?_
      intro u E4 F4 k1 k2 k3
      rw [hR, hF] at k2
      have hx0 := k2
      obtain ⟨x1, x2, y1, x3⟩ := expX_top hI (date := dt) (by omega) (by omega)
      rw [x1] at k2
      simp only [cat, List.cons_append, List.nil_append]
      have hstep := stepP_h E4 (cat [B2, [(n9, (Obj.cells #[.int .i64 1, .string (bs pT), .string (bs []), .string (bs shopT), .string (bs homeT), .string (bs mT), .string (bs cardT), .int .i64 1000, .string (bs eurT), .int .i64 10, .int .i64 5411, .bool true] 29))], A]) db fv2 R F4 k1 k3 (by rw [k2]; exact x2.ok ha) dT ee dt [] none 0 StR.nil
      obtain ⟨f3, z1, hI3, y2, z3⟩ := stepX_top (e := ee) x2 (Int.le_refl dt) (by omega)
      have hpre : ∃ y, f3.h = f.h ++ y := ⟨y1 ++ y2, by rw [z3, x3]; simp⟩
      have hdt3 : 20 ≤ dt ∧ dt ≤ 20 + 1000 * ((e + 1 : Nat) : Int) := by omega
      have hend3 : k = 0 → endT f3 := fun _ => topEnd hI hdt2.symm (by omega) hee2 f3 (by rw [x1]; exact z1)
      intro ν fr; have nuE := fr.nu
      cases is with
      | true =>
        rw [if_pos rfl] at hee
        subst hee
        simp (maxDischargeDepth := 16) only [argE_nil, argE_cons, ↓vmD, vmV, vmStd, Nat.reduceMul, ↓reduceIte, Nat.reduceAdd, Nat.reduceSub, Nat.reduceEqDiff, Nat.reduceLT, Nat.reduceLeDiff, reduceCtorEq, Int.reduceToNat, Int.reduceLT, Int.reduceLE, Int.reduceEq, Int.reduceNeg, Int.reduceBEq, Int.reduceBNe, String.reduceEq, forall_const, ↓vmDA, vmVA, ↓vmQA, vmR, vmRA, ↓vmSA, vmSV, tyS, nuE, SubA.skip, SubA.refl, fr.2, vbTpl]
        clear nuE fr
        refine open_use hstep (SubA.refl _) ?_
        intro E3 fv3 F3 g1 g2 g3
        rw [hR, k2] at g2 ⊢
        rw [z1] at g2
        have sp3 : Sep [E3, B2, [(n9, (Obj.cells #[.int .i64 1, .string (bs pT), .string (bs []), .string (bs shopT), .string (bs homeT), .string (bs mT), .string (bs cardT), .int .i64 1000, .string (bs eurT), .int .i64 10, .int .i64 5411, .bool true] 29))], A] := Sep.cons g3 spX
        have hc3 := hI3.c
        have gv := getDk_w E3 db fv3 R F3 g1 dT _ (Sep.subs sp3 [0] rfl)
        rw [g2, getX_top hI3] at gv
        rw [Option.getD_some, hc3] at gv
        simp only [Option.isSome_some, caAgg, caTop, cat, List.cons_append, List.nil_append] at gv ⊢
        intro ν fr; have nuE := fr.nu
        have w0 : Vm.look (cat [E3, B2, [(n9, (Obj.cells #[.int .i64 1, .string (bs pT), .string (bs []), .string (bs shopT), .string (bs homeT), .string (bs mT), .string (bs cardT), .int .i64 1000, .string (bs eurT), .int .i64 10, .int .i64 5411, .bool true] 29))], A]) (ν 0) = none := fr.2 0
        simp (maxDischargeDepth := 16) only [argE_nil, argE_cons, ↓vmD, vmV, vmStd, Nat.reduceMul, ↓reduceIte, Nat.reduceAdd, Nat.reduceSub, Nat.reduceEqDiff, Nat.reduceLT, Nat.reduceLeDiff, reduceCtorEq, Int.reduceToNat, Int.reduceLT, Int.reduceLE, Int.reduceEq, Int.reduceNeg, Int.reduceBEq, Int.reduceBNe, String.reduceEq, forall_const, ↓vmDA, vmVA, ↓vmQA, vmR, vmRA, ↓vmSA, vmSV, tyS, nuE, SubA.skip, SubA.refl, fr.2, vbTpl, gv, b_d]
        have dst_ : True := (by simp [nuE]); generalize ν 0 = n7 at dst_  w0 ⊢
        clear nuE fr gv dst_
        have sp4 : Sep [[(n7, (Obj.cells #[.string (bs dT), .string (bs pT), .string (bs fraudT), .string (bs homeT), .string (bs shopT), .int .i64 a, .string (bs eurT), .int .i64 f3.c.st, .int .i64 20, .int .i64 f3.c.du] 43))], E3, B2, [(n9, (Obj.cells #[.int .i64 1, .string (bs pT), .string (bs []), .string (bs shopT), .string (bs homeT), .string (bs mT), .string (bs cardT), .int .i64 1000, .string (bs eurT), .int .i64 10, .int .i64 5411, .bool true] 29))], A] := Sep.fresh w0 _ sp3
        refine CallA.newX (histD_h E3 db fv3 R F3 g1 (hist_len hI3 g2) dT) (Sep.subs sp4 [1] rfl) ?_
        rintro v5 B5 ho5 hd5
        rw [g2, histX_top hI3] at ho5
        have sp4' : Sep [B5, [(n7, (Obj.cells #[.string (bs dT), .string (bs pT), .string (bs fraudT), .string (bs homeT), .string (bs shopT), .int .i64 a, .string (bs eurT), .int .i64 f3.c.st, .int .i64 20, .int .i64 f3.c.du] 43))], E3, B2, [(n9, (Obj.cells #[.int .i64 1, .string (bs pT), .string (bs []), .string (bs shopT), .string (bs homeT), .string (bs mT), .string (bs cardT), .int .i64 1000, .string (bs eurT), .int .i64 10, .int .i64 5411, .bool true] 29))], A] := Sep.cons (show Dis B5 (cat [[(n7, (Obj.cells #[.string (bs dT), .string (bs pT), .string (bs fraudT), .string (bs homeT), .string (bs shopT), .int .i64 a, .string (bs eurT), .int .i64 f3.c.st, .int .i64 20, .int .i64 f3.c.du] 43))], E3, B2, [(n9, (Obj.cells #[.int .i64 1, .string (bs pT), .string (bs []), .string (bs shopT), .string (bs homeT), .string (bs mT), .string (bs cardT), .int .i64 1000, .string (bs eurT), .int .i64 10, .int .i64 5411, .bool true] 29))], A]) from hd5) sp4
        have sp5 : Sep [[(n7, (Obj.cells #[.string (bs dT), .string (bs pT), .string (bs fraudT), .string (bs homeT), .string (bs shopT), .int .i64 a, .string (bs eurT), .int .i64 f3.c.st, .int .i64 20, .int .i64 f3.c.du] 43))], B5, E3, B2, [(n9, (Obj.cells #[.int .i64 1, .string (bs pT), .string (bs []), .string (bs shopT), .string (bs homeT), .string (bs mT), .string (bs cardT), .int .i64 1000, .string (bs eurT), .int .i64 10, .int .i64 5411, .bool true] 29))], A] := Sep.pick sp4' [1, 0, 2, 3, 4, 5] rfl rfl
        refine ⟨cat [[(n7, (Obj.cells #[.string (bs dT), .string (bs pT), .string (bs fraudT), .string (bs homeT), .string (bs shopT), .int .i64 a, .string (bs eurT), .int .i64 f3.c.st, .int .i64 20, .int .i64 f3.c.du] 43))], B5, E3, B2, [(n9, (Obj.cells #[.int .i64 1, .string (bs pT), .string (bs []), .string (bs shopT), .string (bs homeT), .string (bs mT), .string (bs cardT), .int .i64 1000, .string (bs eurT), .int .i64 10, .int .i64 5411, .bool true] 29))], A], Sep.subs sp4' [1, 0, 2, 3, 4, 5] rfl, ?_⟩
        obtain ⟨p5, c5, rfl, hc5, hs5⟩ := ho5.read intC_len
        obtain ⟨b5, o5, cs5, ty5, fr5, rfl, hb5, cl5⟩ := cellsI hs5 hI3.ne
        have hb6 := (Sep.subs sp5 [1] rfl : SubA B5 (cat [[(n7, (Obj.cells #[.string (bs dT), .string (bs pT), .string (bs fraudT), .string (bs homeT), .string (bs shopT), .int .i64 a, .string (bs eurT), .int .i64 f3.c.st, .int .i64 20, .int .i64 f3.c.du] 43))], B5, E3, B2, [(n9, (Obj.cells #[.int .i64 1, .string (bs pT), .string (bs []), .string (bs shopT), .string (bs homeT), .string (bs mT), .string (bs cardT), .int .i64 1000, .string (bs eurT), .int .i64 10, .int .i64 5411, .bool true] 29))], A])) _ _ hb5
        have q0 : cs5[o5]? = some (.int .i64 1) := cl5 0 _ (first_one hI3)
        have q1 := cl5 _ _ (last_at (s := 0) hI3.ne)
        rw [hI3.ls] at q1
        have hl5 := hI3.len
        have hs6 := hI3.st
        have hp5 : 0 < f3.h.length := List.length_pos_iff.2 hI3.ne
        have wl : IntKind.i64.wrap ((f3.h.length : Int) - 1) = ((f3.h.length - 1 : Nat) : Int) := (w_i64 (by omega) (by omega)).trans (by omega)
        have le0 : ((f3.h.length : Int) == 0) = false := by simpa using hI3.ne
        have l1t : (((f3.h.length - 1 : Nat) : Int) < (f3.h.length : Int)) = True := eq_true (by omega)
        have l1n : (((f3.h.length - 1 : Nat) : Int) < 0) = False := eq_false (by omega)
        have l0t : ((0 : Int) < (f3.h.length : Int)) = True := eq_true (by omega)
        have m75 : (n7 = b5) = False := eq_false fun h => by
          have := sp5.1.1 b5 (by rw [hb5]; simp)
          simp only [Vm.look] at this
          rw [if_pos h] at this; cases this
        simp only [cat, List.cons_append, List.nil_append, Vm.look, m75, if_false] at hb6
        simp only [cat, List.cons_append, List.nil_append]
        intro ν fr; have nuE := And.intro (fr.mem (b := n7) (by simp)) (fr.nu)
        simp (maxDischargeDepth := 16) only [argE_nil, argE_cons, ↓vmD, vmV, vmStd, Nat.reduceMul, ↓reduceIte, Nat.reduceAdd, Nat.reduceSub, Nat.reduceEqDiff, Nat.reduceLT, Nat.reduceLeDiff, reduceCtorEq, Int.reduceToNat, Int.reduceLT, Int.reduceLE, Int.reduceEq, Int.reduceNeg, Int.reduceBEq, Int.reduceBNe, String.reduceEq, forall_const, ↓vmDA, vmVA, ↓vmQA, vmR, vmRA, ↓vmSA, vmSV, tyS, nuE, SubA.skip, SubA.refl, fr.2, vbTpl, hb6, m75, q0, q1, wl, le0, l1t, l1n, l0t, bne_self_eq_false]
        clear nuE fr
        obtain ⟨y0, hy0⟩ := hpre
        have hn3 : n ≤ f3.h.length := by rw [hy0]; simp; omega
        have hst3 : st = lasT 0 (f3.h.take n) := by rw [hy0, List.take_append_of_le_length hn]; exact hst
        obtain ⟨c, j, s, B6, hcn, hcj, hss, hB6, hs, hBk6, sp6⟩ : ∃ (c j : Nat) (s : Int) (B6 : AH), c = n ∧ c + j = f3.h.length ∧ s = st ∧ B6 = B2 ∧ s = lasT 0 (f3.h.take c) ∧ BkP B6 bb (netT a s) ∧ Sep [[(n7, (Obj.cells #[.string (bs dT), .string (bs pT), .string (bs fraudT), .string (bs homeT), .string (bs shopT), .int .i64 a, .string (bs eurT), .int .i64 f3.c.st, .int .i64 20, .int .i64 f3.c.du] 43))], B5, E3, B6, [(n9, (Obj.cells #[.int .i64 1, .string (bs pT), .string (bs []), .string (bs shopT), .string (bs homeT), .string (bs mT), .string (bs cardT), .int .i64 1000, .string (bs eurT), .int .i64 10, .int .i64 5411, .bool true] 29))], A] := ⟨n, f3.h.length - n, st, B2, rfl, by omega, rfl, rfl, hst3, hBk, sp5⟩
        rw [← hcn, ← hss]
        rw [show (14, some (Value.int .i64 (c : Int))) = (14, some (Value.int .i64 (n : Int))) by rw [hcn]]
        refine LoopA.at (A := cat [[(n7, (Obj.cells #[.string (bs dT), .string (bs pT), .string (bs fraudT), .string (bs homeT), .string (bs shopT), .int .i64 a, .string (bs eurT), .int .i64 f3.c.st, .int .i64 20, .int .i64 f3.c.du] 43))], B5, E3, B6, [(n9, (Obj.cells #[.int .i64 1, .string (bs pT), .string (bs []), .string (bs shopT), .string (bs homeT), .string (bs mT), .string (bs cardT), .int .i64 1000, .string (bs eurT), .int .i64 10, .int .i64 5411, .bool true] 29))], A]) (by rw [hB6]; exact SubA.refl _) ?_
        clear hcn hss hB6 sp5 hb6
        induction j generalizing c s B6 with
        | zero =>
          have lj : ((c : Int) < (f3.h.length : Int)) = False := eq_false (by omega)
          have hsl : s = f3.c.st := by rw [hs, show c = f3.h.length by omega, List.take_length]; exact hI3.ls
          have n1 := posNet_w B6 bb (netT a s) hBk6 true _ (Sep.subs sp6 [3] rfl)
          have n2 := posNet_w B6 bb (netT a s) hBk6 false _ (Sep.subs sp6 [3] rfl)
          simp only [if_true, Bool.false_eq_true, if_false, cat, List.cons_append, List.nil_append] at n1 n2
          refine LoopA.intro (by kernel_rfl) ?_
          simp only [cat, List.cons_append, List.nil_append]
          intro ν fr; have nuE := And.intro (fr.mem (b := n7) (by simp)) (fr.nu)
          have fin : SubA (cat [E3, B6, [(n9, (Obj.cells #[.int .i64 1, .string (bs pT), .string (bs []), .string (bs shopT), .string (bs homeT), .string (bs mT), .string (bs cardT), .int .i64 1000, .string (bs eurT), .int .i64 10, .int .i64 5411, .bool true] 29))], A]) (cat [[(n7, (Obj.cells #[.string (bs dT), .string (bs pT), .string (bs fraudT), .string (bs homeT), .string (bs shopT), .int .i64 a, .string (bs eurT), .int .i64 f3.c.st, .int .i64 20, .int .i64 f3.c.du] 43))], B5, E3, B6, [(n9, (Obj.cells #[.int .i64 1, .string (bs pT), .string (bs []), .string (bs shopT), .string (bs homeT), .string (bs mT), .string (bs cardT), .int .i64 1000, .string (bs eurT), .int .i64 10, .int .i64 5411, .bool true] 29))], A]) := Sep.subs sp6 [2, 3, 4, 5] rfl
          have hsx : s = lasT 0 (f3.h.take f3.h.length) := by rw [List.take_length, hI3.ls]; exact hsl
          by_cases hh : holdF f3.c.st = 1
          · have hh2 : (holdF f3.c.st == 1) = true := by rw [hh]; rfl
            have hnt : netT a s = a := by unfold netT; rw [hsl, if_pos hh]
            rw [hnt] at n1 n2
            have wn : IntKind.i64.wrap (0 - a) = -a := by rw [w_i64 (by omega) (by omega)]; omega
            simp (maxDischargeDepth := 16) only [argE_nil, argE_cons, ↓vmD, vmV, vmStd, Nat.reduceMul, ↓reduceIte, Nat.reduceAdd, Nat.reduceSub, Nat.reduceEqDiff, Nat.reduceLT, Nat.reduceLeDiff, reduceCtorEq, Int.reduceToNat, Int.reduceLT, Int.reduceLE, Int.reduceEq, Int.reduceNeg, Int.reduceBEq, Int.reduceBNe, String.reduceEq, forall_const, ↓vmDA, vmVA, ↓vmQA, vmR, vmRA, ↓vmSA, vmSV, tyS, nuE, SubA.skip, SubA.refl, fr.2, vbTpl, lj, n1, n2, hh, hh2, b_h, b_s, b_e, wn, we, bne_self_eq_false]
            refine LoopA.at (A := cat [E3, B6, [(n9, (Obj.cells #[.int .i64 1, .string (bs pT), .string (bs []), .string (bs shopT), .string (bs homeT), .string (bs mT), .string (bs cardT), .int .i64 1000, .string (bs eurT), .int .i64 10, .int .i64 5411, .bool true] 29))], A]) fin ?_
            exact LoopA.weak (ih (e + 1) dt s f3.h.length f3 E3 fv3 F3 B6 (by omega) hdt3 hI3 g2 g1 (Sep.pick sp6 [2, 3, 4, 5] rfl rfl) hBk6 (Nat.le_refl _) hsx hend3) (by simp only [subE, get_cons, Nat.reduceEqDiff, ↓reduceIte, reduceCtorEq, Nat.reduceAdd, and_self, and_true]) (SubA.refl _)
          · have hh2 : (holdF f3.c.st == 1) = false := by simpa using hh
            have hnt : netT a s = 0 := by unfold netT; rw [hsl, if_neg hh]
            rw [hnt] at n1 n2
            have wn : IntKind.i64.wrap (0 - 0) = 0 := by decide
            have wn2 : (-0 : Int) = 0 := by decide
            rw [wn2] at n2
            simp (maxDischargeDepth := 16) only [argE_nil, argE_cons, ↓vmD, vmV, vmStd, Nat.reduceMul, ↓reduceIte, Nat.reduceAdd, Nat.reduceSub, Nat.reduceEqDiff, Nat.reduceLT, Nat.reduceLeDiff, reduceCtorEq, Int.reduceToNat, Int.reduceLT, Int.reduceLE, Int.reduceEq, Int.reduceNeg, Int.reduceBEq, Int.reduceBNe, String.reduceEq, forall_const, ↓vmDA, vmVA, ↓vmQA, vmR, vmRA, ↓vmSA, vmSV, tyS, nuE, SubA.skip, SubA.refl, fr.2, vbTpl, lj, n1, n2, eq_false hh, hh2, b_h, b_s, b_e, wn, we, bne_self_eq_false]
            refine LoopA.at (A := cat [E3, B6, [(n9, (Obj.cells #[.int .i64 1, .string (bs pT), .string (bs []), .string (bs shopT), .string (bs homeT), .string (bs mT), .string (bs cardT), .int .i64 1000, .string (bs eurT), .int .i64 10, .int .i64 5411, .bool true] 29))], A]) fin ?_
            exact LoopA.weak (ih (e + 1) dt s f3.h.length f3 E3 fv3 F3 B6 (by omega) hdt3 hI3 g2 g1 (Sep.pick sp6 [2, 3, 4, 5] rfl rfl) hBk6 (Nat.le_refl _) hsx hend3) (by simp only [subE, get_cons, Nat.reduceEqDiff, ↓reduceIte, reduceCtorEq, Nat.reduceAdd, and_self, and_true]) (SubA.refl _)
        | succ j jh =>
          have lj : ((c : Int) < (f3.h.length : Int)) = True := eq_true (by omega)
          have lcn : ((c : Int) < 0) = False := eq_false (by omega)
          obtain ⟨t, ht⟩ : ∃ t, f3.h[c]? = some t := ⟨_, List.getElem?_eq_getElem (by omega)⟩
          have qc := cl5 c t ht
          obtain ⟨u1, u2⟩ := chT_at hI3.ch ht
          rw [← hs] at u1
          have srng : 0 ≤ s ∧ s ≤ 6 := by rw [hs]; exact lasT_rng c hI3.ch (by decide)
          have wc : IntKind.i64.wrap ((c : Int) + 1) = ((c + 1 : Nat) : Int) := by rw [w_i64 (by omega) (by omega)]; omega
          have hmv := topMove (a := a) (s := s) (t := t) (d := dt) (st := f3.c.st) (du := f3.c.du) (n := c + 1) ha srng u2 u1 (by omega) (by omega)
          have hb7 := (Sep.subs sp6 [1] rfl : SubA B5 (cat [[(n7, (Obj.cells #[.string (bs dT), .string (bs pT), .string (bs fraudT), .string (bs homeT), .string (bs shopT), .int .i64 a, .string (bs eurT), .int .i64 f3.c.st, .int .i64 20, .int .i64 f3.c.du] 43))], B5, E3, B6, [(n9, (Obj.cells #[.int .i64 1, .string (bs pT), .string (bs []), .string (bs shopT), .string (bs homeT), .string (bs mT), .string (bs cardT), .int .i64 1000, .string (bs eurT), .int .i64 10, .int .i64 5411, .bool true] 29))], A])) _ _ hb5
          have hr7 := (Sep.subs sp6 [4] rfl : SubA [(n9, (Obj.cells #[.int .i64 1, .string (bs pT), .string (bs []), .string (bs shopT), .string (bs homeT), .string (bs mT), .string (bs cardT), .int .i64 1000, .string (bs eurT), .int .i64 10, .int .i64 5411, .bool true] 29))] (cat [[(n7, (Obj.cells #[.string (bs dT), .string (bs pT), .string (bs fraudT), .string (bs homeT), .string (bs shopT), .int .i64 a, .string (bs eurT), .int .i64 f3.c.st, .int .i64 20, .int .i64 f3.c.du] 43))], B5, E3, B6, [(n9, (Obj.cells #[.int .i64 1, .string (bs pT), .string (bs []), .string (bs shopT), .string (bs homeT), .string (bs mT), .string (bs cardT), .int .i64 1000, .string (bs eurT), .int .i64 10, .int .i64 5411, .bool true] 29))], A])) n9 (Obj.cells #[.int .i64 1, .string (bs pT), .string (bs []), .string (bs shopT), .string (bs homeT), .string (bs mT), .string (bs cardT), .int .i64 1000, .string (bs eurT), .int .i64 10, .int .i64 5411, .bool true] 29) (look_one n9 _)
          have m79 : (n7 = n9) = False := eq_false fun h => by
            have := (Sep.dis sp6) n9 (by rw [show Vm.look (cat [B5, E3, B6, [(n9, (Obj.cells #[.int .i64 1, .string (bs pT), .string (bs []), .string (bs shopT), .string (bs homeT), .string (bs mT), .string (bs cardT), .int .i64 1000, .string (bs eurT), .int .i64 10, .int .i64 5411, .bool true] 29))], A]) n9 = some (Obj.cells #[.int .i64 1, .string (bs pT), .string (bs []), .string (bs shopT), .string (bs homeT), .string (bs mT), .string (bs cardT), .int .i64 1000, .string (bs eurT), .int .i64 10, .int .i64 5411, .bool true] 29) from (Sep.subs sp6.2 [3] rfl : SubA [(n9, (Obj.cells #[.int .i64 1, .string (bs pT), .string (bs []), .string (bs shopT), .string (bs homeT), .string (bs mT), .string (bs cardT), .int .i64 1000, .string (bs eurT), .int .i64 10, .int .i64 5411, .bool true] 29))] _) n9 (Obj.cells #[.int .i64 1, .string (bs pT), .string (bs []), .string (bs shopT), .string (bs homeT), .string (bs mT), .string (bs cardT), .int .i64 1000, .string (bs eurT), .int .i64 10, .int .i64 5411, .bool true] 29) (look_one n9 _)]; simp)
            simp only [Vm.look] at this
            rw [if_pos h] at this; cases this
          have hb7' := hb7
          have hr7' := hr7
          simp only [cat, List.cons_append, List.nil_append, Vm.look, m75, m79, if_false] at hb7 hr7
          have mv := panMove_w A hT (csOf (caTop a f3.c.st f3.c.du)) rcTop s t dt ((c + 1 : Nat) : Int) (csTop_sz _ _ _) rcTop_sz _ (Sep.subs sp6 [5] rfl : SubA A (cat [[(n7, (Obj.cells #[.string (bs dT), .string (bs pT), .string (bs fraudT), .string (bs homeT), .string (bs shopT), .int .i64 a, .string (bs eurT), .int .i64 f3.c.st, .int .i64 20, .int .i64 f3.c.du] 43))], B5, E3, B6, [(n9, (Obj.cells #[.int .i64 1, .string (bs pT), .string (bs []), .string (bs shopT), .string (bs homeT), .string (bs mT), .string (bs cardT), .int .i64 1000, .string (bs eurT), .int .i64 10, .int .i64 5411, .bool true] 29))], A]))
          have hs2 : t = lasT 0 (f3.h.take (c + 1)) := (lasT_take ht).symm
          refine LoopA.intro (by kernel_rfl) ?_
          simp only [cat, List.cons_append, List.nil_append]
          by_cases hhd : holdF s = holdF t
          · rw [movV_no (c := csOf (caTop a f3.c.st f3.c.du)) (r := rcTop) hmv hhd] at mv
            simp only [csOf, caTop, rcTop, cat, List.cons_append, List.nil_append] at mv
            have hnet : netT a t = netT a s := by unfold netT; rw [hhd]
            intro ν fr; have nuE := And.intro (fr.mem (b := n7) (by simp)) (fr.nu)
            have z0 : Vm.look (cat [[(n7, (Obj.cells #[.string (bs dT), .string (bs pT), .string (bs fraudT), .string (bs homeT), .string (bs shopT), .int .i64 a, .string (bs eurT), .int .i64 f3.c.st, .int .i64 20, .int .i64 f3.c.du] 43))], B5, E3, B6, [(n9, (Obj.cells #[.int .i64 1, .string (bs pT), .string (bs []), .string (bs shopT), .string (bs homeT), .string (bs mT), .string (bs cardT), .int .i64 1000, .string (bs eurT), .int .i64 10, .int .i64 5411, .bool true] 29))], A]) (ν 0) = none := fr.2 0
            have z5 := (look_ne z0 hb7').1
            have z9 := (look_ne z0 hr7').1
            simp (maxDischargeDepth := 16) only [argE_nil, argE_cons, ↓vmD, vmV, vmStd, Nat.reduceMul, ↓reduceIte, Nat.reduceAdd, Nat.reduceSub, Nat.reduceEqDiff, Nat.reduceLT, Nat.reduceLeDiff, reduceCtorEq, Int.reduceToNat, Int.reduceLT, Int.reduceLE, Int.reduceEq, Int.reduceNeg, Int.reduceBEq, Int.reduceBNe, String.reduceEq, forall_const, ↓vmDA, vmVA, ↓vmQA, vmR, vmRA, ↓vmSA, vmSV, tyS, nuE, SubA.skip, SubA.refl, fr.2, vbTpl, lj, lcn, hb7, hr7, m75, m79, z5, z9, qc, wc, mv]
            refine LoopA.at (A := cat [[(n7, (Obj.cells #[.string (bs dT), .string (bs pT), .string (bs fraudT), .string (bs homeT), .string (bs shopT), .int .i64 a, .string (bs eurT), .int .i64 f3.c.st, .int .i64 20, .int .i64 f3.c.du] 43))], B5, E3, B6, [(n9, (Obj.cells #[.int .i64 1, .string (bs pT), .string (bs []), .string (bs shopT), .string (bs homeT), .string (bs mT), .string (bs cardT), .int .i64 1000, .string (bs eurT), .int .i64 10, .int .i64 5411, .bool true] 29))], A]) (SubA.fresh z0 (SubA.refl _)) ?_
            exact LoopA.weak (jh (c + 1) t B6 (by omega) hs2 (by rw [hnet]; exact hBk6) sp6) (by simp only [subE, get_cons, Nat.reduceEqDiff, ↓reduceIte, reduceCtorEq, Nat.reduceAdd, and_self, and_true]) (SubA.refl _)
          · rw [movV_yes (c := csOf (caTop a f3.c.st f3.c.du)) (r := rcTop) hmv hhd] at mv
            simp only [movR, Rc.cells, csOf, caTop, rcTop, Int.toNat_natCast, cat, List.cons_append, List.nil_append] at mv
            intro ν fr; have nuE := And.intro (fr.mem (b := n7) (by simp)) (fr.nu)
            have z0 : Vm.look (cat [[(n7, (Obj.cells #[.string (bs dT), .string (bs pT), .string (bs fraudT), .string (bs homeT), .string (bs shopT), .int .i64 a, .string (bs eurT), .int .i64 f3.c.st, .int .i64 20, .int .i64 f3.c.du] 43))], B5, E3, B6, [(n9, (Obj.cells #[.int .i64 1, .string (bs pT), .string (bs []), .string (bs shopT), .string (bs homeT), .string (bs mT), .string (bs cardT), .int .i64 1000, .string (bs eurT), .int .i64 10, .int .i64 5411, .bool true] 29))], A]) (ν 0) = none := fr.2 0
            have z5 := (look_ne z0 hb7').1
            have z9 := (look_ne z0 hr7').1
            rcases hold12 (show 0 ≤ t ∧ t ≤ 6 by omega) with h1 | h2
            · have hs1 : holdF s = 2 := by rcases hold12 srng with h | h <;> omega
              have hnt : netT a s = 0 := by unfold netT; rw [if_neg (by omega)]
              have hnt2 : netT a t = 0 + a := by unfold netT; rw [if_pos h1]; omega
              rw [hnt] at hBk6
              have h12 : ((1 : Int) = 2) = False := by decide
              rw [h1] at mv
              simp (maxDischargeDepth := 16) only [argE_nil, argE_cons, ↓vmD, vmV, vmStd, Nat.reduceMul, ↓reduceIte, Nat.reduceAdd, Nat.reduceSub, Nat.reduceEqDiff, Nat.reduceLT, Nat.reduceLeDiff, reduceCtorEq, Int.reduceToNat, Int.reduceLT, Int.reduceLE, Int.reduceEq, Int.reduceNeg, Int.reduceBEq, Int.reduceBNe, String.reduceEq, forall_const, ↓vmDA, vmVA, ↓vmQA, vmR, vmRA, ↓vmSA, vmSV, tyS, nuE, SubA.skip, SubA.refl, fr.2, vbTpl, lj, lcn, hb7, hr7, m75, m79, z5, z9, qc, wc, mv, h12]
              refine CallA.st (posUp_h B6 bb 0 a hBk6 (by omega) (by omega)) (SubA.trans (Sep.subs sp6 [3] rfl) (SubA.fresh z0 (SubA.refl _))) (X := cat [[(n7, (Obj.cells #[.string (bs dT), .string (bs pT), .string (bs fraudT), .string (bs homeT), .string (bs shopT), .int .i64 a, .string (bs eurT), .int .i64 f3.c.st, .int .i64 20, .int .i64 f3.c.du] 43))], B5, E3, [(n9, (Obj.cells #[.int .i64 1, .string (bs pT), .string (bs []), .string (bs shopT), .string (bs homeT), .string (bs mT), .string (bs cardT), .int .i64 1000, .string (bs eurT), .int .i64 10, .int .i64 5411, .bool true] 29))], A]) (SubA.trans (Sep.subs sp6 [0, 1, 2, 4, 5] rfl) (SubA.fresh z0 (SubA.refl _))) (Sep.dis (Sep.pick sp6 [3, 0, 1, 2, 4, 5] rfl rfl)) ?_
              rintro v7 B7 ⟨rfl, hB7⟩ hd7
              have sp7 : Sep [B7, [(n7, (Obj.cells #[.string (bs dT), .string (bs pT), .string (bs fraudT), .string (bs homeT), .string (bs shopT), .int .i64 a, .string (bs eurT), .int .i64 f3.c.st, .int .i64 20, .int .i64 f3.c.du] 43))], B5, E3, [(n9, (Obj.cells #[.int .i64 1, .string (bs pT), .string (bs []), .string (bs shopT), .string (bs homeT), .string (bs mT), .string (bs cardT), .int .i64 1000, .string (bs eurT), .int .i64 10, .int .i64 5411, .bool true] 29))], A] := Sep.cons hd7 (Sep.pick sp6 [0, 1, 2, 4, 5] rfl rfl)
              have hb8 := (Sep.subs sp7 [2] rfl : SubA B5 (cat [B7, [(n7, (Obj.cells #[.string (bs dT), .string (bs pT), .string (bs fraudT), .string (bs homeT), .string (bs shopT), .int .i64 a, .string (bs eurT), .int .i64 f3.c.st, .int .i64 20, .int .i64 f3.c.du] 43))], B5, E3, [(n9, (Obj.cells #[.int .i64 1, .string (bs pT), .string (bs []), .string (bs shopT), .string (bs homeT), .string (bs mT), .string (bs cardT), .int .i64 1000, .string (bs eurT), .int .i64 10, .int .i64 5411, .bool true] 29))], A])) _ _ hb5
              simp only [cat, List.cons_append, List.nil_append] at hb8 ⊢
              clear nuE fr z0
              intro ν fr; have nuE := And.intro (fr.mem (b := n7) (by simp)) (fr.nu)
              simp (maxDischargeDepth := 16) only [argE_nil, argE_cons, ↓vmD, vmV, vmStd, Nat.reduceMul, ↓reduceIte, Nat.reduceAdd, Nat.reduceSub, Nat.reduceEqDiff, Nat.reduceLT, Nat.reduceLeDiff, reduceCtorEq, Int.reduceToNat, Int.reduceLT, Int.reduceLE, Int.reduceEq, Int.reduceNeg, Int.reduceBEq, Int.reduceBNe, String.reduceEq, forall_const, ↓vmDA, vmVA, ↓vmQA, vmR, vmRA, ↓vmSA, vmSV, tyS, nuE, SubA.skip, SubA.refl, fr.2, vbTpl, lj, lcn, hb8, qc, wc]
              refine LoopA.at (A := cat [[(n7, (Obj.cells #[.string (bs dT), .string (bs pT), .string (bs fraudT), .string (bs homeT), .string (bs shopT), .int .i64 a, .string (bs eurT), .int .i64 f3.c.st, .int .i64 20, .int .i64 f3.c.du] 43))], B5, E3, B7, [(n9, (Obj.cells #[.int .i64 1, .string (bs pT), .string (bs []), .string (bs shopT), .string (bs homeT), .string (bs mT), .string (bs cardT), .int .i64 1000, .string (bs eurT), .int .i64 10, .int .i64 5411, .bool true] 29))], A]) (Sep.subs sp7 [1, 2, 3, 0, 4, 5] rfl) ?_
              exact LoopA.weak (jh (c + 1) t B7 (by omega) hs2 (by rw [hnt2]; exact hB7) (Sep.pick sp7 [1, 2, 3, 0, 4, 5] rfl rfl)) (by simp only [subE, get_cons, Nat.reduceEqDiff, ↓reduceIte, reduceCtorEq, Nat.reduceAdd, and_self, and_true]) (SubA.refl _)
            · have hs1 : holdF s = 1 := by rcases hold12 srng with h | h <;> omega
              have hnt : netT a s = a := by unfold netT; rw [if_pos hs1]
              have hnt2 : netT a t = a - a := by unfold netT; rw [if_neg (by omega)]; omega
              rw [hnt] at hBk6
              rw [h2] at mv
              simp (maxDischargeDepth := 16) only [argE_nil, argE_cons, ↓vmD, vmV, vmStd, Nat.reduceMul, ↓reduceIte, Nat.reduceAdd, Nat.reduceSub, Nat.reduceEqDiff, Nat.reduceLT, Nat.reduceLeDiff, reduceCtorEq, Int.reduceToNat, Int.reduceLT, Int.reduceLE, Int.reduceEq, Int.reduceNeg, Int.reduceBEq, Int.reduceBNe, String.reduceEq, forall_const, ↓vmDA, vmVA, ↓vmQA, vmR, vmRA, ↓vmSA, vmSV, tyS, nuE, SubA.skip, SubA.refl, fr.2, vbTpl, lj, lcn, hb7, hr7, m75, m79, z5, z9, qc, wc, mv]
              refine CallA.st (posDn_h B6 bb a a hBk6 (by omega) (by omega)) (SubA.trans (Sep.subs sp6 [3] rfl) (SubA.fresh z0 (SubA.refl _))) (X := cat [[(n7, (Obj.cells #[.string (bs dT), .string (bs pT), .string (bs fraudT), .string (bs homeT), .string (bs shopT), .int .i64 a, .string (bs eurT), .int .i64 f3.c.st, .int .i64 20, .int .i64 f3.c.du] 43))], B5, E3, [(n9, (Obj.cells #[.int .i64 1, .string (bs pT), .string (bs []), .string (bs shopT), .string (bs homeT), .string (bs mT), .string (bs cardT), .int .i64 1000, .string (bs eurT), .int .i64 10, .int .i64 5411, .bool true] 29))], A]) (SubA.trans (Sep.subs sp6 [0, 1, 2, 4, 5] rfl) (SubA.fresh z0 (SubA.refl _))) (Sep.dis (Sep.pick sp6 [3, 0, 1, 2, 4, 5] rfl rfl)) ?_
              rintro v7 B7 ⟨rfl, hB7⟩ hd7
              have sp7 : Sep [B7, [(n7, (Obj.cells #[.string (bs dT), .string (bs pT), .string (bs fraudT), .string (bs homeT), .string (bs shopT), .int .i64 a, .string (bs eurT), .int .i64 f3.c.st, .int .i64 20, .int .i64 f3.c.du] 43))], B5, E3, [(n9, (Obj.cells #[.int .i64 1, .string (bs pT), .string (bs []), .string (bs shopT), .string (bs homeT), .string (bs mT), .string (bs cardT), .int .i64 1000, .string (bs eurT), .int .i64 10, .int .i64 5411, .bool true] 29))], A] := Sep.cons hd7 (Sep.pick sp6 [0, 1, 2, 4, 5] rfl rfl)
              have hb8 := (Sep.subs sp7 [2] rfl : SubA B5 (cat [B7, [(n7, (Obj.cells #[.string (bs dT), .string (bs pT), .string (bs fraudT), .string (bs homeT), .string (bs shopT), .int .i64 a, .string (bs eurT), .int .i64 f3.c.st, .int .i64 20, .int .i64 f3.c.du] 43))], B5, E3, [(n9, (Obj.cells #[.int .i64 1, .string (bs pT), .string (bs []), .string (bs shopT), .string (bs homeT), .string (bs mT), .string (bs cardT), .int .i64 1000, .string (bs eurT), .int .i64 10, .int .i64 5411, .bool true] 29))], A])) _ _ hb5
              simp only [cat, List.cons_append, List.nil_append] at hb8 ⊢
              clear nuE fr z0
              intro ν fr; have nuE := And.intro (fr.mem (b := n7) (by simp)) (fr.nu)
              simp (maxDischargeDepth := 16) only [argE_nil, argE_cons, ↓vmD, vmV, vmStd, Nat.reduceMul, ↓reduceIte, Nat.reduceAdd, Nat.reduceSub, Nat.reduceEqDiff, Nat.reduceLT, Nat.reduceLeDiff, reduceCtorEq, Int.reduceToNat, Int.reduceLT, Int.reduceLE, Int.reduceEq, Int.reduceNeg, Int.reduceBEq, Int.reduceBNe, String.reduceEq, forall_const, ↓vmDA, vmVA, ↓vmQA, vmR, vmRA, ↓vmSA, vmSV, tyS, nuE, SubA.skip, SubA.refl, fr.2, vbTpl, lj, lcn, hb8, qc, wc]
              refine LoopA.at (A := cat [[(n7, (Obj.cells #[.string (bs dT), .string (bs pT), .string (bs fraudT), .string (bs homeT), .string (bs shopT), .int .i64 a, .string (bs eurT), .int .i64 f3.c.st, .int .i64 20, .int .i64 f3.c.du] 43))], B5, E3, B7, [(n9, (Obj.cells #[.int .i64 1, .string (bs pT), .string (bs []), .string (bs shopT), .string (bs homeT), .string (bs mT), .string (bs cardT), .int .i64 1000, .string (bs eurT), .int .i64 10, .int .i64 5411, .bool true] 29))], A]) (Sep.subs sp7 [1, 2, 3, 0, 4, 5] rfl) ?_
              exact LoopA.weak (jh (c + 1) t B7 (by omega) hs2 (by rw [hnt2]; exact hB7) (Sep.pick sp7 [1, 2, 3, 0, 4, 5] rfl rfl)) (by simp only [subE, get_cons, Nat.reduceEqDiff, ↓reduceIte, reduceCtorEq, Nat.reduceAdd, and_self, and_true]) (SubA.refl _)
      | false =>
        rw [if_neg (by simp)] at hee
        subst hee
        simp (maxDischargeDepth := 16) only [argE_nil, argE_cons, ↓vmD, vmV, vmStd, Nat.reduceMul, ↓reduceIte, Nat.reduceAdd, Nat.reduceSub, Nat.reduceEqDiff, Nat.reduceLT, Nat.reduceLeDiff, reduceCtorEq, Int.reduceToNat, Int.reduceLT, Int.reduceLE, Int.reduceEq, Int.reduceNeg, Int.reduceBEq, Int.reduceBNe, String.reduceEq, forall_const, ↓vmDA, vmVA, ↓vmQA, vmR, vmRA, ↓vmSA, vmSV, tyS, nuE, SubA.skip, SubA.refl, fr.2, vbTpl]
        clear nuE fr
        refine open_use hstep (SubA.refl _) ?_
        intro E3 fv3 F3 g1 g2 g3
        rw [hR, k2] at g2 ⊢
        rw [z1] at g2
        have sp3 : Sep [E3, B2, [(n9, (Obj.cells #[.int .i64 1, .string (bs pT), .string (bs []), .string (bs shopT), .string (bs homeT), .string (bs mT), .string (bs cardT), .int .i64 1000, .string (bs eurT), .int .i64 10, .int .i64 5411, .bool true] 29))], A] := Sep.cons g3 spX
        have hc3 := hI3.c
        have gv := getDk_w E3 db fv3 R F3 g1 dT _ (Sep.subs sp3 [0] rfl)
        rw [g2, getX_top hI3] at gv
        rw [Option.getD_some, hc3] at gv
        simp only [Option.isSome_some, caAgg, caTop, cat, List.cons_append, List.nil_append] at gv ⊢
        intro ν fr; have nuE := fr.nu
        have w0 : Vm.look (cat [E3, B2, [(n9, (Obj.cells #[.int .i64 1, .string (bs pT), .string (bs []), .string (bs shopT), .string (bs homeT), .string (bs mT), .string (bs cardT), .int .i64 1000, .string (bs eurT), .int .i64 10, .int .i64 5411, .bool true] 29))], A]) (ν 0) = none := fr.2 0
        simp (maxDischargeDepth := 16) only [argE_nil, argE_cons, ↓vmD, vmV, vmStd, Nat.reduceMul, ↓reduceIte, Nat.reduceAdd, Nat.reduceSub, Nat.reduceEqDiff, Nat.reduceLT, Nat.reduceLeDiff, reduceCtorEq, Int.reduceToNat, Int.reduceLT, Int.reduceLE, Int.reduceEq, Int.reduceNeg, Int.reduceBEq, Int.reduceBNe, String.reduceEq, forall_const, ↓vmDA, vmVA, ↓vmQA, vmR, vmRA, ↓vmSA, vmSV, tyS, nuE, SubA.skip, SubA.refl, fr.2, vbTpl, gv, b_d]
        have dst_ : True := (by simp [nuE]); generalize ν 0 = n7 at dst_  w0 ⊢
        clear nuE fr gv dst_
        have sp4 : Sep [[(n7, (Obj.cells #[.string (bs dT), .string (bs pT), .string (bs fraudT), .string (bs homeT), .string (bs shopT), .int .i64 a, .string (bs eurT), .int .i64 f3.c.st, .int .i64 20, .int .i64 f3.c.du] 43))], E3, B2, [(n9, (Obj.cells #[.int .i64 1, .string (bs pT), .string (bs []), .string (bs shopT), .string (bs homeT), .string (bs mT), .string (bs cardT), .int .i64 1000, .string (bs eurT), .int .i64 10, .int .i64 5411, .bool true] 29))], A] := Sep.fresh w0 _ sp3
        refine CallA.newX (histD_h E3 db fv3 R F3 g1 (hist_len hI3 g2) dT) (Sep.subs sp4 [1] rfl) ?_
        rintro v5 B5 ho5 hd5
        rw [g2, histX_top hI3] at ho5
        have sp4' : Sep [B5, [(n7, (Obj.cells #[.string (bs dT), .string (bs pT), .string (bs fraudT), .string (bs homeT), .string (bs shopT), .int .i64 a, .string (bs eurT), .int .i64 f3.c.st, .int .i64 20, .int .i64 f3.c.du] 43))], E3, B2, [(n9, (Obj.cells #[.int .i64 1, .string (bs pT), .string (bs []), .string (bs shopT), .string (bs homeT), .string (bs mT), .string (bs cardT), .int .i64 1000, .string (bs eurT), .int .i64 10, .int .i64 5411, .bool true] 29))], A] := Sep.cons (show Dis B5 (cat [[(n7, (Obj.cells #[.string (bs dT), .string (bs pT), .string (bs fraudT), .string (bs homeT), .string (bs shopT), .int .i64 a, .string (bs eurT), .int .i64 f3.c.st, .int .i64 20, .int .i64 f3.c.du] 43))], E3, B2, [(n9, (Obj.cells #[.int .i64 1, .string (bs pT), .string (bs []), .string (bs shopT), .string (bs homeT), .string (bs mT), .string (bs cardT), .int .i64 1000, .string (bs eurT), .int .i64 10, .int .i64 5411, .bool true] 29))], A]) from hd5) sp4
        have sp5 : Sep [[(n7, (Obj.cells #[.string (bs dT), .string (bs pT), .string (bs fraudT), .string (bs homeT), .string (bs shopT), .int .i64 a, .string (bs eurT), .int .i64 f3.c.st, .int .i64 20, .int .i64 f3.c.du] 43))], B5, E3, B2, [(n9, (Obj.cells #[.int .i64 1, .string (bs pT), .string (bs []), .string (bs shopT), .string (bs homeT), .string (bs mT), .string (bs cardT), .int .i64 1000, .string (bs eurT), .int .i64 10, .int .i64 5411, .bool true] 29))], A] := Sep.pick sp4' [1, 0, 2, 3, 4, 5] rfl rfl
        refine ⟨cat [[(n7, (Obj.cells #[.string (bs dT), .string (bs pT), .string (bs fraudT), .string (bs homeT), .string (bs shopT), .int .i64 a, .string (bs eurT), .int .i64 f3.c.st, .int .i64 20, .int .i64 f3.c.du] 43))], B5, E3, B2, [(n9, (Obj.cells #[.int .i64 1, .string (bs pT), .string (bs []), .string (bs shopT), .string (bs homeT), .string (bs mT), .string (bs cardT), .int .i64 1000, .string (bs eurT), .int .i64 10, .int .i64 5411, .bool true] 29))], A], Sep.subs sp4' [1, 0, 2, 3, 4, 5] rfl, ?_⟩
        obtain ⟨p5, c5, rfl, hc5, hs5⟩ := ho5.read intC_len
        obtain ⟨b5, o5, cs5, ty5, fr5, rfl, hb5, cl5⟩ := cellsI hs5 hI3.ne
        have hb6 := (Sep.subs sp5 [1] rfl : SubA B5 (cat [[(n7, (Obj.cells #[.string (bs dT), .string (bs pT), .string (bs fraudT), .string (bs homeT), .string (bs shopT), .int .i64 a, .string (bs eurT), .int .i64 f3.c.st, .int .i64 20, .int .i64 f3.c.du] 43))], B5, E3, B2, [(n9, (Obj.cells #[.int .i64 1, .string (bs pT), .string (bs []), .string (bs shopT), .string (bs homeT), .string (bs mT), .string (bs cardT), .int .i64 1000, .string (bs eurT), .int .i64 10, .int .i64 5411, .bool true] 29))], A])) _ _ hb5
        have q0 : cs5[o5]? = some (.int .i64 1) := cl5 0 _ (first_one hI3)
        have q1 := cl5 _ _ (last_at (s := 0) hI3.ne)
        rw [hI3.ls] at q1
        have hl5 := hI3.len
        have hs6 := hI3.st
        have hp5 : 0 < f3.h.length := List.length_pos_iff.2 hI3.ne
        have wl : IntKind.i64.wrap ((f3.h.length : Int) - 1) = ((f3.h.length - 1 : Nat) : Int) := (w_i64 (by omega) (by omega)).trans (by omega)
        have le0 : ((f3.h.length : Int) == 0) = false := by simpa using hI3.ne
        have l1t : (((f3.h.length - 1 : Nat) : Int) < (f3.h.length : Int)) = True := eq_true (by omega)
        have l1n : (((f3.h.length - 1 : Nat) : Int) < 0) = False := eq_false (by omega)
        have l0t : ((0 : Int) < (f3.h.length : Int)) = True := eq_true (by omega)
        have m75 : (n7 = b5) = False := eq_false fun h => by
          have := sp5.1.1 b5 (by rw [hb5]; simp)
          simp only [Vm.look] at this
          rw [if_pos h] at this; cases this
        simp only [cat, List.cons_append, List.nil_append, Vm.look, m75, if_false] at hb6
        simp only [cat, List.cons_append, List.nil_append]
        intro ν fr; have nuE := And.intro (fr.mem (b := n7) (by simp)) (fr.nu)
        simp (maxDischargeDepth := 16) only [argE_nil, argE_cons, ↓vmD, vmV, vmStd, Nat.reduceMul, ↓reduceIte, Nat.reduceAdd, Nat.reduceSub, Nat.reduceEqDiff, Nat.reduceLT, Nat.reduceLeDiff, reduceCtorEq, Int.reduceToNat, Int.reduceLT, Int.reduceLE, Int.reduceEq, Int.reduceNeg, Int.reduceBEq, Int.reduceBNe, String.reduceEq, forall_const, ↓vmDA, vmVA, ↓vmQA, vmR, vmRA, ↓vmSA, vmSV, tyS, nuE, SubA.skip, SubA.refl, fr.2, vbTpl, hb6, m75, q0, q1, wl, le0, l1t, l1n, l0t, bne_self_eq_false]
        clear nuE fr
        obtain ⟨y0, hy0⟩ := hpre
        have hn3 : n ≤ f3.h.length := by rw [hy0]; simp; omega
        have hst3 : st = lasT 0 (f3.h.take n) := by rw [hy0, List.take_append_of_le_length hn]; exact hst
        obtain ⟨c, j, s, B6, hcn, hcj, hss, hB6, hs, hBk6, sp6⟩ : ∃ (c j : Nat) (s : Int) (B6 : AH), c = n ∧ c + j = f3.h.length ∧ s = st ∧ B6 = B2 ∧ s = lasT 0 (f3.h.take c) ∧ BkP B6 bb (netT a s) ∧ Sep [[(n7, (Obj.cells #[.string (bs dT), .string (bs pT), .string (bs fraudT), .string (bs homeT), .string (bs shopT), .int .i64 a, .string (bs eurT), .int .i64 f3.c.st, .int .i64 20, .int .i64 f3.c.du] 43))], B5, E3, B6, [(n9, (Obj.cells #[.int .i64 1, .string (bs pT), .string (bs []), .string (bs shopT), .string (bs homeT), .string (bs mT), .string (bs cardT), .int .i64 1000, .string (bs eurT), .int .i64 10, .int .i64 5411, .bool true] 29))], A] := ⟨n, f3.h.length - n, st, B2, rfl, by omega, rfl, rfl, hst3, hBk, sp5⟩
        rw [← hcn, ← hss]
        rw [show (14, some (Value.int .i64 (c : Int))) = (14, some (Value.int .i64 (n : Int))) by rw [hcn]]
        refine LoopA.at (A := cat [[(n7, (Obj.cells #[.string (bs dT), .string (bs pT), .string (bs fraudT), .string (bs homeT), .string (bs shopT), .int .i64 a, .string (bs eurT), .int .i64 f3.c.st, .int .i64 20, .int .i64 f3.c.du] 43))], B5, E3, B6, [(n9, (Obj.cells #[.int .i64 1, .string (bs pT), .string (bs []), .string (bs shopT), .string (bs homeT), .string (bs mT), .string (bs cardT), .int .i64 1000, .string (bs eurT), .int .i64 10, .int .i64 5411, .bool true] 29))], A]) (by rw [hB6]; exact SubA.refl _) ?_
        clear hcn hss hB6 sp5 hb6
        induction j generalizing c s B6 with
        | zero =>
          have lj : ((c : Int) < (f3.h.length : Int)) = False := eq_false (by omega)
          have hsl : s = f3.c.st := by rw [hs, show c = f3.h.length by omega, List.take_length]; exact hI3.ls
          have n1 := posNet_w B6 bb (netT a s) hBk6 true _ (Sep.subs sp6 [3] rfl)
          have n2 := posNet_w B6 bb (netT a s) hBk6 false _ (Sep.subs sp6 [3] rfl)
          simp only [if_true, Bool.false_eq_true, if_false, cat, List.cons_append, List.nil_append] at n1 n2
          refine LoopA.intro (by kernel_rfl) ?_
          simp only [cat, List.cons_append, List.nil_append]
          intro ν fr; have nuE := And.intro (fr.mem (b := n7) (by simp)) (fr.nu)
          have fin : SubA (cat [E3, B6, [(n9, (Obj.cells #[.int .i64 1, .string (bs pT), .string (bs []), .string (bs shopT), .string (bs homeT), .string (bs mT), .string (bs cardT), .int .i64 1000, .string (bs eurT), .int .i64 10, .int .i64 5411, .bool true] 29))], A]) (cat [[(n7, (Obj.cells #[.string (bs dT), .string (bs pT), .string (bs fraudT), .string (bs homeT), .string (bs shopT), .int .i64 a, .string (bs eurT), .int .i64 f3.c.st, .int .i64 20, .int .i64 f3.c.du] 43))], B5, E3, B6, [(n9, (Obj.cells #[.int .i64 1, .string (bs pT), .string (bs []), .string (bs shopT), .string (bs homeT), .string (bs mT), .string (bs cardT), .int .i64 1000, .string (bs eurT), .int .i64 10, .int .i64 5411, .bool true] 29))], A]) := Sep.subs sp6 [2, 3, 4, 5] rfl
          have hsx : s = lasT 0 (f3.h.take f3.h.length) := by rw [List.take_length, hI3.ls]; exact hsl
          by_cases hh : holdF f3.c.st = 1
          · have hh2 : (holdF f3.c.st == 1) = true := by rw [hh]; rfl
            have hnt : netT a s = a := by unfold netT; rw [hsl, if_pos hh]
            rw [hnt] at n1 n2
            have wn : IntKind.i64.wrap (0 - a) = -a := by rw [w_i64 (by omega) (by omega)]; omega
            simp (maxDischargeDepth := 16) only [argE_nil, argE_cons, ↓vmD, vmV, vmStd, Nat.reduceMul, ↓reduceIte, Nat.reduceAdd, Nat.reduceSub, Nat.reduceEqDiff, Nat.reduceLT, Nat.reduceLeDiff, reduceCtorEq, Int.reduceToNat, Int.reduceLT, Int.reduceLE, Int.reduceEq, Int.reduceNeg, Int.reduceBEq, Int.reduceBNe, String.reduceEq, forall_const, ↓vmDA, vmVA, ↓vmQA, vmR, vmRA, ↓vmSA, vmSV, tyS, nuE, SubA.skip, SubA.refl, fr.2, vbTpl, lj, n1, n2, hh, hh2, b_h, b_s, b_e, wn, we, bne_self_eq_false]
            refine LoopA.at (A := cat [E3, B6, [(n9, (Obj.cells #[.int .i64 1, .string (bs pT), .string (bs []), .string (bs shopT), .string (bs homeT), .string (bs mT), .string (bs cardT), .int .i64 1000, .string (bs eurT), .int .i64 10, .int .i64 5411, .bool true] 29))], A]) fin ?_
            exact LoopA.weak (ih (e + 1) dt s f3.h.length f3 E3 fv3 F3 B6 (by omega) hdt3 hI3 g2 g1 (Sep.pick sp6 [2, 3, 4, 5] rfl rfl) hBk6 (Nat.le_refl _) hsx hend3) (by simp only [subE, get_cons, Nat.reduceEqDiff, ↓reduceIte, reduceCtorEq, Nat.reduceAdd, and_self, and_true]) (SubA.refl _)
          · have hh2 : (holdF f3.c.st == 1) = false := by simpa using hh
            have hnt : netT a s = 0 := by unfold netT; rw [hsl, if_neg hh]
            rw [hnt] at n1 n2
            have wn : IntKind.i64.wrap (0 - 0) = 0 := by decide
            have wn2 : (-0 : Int) = 0 := by decide
            rw [wn2] at n2
            simp (maxDischargeDepth := 16) only [argE_nil, argE_cons, ↓vmD, vmV, vmStd, Nat.reduceMul, ↓reduceIte, Nat.reduceAdd, Nat.reduceSub, Nat.reduceEqDiff, Nat.reduceLT, Nat.reduceLeDiff, reduceCtorEq, Int.reduceToNat, Int.reduceLT, Int.reduceLE, Int.reduceEq, Int.reduceNeg, Int.reduceBEq, Int.reduceBNe, String.reduceEq, forall_const, ↓vmDA, vmVA, ↓vmQA, vmR, vmRA, ↓vmSA, vmSV, tyS, nuE, SubA.skip, SubA.refl, fr.2, vbTpl, lj, n1, n2, eq_false hh, hh2, b_h, b_s, b_e, wn, we, bne_self_eq_false]
            refine LoopA.at (A := cat [E3, B6, [(n9, (Obj.cells #[.int .i64 1, .string (bs pT), .string (bs []), .string (bs shopT), .string (bs homeT), .string (bs mT), .string (bs cardT), .int .i64 1000, .string (bs eurT), .int .i64 10, .int .i64 5411, .bool true] 29))], A]) fin ?_
            exact LoopA.weak (ih (e + 1) dt s f3.h.length f3 E3 fv3 F3 B6 (by omega) hdt3 hI3 g2 g1 (Sep.pick sp6 [2, 3, 4, 5] rfl rfl) hBk6 (Nat.le_refl _) hsx hend3) (by simp only [subE, get_cons, Nat.reduceEqDiff, ↓reduceIte, reduceCtorEq, Nat.reduceAdd, and_self, and_true]) (SubA.refl _)
        | succ j jh =>
          have lj : ((c : Int) < (f3.h.length : Int)) = True := eq_true (by omega)
          have lcn : ((c : Int) < 0) = False := eq_false (by omega)
          obtain ⟨t, ht⟩ : ∃ t, f3.h[c]? = some t := ⟨_, List.getElem?_eq_getElem (by omega)⟩
          have qc := cl5 c t ht
          obtain ⟨u1, u2⟩ := chT_at hI3.ch ht
          rw [← hs] at u1
          have srng : 0 ≤ s ∧ s ≤ 6 := by rw [hs]; exact lasT_rng c hI3.ch (by decide)
          have wc : IntKind.i64.wrap ((c : Int) + 1) = ((c + 1 : Nat) : Int) := by rw [w_i64 (by omega) (by omega)]; omega
          have hmv := topMove (a := a) (s := s) (t := t) (d := dt) (st := f3.c.st) (du := f3.c.du) (n := c + 1) ha srng u2 u1 (by omega) (by omega)
          have hb7 := (Sep.subs sp6 [1] rfl : SubA B5 (cat [[(n7, (Obj.cells #[.string (bs dT), .string (bs pT), .string (bs fraudT), .string (bs homeT), .string (bs shopT), .int .i64 a, .string (bs eurT), .int .i64 f3.c.st, .int .i64 20, .int .i64 f3.c.du] 43))], B5, E3, B6, [(n9, (Obj.cells #[.int .i64 1, .string (bs pT), .string (bs []), .string (bs shopT), .string (bs homeT), .string (bs mT), .string (bs cardT), .int .i64 1000, .string (bs eurT), .int .i64 10, .int .i64 5411, .bool true] 29))], A])) _ _ hb5
          have hr7 := (Sep.subs sp6 [4] rfl : SubA [(n9, (Obj.cells #[.int .i64 1, .string (bs pT), .string (bs []), .string (bs shopT), .string (bs homeT), .string (bs mT), .string (bs cardT), .int .i64 1000, .string (bs eurT), .int .i64 10, .int .i64 5411, .bool true] 29))] (cat [[(n7, (Obj.cells #[.string (bs dT), .string (bs pT), .string (bs fraudT), .string (bs homeT), .string (bs shopT), .int .i64 a, .string (bs eurT), .int .i64 f3.c.st, .int .i64 20, .int .i64 f3.c.du] 43))], B5, E3, B6, [(n9, (Obj.cells #[.int .i64 1, .string (bs pT), .string (bs []), .string (bs shopT), .string (bs homeT), .string (bs mT), .string (bs cardT), .int .i64 1000, .string (bs eurT), .int .i64 10, .int .i64 5411, .bool true] 29))], A])) n9 (Obj.cells #[.int .i64 1, .string (bs pT), .string (bs []), .string (bs shopT), .string (bs homeT), .string (bs mT), .string (bs cardT), .int .i64 1000, .string (bs eurT), .int .i64 10, .int .i64 5411, .bool true] 29) (look_one n9 _)
          have m79 : (n7 = n9) = False := eq_false fun h => by
            have := (Sep.dis sp6) n9 (by rw [show Vm.look (cat [B5, E3, B6, [(n9, (Obj.cells #[.int .i64 1, .string (bs pT), .string (bs []), .string (bs shopT), .string (bs homeT), .string (bs mT), .string (bs cardT), .int .i64 1000, .string (bs eurT), .int .i64 10, .int .i64 5411, .bool true] 29))], A]) n9 = some (Obj.cells #[.int .i64 1, .string (bs pT), .string (bs []), .string (bs shopT), .string (bs homeT), .string (bs mT), .string (bs cardT), .int .i64 1000, .string (bs eurT), .int .i64 10, .int .i64 5411, .bool true] 29) from (Sep.subs sp6.2 [3] rfl : SubA [(n9, (Obj.cells #[.int .i64 1, .string (bs pT), .string (bs []), .string (bs shopT), .string (bs homeT), .string (bs mT), .string (bs cardT), .int .i64 1000, .string (bs eurT), .int .i64 10, .int .i64 5411, .bool true] 29))] _) n9 (Obj.cells #[.int .i64 1, .string (bs pT), .string (bs []), .string (bs shopT), .string (bs homeT), .string (bs mT), .string (bs cardT), .int .i64 1000, .string (bs eurT), .int .i64 10, .int .i64 5411, .bool true] 29) (look_one n9 _)]; simp)
            simp only [Vm.look] at this
            rw [if_pos h] at this; cases this
          have hb7' := hb7
          have hr7' := hr7
          simp only [cat, List.cons_append, List.nil_append, Vm.look, m75, m79, if_false] at hb7 hr7
          have mv := panMove_w A hT (csOf (caTop a f3.c.st f3.c.du)) rcTop s t dt ((c + 1 : Nat) : Int) (csTop_sz _ _ _) rcTop_sz _ (Sep.subs sp6 [5] rfl : SubA A (cat [[(n7, (Obj.cells #[.string (bs dT), .string (bs pT), .string (bs fraudT), .string (bs homeT), .string (bs shopT), .int .i64 a, .string (bs eurT), .int .i64 f3.c.st, .int .i64 20, .int .i64 f3.c.du] 43))], B5, E3, B6, [(n9, (Obj.cells #[.int .i64 1, .string (bs pT), .string (bs []), .string (bs shopT), .string (bs homeT), .string (bs mT), .string (bs cardT), .int .i64 1000, .string (bs eurT), .int .i64 10, .int .i64 5411, .bool true] 29))], A]))
          have hs2 : t = lasT 0 (f3.h.take (c + 1)) := (lasT_take ht).symm
          refine LoopA.intro (by kernel_rfl) ?_
          simp only [cat, List.cons_append, List.nil_append]
          by_cases hhd : holdF s = holdF t
          · rw [movV_no (c := csOf (caTop a f3.c.st f3.c.du)) (r := rcTop) hmv hhd] at mv
            simp only [csOf, caTop, rcTop, cat, List.cons_append, List.nil_append] at mv
            have hnet : netT a t = netT a s := by unfold netT; rw [hhd]
            intro ν fr; have nuE := And.intro (fr.mem (b := n7) (by simp)) (fr.nu)
            have z0 : Vm.look (cat [[(n7, (Obj.cells #[.string (bs dT), .string (bs pT), .string (bs fraudT), .string (bs homeT), .string (bs shopT), .int .i64 a, .string (bs eurT), .int .i64 f3.c.st, .int .i64 20, .int .i64 f3.c.du] 43))], B5, E3, B6, [(n9, (Obj.cells #[.int .i64 1, .string (bs pT), .string (bs []), .string (bs shopT), .string (bs homeT), .string (bs mT), .string (bs cardT), .int .i64 1000, .string (bs eurT), .int .i64 10, .int .i64 5411, .bool true] 29))], A]) (ν 0) = none := fr.2 0
            have z5 := (look_ne z0 hb7').1
            have z9 := (look_ne z0 hr7').1
            simp (maxDischargeDepth := 16) only [argE_nil, argE_cons, ↓vmD, vmV, vmStd, Nat.reduceMul, ↓reduceIte, Nat.reduceAdd, Nat.reduceSub, Nat.reduceEqDiff, Nat.reduceLT, Nat.reduceLeDiff, reduceCtorEq, Int.reduceToNat, Int.reduceLT, Int.reduceLE, Int.reduceEq, Int.reduceNeg, Int.reduceBEq, Int.reduceBNe, String.reduceEq, forall_const, ↓vmDA, vmVA, ↓vmQA, vmR, vmRA, ↓vmSA, vmSV, tyS, nuE, SubA.skip, SubA.refl, fr.2, vbTpl, lj, lcn, hb7, hr7, m75, m79, z5, z9, qc, wc, mv]
            refine LoopA.at (A := cat [[(n7, (Obj.cells #[.string (bs dT), .string (bs pT), .string (bs fraudT), .string (bs homeT), .string (bs shopT), .int .i64 a, .string (bs eurT), .int .i64 f3.c.st, .int .i64 20, .int .i64 f3.c.du] 43))], B5, E3, B6, [(n9, (Obj.cells #[.int .i64 1, .string (bs pT), .string (bs []), .string (bs shopT), .string (bs homeT), .string (bs mT), .string (bs cardT), .int .i64 1000, .string (bs eurT), .int .i64 10, .int .i64 5411, .bool true] 29))], A]) (SubA.fresh z0 (SubA.refl _)) ?_
            exact LoopA.weak (jh (c + 1) t B6 (by omega) hs2 (by rw [hnet]; exact hBk6) sp6) (by simp only [subE, get_cons, Nat.reduceEqDiff, ↓reduceIte, reduceCtorEq, Nat.reduceAdd, and_self, and_true]) (SubA.refl _)
          · rw [movV_yes (c := csOf (caTop a f3.c.st f3.c.du)) (r := rcTop) hmv hhd] at mv
            simp only [movR, Rc.cells, csOf, caTop, rcTop, Int.toNat_natCast, cat, List.cons_append, List.nil_append] at mv
            intro ν fr; have nuE := And.intro (fr.mem (b := n7) (by simp)) (fr.nu)
            have z0 : Vm.look (cat [[(n7, (Obj.cells #[.string (bs dT), .string (bs pT), .string (bs fraudT), .string (bs homeT), .string (bs shopT), .int .i64 a, .string (bs eurT), .int .i64 f3.c.st, .int .i64 20, .int .i64 f3.c.du] 43))], B5, E3, B6, [(n9, (Obj.cells #[.int .i64 1, .string (bs pT), .string (bs []), .string (bs shopT), .string (bs homeT), .string (bs mT), .string (bs cardT), .int .i64 1000, .string (bs eurT), .int .i64 10, .int .i64 5411, .bool true] 29))], A]) (ν 0) = none := fr.2 0
            have z5 := (look_ne z0 hb7').1
            have z9 := (look_ne z0 hr7').1
            rcases hold12 (show 0 ≤ t ∧ t ≤ 6 by omega) with h1 | h2
            · have hs1 : holdF s = 2 := by rcases hold12 srng with h | h <;> omega
              have hnt : netT a s = 0 := by unfold netT; rw [if_neg (by omega)]
              have hnt2 : netT a t = 0 + a := by unfold netT; rw [if_pos h1]; omega
              rw [hnt] at hBk6
              have h12 : ((1 : Int) = 2) = False := by decide
              rw [h1] at mv
              simp (maxDischargeDepth := 16) only [argE_nil, argE_cons, ↓vmD, vmV, vmStd, Nat.reduceMul, ↓reduceIte, Nat.reduceAdd, Nat.reduceSub, Nat.reduceEqDiff, Nat.reduceLT, Nat.reduceLeDiff, reduceCtorEq, Int.reduceToNat, Int.reduceLT, Int.reduceLE, Int.reduceEq, Int.reduceNeg, Int.reduceBEq, Int.reduceBNe, String.reduceEq, forall_const, ↓vmDA, vmVA, ↓vmQA, vmR, vmRA, ↓vmSA, vmSV, tyS, nuE, SubA.skip, SubA.refl, fr.2, vbTpl, lj, lcn, hb7, hr7, m75, m79, z5, z9, qc, wc, mv, h12]
              refine CallA.st (posUp_h B6 bb 0 a hBk6 (by omega) (by omega)) (SubA.trans (Sep.subs sp6 [3] rfl) (SubA.fresh z0 (SubA.refl _))) (X := cat [[(n7, (Obj.cells #[.string (bs dT), .string (bs pT), .string (bs fraudT), .string (bs homeT), .string (bs shopT), .int .i64 a, .string (bs eurT), .int .i64 f3.c.st, .int .i64 20, .int .i64 f3.c.du] 43))], B5, E3, [(n9, (Obj.cells #[.int .i64 1, .string (bs pT), .string (bs []), .string (bs shopT), .string (bs homeT), .string (bs mT), .string (bs cardT), .int .i64 1000, .string (bs eurT), .int .i64 10, .int .i64 5411, .bool true] 29))], A]) (SubA.trans (Sep.subs sp6 [0, 1, 2, 4, 5] rfl) (SubA.fresh z0 (SubA.refl _))) (Sep.dis (Sep.pick sp6 [3, 0, 1, 2, 4, 5] rfl rfl)) ?_
              rintro v7 B7 ⟨rfl, hB7⟩ hd7
              have sp7 : Sep [B7, [(n7, (Obj.cells #[.string (bs dT), .string (bs pT), .string (bs fraudT), .string (bs homeT), .string (bs shopT), .int .i64 a, .string (bs eurT), .int .i64 f3.c.st, .int .i64 20, .int .i64 f3.c.du] 43))], B5, E3, [(n9, (Obj.cells #[.int .i64 1, .string (bs pT), .string (bs []), .string (bs shopT), .string (bs homeT), .string (bs mT), .string (bs cardT), .int .i64 1000, .string (bs eurT), .int .i64 10, .int .i64 5411, .bool true] 29))], A] := Sep.cons hd7 (Sep.pick sp6 [0, 1, 2, 4, 5] rfl rfl)
              have hb8 := (Sep.subs sp7 [2] rfl : SubA B5 (cat [B7, [(n7, (Obj.cells #[.string (bs dT), .string (bs pT), .string (bs fraudT), .string (bs homeT), .string (bs shopT), .int .i64 a, .string (bs eurT), .int .i64 f3.c.st, .int .i64 20, .int .i64 f3.c.du] 43))], B5, E3, [(n9, (Obj.cells #[.int .i64 1, .string (bs pT), .string (bs []), .string (bs shopT), .string (bs homeT), .string (bs mT), .string (bs cardT), .int .i64 1000, .string (bs eurT), .int .i64 10, .int .i64 5411, .bool true] 29))], A])) _ _ hb5
              simp only [cat, List.cons_append, List.nil_append] at hb8 ⊢
              clear nuE fr z0
              intro ν fr; have nuE := And.intro (fr.mem (b := n7) (by simp)) (fr.nu)
              simp (maxDischargeDepth := 16) only [argE_nil, argE_cons, ↓vmD, vmV, vmStd, Nat.reduceMul, ↓reduceIte, Nat.reduceAdd, Nat.reduceSub, Nat.reduceEqDiff, Nat.reduceLT, Nat.reduceLeDiff, reduceCtorEq, Int.reduceToNat, Int.reduceLT, Int.reduceLE, Int.reduceEq, Int.reduceNeg, Int.reduceBEq, Int.reduceBNe, String.reduceEq, forall_const, ↓vmDA, vmVA, ↓vmQA, vmR, vmRA, ↓vmSA, vmSV, tyS, nuE, SubA.skip, SubA.refl, fr.2, vbTpl, lj, lcn, hb8, qc, wc]
              refine LoopA.at (A := cat [[(n7, (Obj.cells #[.string (bs dT), .string (bs pT), .string (bs fraudT), .string (bs homeT), .string (bs shopT), .int .i64 a, .string (bs eurT), .int .i64 f3.c.st, .int .i64 20, .int .i64 f3.c.du] 43))], B5, E3, B7, [(n9, (Obj.cells #[.int .i64 1, .string (bs pT), .string (bs []), .string (bs shopT), .string (bs homeT), .string (bs mT), .string (bs cardT), .int .i64 1000, .string (bs eurT), .int .i64 10, .int .i64 5411, .bool true] 29))], A]) (Sep.subs sp7 [1, 2, 3, 0, 4, 5] rfl) ?_
              exact LoopA.weak (jh (c + 1) t B7 (by omega) hs2 (by rw [hnt2]; exact hB7) (Sep.pick sp7 [1, 2, 3, 0, 4, 5] rfl rfl)) (by simp only [subE, get_cons, Nat.reduceEqDiff, ↓reduceIte, reduceCtorEq, Nat.reduceAdd, and_self, and_true]) (SubA.refl _)
            · have hs1 : holdF s = 1 := by rcases hold12 srng with h | h <;> omega
              have hnt : netT a s = a := by unfold netT; rw [if_pos hs1]
              have hnt2 : netT a t = a - a := by unfold netT; rw [if_neg (by omega)]; omega
              rw [hnt] at hBk6
              rw [h2] at mv
              simp (maxDischargeDepth := 16) only [argE_nil, argE_cons, ↓vmD, vmV, vmStd, Nat.reduceMul, ↓reduceIte, Nat.reduceAdd, Nat.reduceSub, Nat.reduceEqDiff, Nat.reduceLT, Nat.reduceLeDiff, reduceCtorEq, Int.reduceToNat, Int.reduceLT, Int.reduceLE, Int.reduceEq, Int.reduceNeg, Int.reduceBEq, Int.reduceBNe, String.reduceEq, forall_const, ↓vmDA, vmVA, ↓vmQA, vmR, vmRA, ↓vmSA, vmSV, tyS, nuE, SubA.skip, SubA.refl, fr.2, vbTpl, lj, lcn, hb7, hr7, m75, m79, z5, z9, qc, wc, mv]
              refine CallA.st (posDn_h B6 bb a a hBk6 (by omega) (by omega)) (SubA.trans (Sep.subs sp6 [3] rfl) (SubA.fresh z0 (SubA.refl _))) (X := cat [[(n7, (Obj.cells #[.string (bs dT), .string (bs pT), .string (bs fraudT), .string (bs homeT), .string (bs shopT), .int .i64 a, .string (bs eurT), .int .i64 f3.c.st, .int .i64 20, .int .i64 f3.c.du] 43))], B5, E3, [(n9, (Obj.cells #[.int .i64 1, .string (bs pT), .string (bs []), .string (bs shopT), .string (bs homeT), .string (bs mT), .string (bs cardT), .int .i64 1000, .string (bs eurT), .int .i64 10, .int .i64 5411, .bool true] 29))], A]) (SubA.trans (Sep.subs sp6 [0, 1, 2, 4, 5] rfl) (SubA.fresh z0 (SubA.refl _))) (Sep.dis (Sep.pick sp6 [3, 0, 1, 2, 4, 5] rfl rfl)) ?_
              rintro v7 B7 ⟨rfl, hB7⟩ hd7
              have sp7 : Sep [B7, [(n7, (Obj.cells #[.string (bs dT), .string (bs pT), .string (bs fraudT), .string (bs homeT), .string (bs shopT), .int .i64 a, .string (bs eurT), .int .i64 f3.c.st, .int .i64 20, .int .i64 f3.c.du] 43))], B5, E3, [(n9, (Obj.cells #[.int .i64 1, .string (bs pT), .string (bs []), .string (bs shopT), .string (bs homeT), .string (bs mT), .string (bs cardT), .int .i64 1000, .string (bs eurT), .int .i64 10, .int .i64 5411, .bool true] 29))], A] := Sep.cons hd7 (Sep.pick sp6 [0, 1, 2, 4, 5] rfl rfl)
              have hb8 := (Sep.subs sp7 [2] rfl : SubA B5 (cat [B7, [(n7, (Obj.cells #[.string (bs dT), .string (bs pT), .string (bs fraudT), .string (bs homeT), .string (bs shopT), .int .i64 a, .string (bs eurT), .int .i64 f3.c.st, .int .i64 20, .int .i64 f3.c.du] 43))], B5, E3, [(n9, (Obj.cells #[.int .i64 1, .string (bs pT), .string (bs []), .string (bs shopT), .string (bs homeT), .string (bs mT), .string (bs cardT), .int .i64 1000, .string (bs eurT), .int .i64 10, .int .i64 5411, .bool true] 29))], A])) _ _ hb5
              simp only [cat, List.cons_append, List.nil_append] at hb8 ⊢
              clear nuE fr z0
              intro ν fr; have nuE := And.intro (fr.mem (b := n7) (by simp)) (fr.nu)
              simp (maxDischargeDepth := 16) only [argE_nil, argE_cons, ↓vmD, vmV, vmStd, Nat.reduceMul, ↓reduceIte, Nat.reduceAdd, Nat.reduceSub, Nat.reduceEqDiff, Nat.reduceLT, Nat.reduceLeDiff, reduceCtorEq, Int.reduceToNat, Int.reduceLT, Int.reduceLE, Int.reduceEq, Int.reduceNeg, Int.reduceBEq, Int.reduceBNe, String.reduceEq, forall_const, ↓vmDA, vmVA, ↓vmQA, vmR, vmRA, ↓vmSA, vmSV, tyS, nuE, SubA.skip, SubA.refl, fr.2, vbTpl, lj, lcn, hb8, qc, wc]
              refine LoopA.at (A := cat [[(n7, (Obj.cells #[.string (bs dT), .string (bs pT), .string (bs fraudT), .string (bs homeT), .string (bs shopT), .int .i64 a, .string (bs eurT), .int .i64 f3.c.st, .int .i64 20, .int .i64 f3.c.du] 43))], B5, E3, B7, [(n9, (Obj.cells #[.int .i64 1, .string (bs pT), .string (bs []), .string (bs shopT), .string (bs homeT), .string (bs mT), .string (bs cardT), .int .i64 1000, .string (bs eurT), .int .i64 10, .int .i64 5411, .bool true] 29))], A]) (Sep.subs sp7 [1, 2, 3, 0, 4, 5] rfl) ?_
              exact LoopA.weak (jh (c + 1) t B7 (by omega) hs2 (by rw [hnt2]; exact hB7) (Sep.pick sp7 [1, 2, 3, 0, 4, 5] rfl rfl)) (by simp only [subE, get_cons, Nat.reduceEqDiff, ↓reduceIte, reduceCtorEq, Nat.reduceAdd, and_self, and_true]) (SubA.refl _)
theorem topLaw_w (A : AH) (hT : TabA A) (a : Int) (M : List Mv) (p : Option Addr) (cap : Nat) (hM : StR mvC 3 A p M) (hm : ∀ m ∈ M, m.ev ≤ 255 ∧ m.dy ≤ 255) (is : Bool) (B_ : AH) (hB_ : SubA A B_) : valA Tryz.prog 3 #[.int .i64 a, .slice p M.length cap, .bool is] B_ = some (.bool true) := valA_eq (pureA_at (by kernel_rfl) (topLaw_h A hT a M p cap hM hm is) hB_)
theorem topLaw_v (A : AH) (hT : TabA A) (a : Int) (M : List Mv) (p : Option Addr) (cap : Nat) (hM : StR mvC 3 A p M) (hm : ∀ m ∈ M, m.ev ≤ 255 ∧ m.dy ≤ 255) (is : Bool) : valA Tryz.prog 3 #[.int .i64 a, .slice p M.length cap, .bool is] A = some (.bool true) := valA_eq (pureA_at (by kernel_rfl) (topLaw_h A hT a M p cap hM hm is) (SubA.refl _))
end Go.Proofs.YtiholbpchhifiaaGreatDoor
