/-
The top of disputes: the desk, the sale, the example.
Conditions: none.
-/
import Derived.Test.YtiholbpchhifiaaGreatDoorPsn
import Derived.Test.YtiholbpchhifiaaGreatDoorAdjN
import Derived.Test.YtiholbpchhifiaaGreatDoorDss
namespace Go.Proofs.YtiholbpchhifiaaGreatDoor
open Go.Vm
set_option linter.unusedSimpArgs false
set_option linter.unusedVariables false
set_option maxHeartbeats 4000000
set_option maxRecDepth 20000
theorem vbTpa : type_of% (And.intro @slIndexByte_v (And.intro @indexByte_v (And.intro @indexRune_v (And.intro @containsRune_v (And.intro @classOf_v (And.intro @isWordByte_v (And.intro @wordAt_v (And.intro @isName_v (And.intro @possible_v (And.intro @days_v (And.intro @due_v (And.intro @evName_v (And.intro @evCheck_v (And.intro @dNext_v (And.intro @recId_v (And.intro @moneyCur_v (And.intro @inTotal_v (And.intro @exCard_v (And.intro @recCheck_v (And.intro @holder_v (And.intro @foll_v (And.intro @dspId_v (And.intro @isNaN_v (And.intro @isLess_v (And.intro @len2_v (And.intro @lenB2_v (And.intro @monChk_v (@withn_v)))))))))))))))))))))))))))) := And.intro @slIndexByte_v (And.intro @indexByte_v (And.intro @indexRune_v (And.intro @containsRune_v (And.intro @classOf_v (And.intro @isWordByte_v (And.intro @wordAt_v (And.intro @isName_v (And.intro @possible_v (And.intro @days_v (And.intro @due_v (And.intro @evName_v (And.intro @evCheck_v (And.intro @dNext_v (And.intro @recId_v (And.intro @moneyCur_v (And.intro @inTotal_v (And.intro @exCard_v (And.intro @recCheck_v (And.intro @holder_v (And.intro @foll_v (And.intro @dspId_v (And.intro @isNaN_v (And.intro @isLess_v (And.intro @len2_v (And.intro @lenB2_v (And.intro @monChk_v (@withn_v)))))))))))))))))))))))))))
theorem open_use {g : FuncId} {args : Array Value} {A E X : AH} {db : Nat} {R : List Rs} {F : List Fd} {q : Int × List Fd} {K : Value → AH → Prop} (hc : CallA Tryz.prog g args (E ++ X) fun u D => OpenP X db R F u D q) (hs : SubA (E ++ X) A)
    (hk : ∀ E' fv' F', DkP E' db fv' R F' → F'.map Fo.d = q.2 → Dis E' X → K (.int .i64 q.1) (E' ++ X)) : CallA Tryz.prog g args A K :=
  CallA.useX hc hs [] (SubA.nil _) (fun x hx => absurd rfl hx) fun v D ⟨e, E', fv', F', h1, h2, h3, h4⟩ _ => ⟨E' ++ X, h4, by rw [List.append_nil, e]; exact hk E' fv' F' h1 h2 h3⟩
theorem exp_use {g : FuncId} {args : Array Value} {A E X : AH} {db : Nat} {fv : Value} {R : List Rs} {q : List Txt × List Fd} {K : Value → AH → Prop} (hc : CallA Tryz.prog g args (E ++ X) fun u D => ExpP X db fv R u D q) (hs : SubA (E ++ X) A)
    (hk : ∀ u B E' F', OwnL strC 1 9 u B q.1 → DkP E' db fv R F' → F'.map Fo.d = q.2 → Dis E' (B ++ X) → Dis B X → K u (E' ++ (B ++ X))) : CallA Tryz.prog g args A K :=
  CallA.useX hc hs [] (SubA.nil _) (fun x hx => absurd rfl hx) fun v D ⟨B, E', F', h0, h1, h2, h3, h4, h5⟩ _ => ⟨E' ++ (B ++ X), h5, by rw [List.append_nil]; exact hk v B E' F' h0 h1 h2 h3 h4⟩
theorem new_n (A : AH) (L : List Rs) (p : Option Addr) (cap : Nat) (hL : RsR A p L) (hl : L.length ≤ cap ∧ cap ≤ 9223372036854775807) : CallA Tryz.prog 17 #[.slice p L.length cap] A fun u D => ∃ v B, u = v ∧ ((chkE (L.map Rs.d) ≠ 0 ∧ v = .tuple #[.pointer none, .int .i64 (chkE (L.map Rs.d))]) ∨ (chkE (L.map Rs.d) = 0 ∧ ∃ db R, v = .tuple #[.pointer (some ⟨db, 0, none⟩), .int .i64 0] ∧ DkP B db (.slice none 0 0) R [] ∧ R.map Rs.d = L.map Rs.d)) ∧ Dis B A ∧ SubA (B ++ A) D :=
  (newD_h A L p cap hL hl).mono fun u D h => by
    rcases h with ⟨h1, h2, h3⟩ | ⟨h1, db, E, R, h2, h3, h4, h5, h6⟩
    · exact ⟨u, [], rfl, .inl ⟨h1, h2⟩, Dis.nil _, h3⟩
    · exact ⟨u, E, rfl, .inr ⟨h1, db, R, h2, h3, h4⟩, h5, h6⟩
theorem pure_n {P : Program} {g : FuncId} {args : Array Value} {v : Value} {A : AH} (h : CallA P g args A fun u D => u = v ∧ SubA A D) : CallA P g args A fun u D => ∃ w B, u = w ∧ w = v ∧ Dis B A ∧ SubA (B ++ A) D :=
  h.mono fun u D ⟨h1, h2⟩ => ⟨u, [], rfl, h1, Dis.nil _, h2⟩
theorem cons_back {B X : AH} {x : Nat} {o : Obj} (h : Vm.look B x = none) : SubA (B ++ ((x, o) :: X)) ((x, o) :: (B ++ X)) := fun b u hl => by
  rw [look_append] at hl
  simp only [Vm.look]
  by_cases e : x = b
  · subst e
    rw [h] at hl
    simp only [Vm.look, if_true] at hl
    rw [if_pos rfl]; exact hl
  · rw [if_neg e, look_append]
    cases hb : Vm.look B b with
    | some w => rw [hb] at hl; exact hl
    | none => rw [hb] at hl; simp only [Vm.look, e, if_false] at hl; exact hl
theorem dis_cons {B X : AH} {x : Nat} {o : Obj} (h : Vm.look B x = none) (d : Dis B X) : Dis B ((x, o) :: X) := fun b hb => by
  simp only [Vm.look] at hb
  by_cases e : x = b
  · subst e; exact h
  · rw [if_neg e] at hb; exact d b hb
def rsTop : Rs := ⟨rnTop, none, 0, none, 0⟩
theorem rs_chk : chkE [rsTop.d] = 0 := by decide +kernel
theorem rs_at (b : Nat) (A : AH) : RsR ((b, Obj.cells #[.string ⟨#[102, 114, 97, 117, 100]⟩, .int .i64 120, .int .i64 45, .int .i64 30, .int .i64 20, .slice none 0 0, .slice none 0 0] 57) :: A) (some ⟨b, 0, none⟩) [rsTop] := by
  have o : OwnL rsC 7 57 (.slice (some ⟨b, 0, none⟩) 1 1) [(b, .cells (rsC rsTop).toArray 57)] [rsTop] := .inl (OwnA.at (n := 1) (by simp [rsC]) (by simp [maxLen]))
  obtain ⟨p, cap, e, _, hs⟩ := o.read rsC_len
  cases e
  refine ⟨hs.mono (SubA.left [_] _), fun r hr => ?_⟩
  simp at hr
  subst hr
  exact ⟨TxR.nil, TxR.nil⟩
theorem deskT_h (A : AH) : CallA Tryz.prog 4 #[] A (fun u_ A_ => ∃ v B, u_ = v ∧ (∃ db fv R, v = .tuple #[.pointer (some ⟨db, 0, none⟩), .bool true] ∧ DkP B db fv R [] ∧ R.map Rs.d = [rnTop]) ∧ Dis B A ∧ SubA (B ++ A) A_) := by
  refine callA_of_denA ⟨Tryz.prog, 4, Tryz.f4, 17, [0, 1, 2, 3], [17], [], _⟩ (args := []) Tryz.func4 rfl (by kernel_rfl) Tryz.ntmps4 (by simp) (by kernel_rfl) ?_
  intro ν fr; have nuE := fr.nu
  have f0 : Vm.look A (ν 0) = none := fr.2 0
  simp (maxDischargeDepth := 16) only [argE_nil, argE_cons, ↓vmD, vmV, vmStd, Nat.reduceMul, ↓reduceIte, Nat.reduceAdd, Nat.reduceSub, Nat.reduceEqDiff, Nat.reduceLT, Nat.reduceLeDiff, reduceCtorEq, Int.reduceToNat, Int.reduceLT, Int.reduceLE, Int.reduceEq, Int.reduceNeg, Int.reduceBEq, Int.reduceBNe, String.reduceEq, forall_const, ↓vmDA, vmVA, ↓vmQA, vmR, vmRA, ↓vmSA, vmSV, tyS, nuE, SubA.skip, SubA.refl, fr.2, vbTpa, sc_rs]
  refine CallA.newX (new_n _ [rsTop] (some ⟨ν 0, 0, none⟩) 1 (rs_at (ν 0) A) (by simp)) (SubA.refl _) ?_
  rintro v B h hd
  rcases h with ⟨h1, _⟩ | ⟨_, db, R, rfl, hB, hR⟩
  · exact absurd rs_chk h1
  refine ⟨B ++ A, SubA.app (SubA.fresh f0 (SubA.refl _)), ?_⟩
  intro ν fr; have nuE := fr.nu
  simp (maxDischargeDepth := 16) only [argE_nil, argE_cons, ↓vmD, vmV, vmStd, Nat.reduceMul, ↓reduceIte, Nat.reduceAdd, Nat.reduceSub, Nat.reduceEqDiff, Nat.reduceLT, Nat.reduceLeDiff, reduceCtorEq, Int.reduceToNat, Int.reduceLT, Int.reduceLE, Int.reduceEq, Int.reduceNeg, Int.reduceBEq, Int.reduceBNe, String.reduceEq, forall_const, ↓vmDA, vmVA, ↓vmQA, vmR, vmRA, ↓vmSA, vmSV, tyS, nuE, SubA.skip, SubA.refl, fr.2, vbTpa]
  exact ⟨_, B, rfl, ⟨db, _, R, rfl, hB, hR⟩, Dis.subr hd (SubA.fresh f0 (SubA.refl _)), SubA.refl _⟩

def rdT (a d : Int) : Rd := ⟨1, pT, [], shopT, homeT, mT, cardT, a, eurT, d, 5411, true⟩
theorem b_p : (⟨#[112]⟩ : ByteArray) = bs pT := rfl
theorem b_0 : (⟨#[]⟩ : ByteArray) = bs [] := rfl
theorem b_s : (⟨#[115, 104, 111, 112, 98, 97, 110, 107]⟩ : ByteArray) = bs shopT := rfl
theorem b_h : (⟨#[104, 111, 109, 101, 98, 97, 110, 107]⟩ : ByteArray) = bs homeT := rfl
theorem b_m : (⟨#[109, 49]⟩ : ByteArray) = bs mT := rfl
theorem b_c : (⟨#[52, 48, 48, 48, 48, 48, 48, 48, 48, 48, 48, 48, 48, 48, 48, 50]⟩ : ByteArray) = bs cardT := rfl
theorem b_e : (⟨#[69, 85, 82]⟩ : ByteArray) = bs eurT := rfl
theorem b_d : (⟨#[100]⟩ : ByteArray) = bs dT := rfl
theorem b_f : (⟨#[102, 114, 97, 117, 100]⟩ : ByteArray) = bs fraudT := rfl
theorem saleT_h (a d : Int) : CallA Tryz.prog 5 #[.int .i64 a, .int .i64 d] [] (fun u_ _ => u_ = .agg #[.int .i64 1, .string (bs pT), .string (bs []), .string (bs shopT), .string (bs homeT), .string (bs mT), .string (bs cardT), .int .i64 a, .string (bs eurT), .int .i64 d, .int .i64 5411, .bool true]) := by
  refine callA_of_denA ⟨Tryz.prog, 5, Tryz.f5, 9, [0, 1, 4], [], [], _⟩ (args := [_, _]) Tryz.func5 rfl (by kernel_rfl) Tryz.ntmps5 (by simp) (by kernel_rfl) ?_
  intro ν fr; have nuE := fr.nu
  simp (maxDischargeDepth := 16) only [argE_nil, argE_cons, ↓vmD, vmV, vmStd, Nat.reduceMul, ↓reduceIte, Nat.reduceAdd, Nat.reduceSub, Nat.reduceEqDiff, Nat.reduceLT, Nat.reduceLeDiff, reduceCtorEq, Int.reduceToNat, Int.reduceLT, Int.reduceLE, Int.reduceEq, Int.reduceNeg, Int.reduceBEq, Int.reduceBNe, String.reduceEq, forall_const, ↓vmDA, vmVA, ↓vmQA, vmR, vmRA, ↓vmSA, vmSV, tyS, nuE, SubA.skip, SubA.refl, fr.2, vbTpa]
  rfl
theorem saleT_v (a d : Int) (A_ : AH) : valA Tryz.prog 5 #[.int .i64 a, .int .i64 d] A_ = some (.agg #[.int .i64 1, .string (bs pT), .string (bs []), .string (bs shopT), .string (bs homeT), .string (bs mT), .string (bs cardT), .int .i64 a, .string (bs eurT), .int .i64 d, .int .i64 5411, .bool true]) := valA_eq (pureA_of (by kernel_rfl) (saleT_h a d))
theorem topOpenX (a : Int) (ha : 1 ≤ a ∧ a ≤ 1000) : openX [rnTop] [] dT rTop fraudT a 20 [] = (0, [openF [rnTop] dT rTop fraudT a 20]) := by
  unfold openX
  rw [topOpen, if_neg (by omega)]
  simp
theorem TopI.ok {a d : Int} {f : Fd} (h : TopI a d f) (ha : 1 ≤ a ∧ a ≤ 1000) : FdsOk [f] := by
  refine ⟨fun g hg => ?_, by simp, by simp⟩
  simp at hg
  subst hg
  have hc := h.c
  have hst := h.st
  have e : g.c.amt = a := by rw [hc]; rfl
  exact ⟨h.len, hst.1, hst.2, by rw [e]; omega, by rw [e]; omega⟩
def f2Top : Fd := ⟨caTop 600 2 60, [1, 2], 30⟩
theorem step2 : stepX [rnTop] [⟨caTop 600 1 65, [1], 20⟩] dT 1 30 [] = (0, [f2Top]) := by kernel_rfl
def x1Top (k d n : Int) : Rc := ⟨k, bs dT ++ ⟨#[45]⟩ ++ decB n.toNat, ⟨#[]⟩, bs shopT, bs homeT, bs mT, bs cardT, 600, bs eurT, d, 5411, true⟩
theorem mov2 : (movL (csOf f2Top.c) rcTop 30 [1, 2] 0 []).2 = 0 ∧ (movL (csOf f2Top.c) rcTop 30 [1, 2] 0 []).1.length = 2 ∧ netF (movL (csOf f2Top.c) rcTop 30 [1, 2] 0 []).1 = 0 := by decide +kernel
theorem moves_n (A : AH) (hT : TabA A) (c : Cs) (r : Rc) (hc : SzC c) (hr : SzR r) (L : List Int) (p : Option Addr) (cap : Nat) (hL : StR intC 1 A p L) (hl : L.length ≤ 100) (d : Int) : CallA Tryz.prog 21 #[.agg #[.string c.id, .string c.rc, .string c.rs, .string c.is, .string c.aq, .int .i64 c.am, .string c.cu, .int .i64 c.st, .int .i64 c.op, .int .i64 c.du], .agg #[.int .i64 r.kd, .string r.id, .string r.au, .string r.aq, .string r.is, .string r.me, .string r.ca, .int .i64 r.am, .string r.cu, .int .i64 r.da, .int .i64 r.ct, .bool r.fi], .slice p L.length cap, .int .i64 d] A fun u D => ∃ w B, u = w ∧ (∃ v, w = .tuple #[v, .int .i64 (movL c r d L 0 []).2] ∧ OwnL Rc.cells 12 29 v B (movL c r d L 0 []).1) ∧ Dis B A ∧ SubA (B ++ A) D :=
  (panMoves_h A hT c r hc hr L p cap hL hl d).mono fun u D ⟨v, B, h1, h2, h3, h4⟩ => ⟨u, B, rfl, ⟨v, h1, h2⟩, h3, h4⟩
theorem rcTop_sz : SzR rcTop := ⟨by decide, by decide, by decide, by decide, by decide, by decide, by decide⟩
theorem csTop_sz (a st du : Int) : SzC (csOf (caTop a st du)) := by
  have e1 : (csOf (caTop a st du)).id = bs dT := rfl
  have e2 : (csOf (caTop a st du)).cu = bs eurT := rfl
  exact ⟨by rw [e1]; decide, by rw [e2]; decide⟩
theorem topAwk_h (A : AH) (hT : TabA A) : CallA Tryz.prog 7 #[] A (fun u_ A_ => u_ = .bool true ∧ SubA A A_) := by
  refine callA_of_denA ⟨Tryz.prog, 7, Tryz.f7, 59, [0, 1, 2, 3, 4, 5, 6, 7], [4, 6, 10, 12, 21], [(6, .p [(0, 0), (1, 0), (2, 0), (3, 1), (4, 2), (5, 0), (6, 0), (7, 0), (8, 0), (9, 0)])], _⟩ (args := []) Tryz.func7 rfl (by kernel_rfl) Tryz.ntmps7 (by simp) (by kernel_rfl) ?_
  intro ν fr; have nuE := fr.nu
  simp (maxDischargeDepth := 16) only [argE_nil, argE_cons, ↓vmD, vmV, vmStd, Nat.reduceMul, ↓reduceIte, Nat.reduceAdd, Nat.reduceSub, Nat.reduceEqDiff, Nat.reduceLT, Nat.reduceLeDiff, reduceCtorEq, Int.reduceToNat, Int.reduceLT, Int.reduceLE, Int.reduceEq, Int.reduceNeg, Int.reduceBEq, Int.reduceBNe, String.reduceEq, forall_const, ↓vmDA, vmVA, ↓vmQA, vmR, vmRA, ↓vmSA, vmSV, tyS, nuE, SubA.skip, SubA.refl, fr.2, vbTpa, saleT_v]
  clear nuE fr
  refine CallA.newX (deskT_h A) (SubA.refl A) ?_
  rintro v E ⟨db, fv, R, rfl, hE, hR⟩ hd
  refine ⟨E ++ A, SubA.refl _, ?_⟩
  intro ν fr; have nuE := fr.nu
  have f0 := fr.2 0
  simp (maxDischargeDepth := 16) only [argE_nil, argE_cons, ↓vmD, vmV, vmStd, Nat.reduceMul, ↓reduceIte, Nat.reduceAdd, Nat.reduceSub, Nat.reduceEqDiff, Nat.reduceLT, Nat.reduceLeDiff, reduceCtorEq, Int.reduceToNat, Int.reduceLT, Int.reduceLE, Int.reduceEq, Int.reduceNeg, Int.reduceBEq, Int.reduceBNe, String.reduceEq, forall_const, ↓vmDA, vmVA, ↓vmQA, vmR, vmRA, ↓vmSA, vmSV, tyS, nuE, SubA.skip, SubA.refl, fr.2, vbTpa, saleT_v]
  have dst_ : True := (by simp [nuE]); generalize ν 0 = n0 at dst_  f0 ⊢
  clear nuE fr dst_
  have fE : Vm.look E n0 = none := (SubA.left E A).none f0
  have fA : Vm.look A n0 = none := hd.right.none f0
  refine open_use (openP_h E ((n0, (Obj.cells #[.int .i64 1, .string (bs pT), .string (bs []), .string (bs shopT), .string (bs homeT), .string (bs mT), .string (bs cardT), .int .i64 1000, .string (bs eurT), .int .i64 10, .int .i64 5411, .bool true] 29)) :: A) db fv R [] hE (dis_cons fE hd) ⟨(fun f hf => by cases hf), by simp, by simp⟩ dT rTop fraudT 600 20 [] none 0 StR.nil) (cons_back fE) ?_
  intro E1 fv1 F1 g1 g2 g3
  rw [hR, List.map_nil, topOpenX 600 (by omega), topFirst] at g2 ⊢
  have hn0 : Vm.look (E1 ++ ((n0, (Obj.cells #[.int .i64 1, .string (bs pT), .string (bs []), .string (bs shopT), .string (bs homeT), .string (bs mT), .string (bs cardT), .int .i64 1000, .string (bs eurT), .int .i64 10, .int .i64 5411, .bool true] 29)) :: A)) n0 = some (Obj.cells #[.int .i64 1, .string (bs pT), .string (bs []), .string (bs shopT), .string (bs homeT), .string (bs mT), .string (bs cardT), .int .i64 1000, .string (bs eurT), .int .i64 10, .int .i64 5411, .bool true] 29) := g3.right _ _ (by simp [Vm.look])
  have i1 : TopI 600 20 ⟨caTop 600 1 65, [1], 20⟩ := by rw [← topFirst]; exact topStart 600
  intro ν fr; have nuE := fr.nu
  simp (maxDischargeDepth := 16) only [argE_nil, argE_cons, ↓vmD, vmV, vmStd, Nat.reduceMul, ↓reduceIte, Nat.reduceAdd, Nat.reduceSub, Nat.reduceEqDiff, Nat.reduceLT, Nat.reduceLeDiff, reduceCtorEq, Int.reduceToNat, Int.reduceLT, Int.reduceLE, Int.reduceEq, Int.reduceNeg, Int.reduceBEq, Int.reduceBNe, String.reduceEq, forall_const, ↓vmDA, vmVA, ↓vmQA, vmR, vmRA, ↓vmSA, vmSV, tyS, nuE, SubA.skip, SubA.refl, fr.2, vbTpa, saleT_v]
  clear nuE fr
  refine open_use (stepP_h E1 ((n0, (Obj.cells #[.int .i64 1, .string (bs pT), .string (bs []), .string (bs shopT), .string (bs homeT), .string (bs mT), .string (bs cardT), .int .i64 1000, .string (bs eurT), .int .i64 10, .int .i64 5411, .bool true] 29)) :: A) db fv1 R F1 g1 g3 (by rw [g2]; exact i1.ok (by omega)) dT 1 30 [] none 0 StR.nil) (SubA.refl _) ?_
  intro E2 fv2 F2 k1 k2 k3
  rw [hR, g2, step2] at k2 ⊢
  have hm0 : Vm.look (E2 ++ ((n0, (Obj.cells #[.int .i64 1, .string (bs pT), .string (bs []), .string (bs shopT), .string (bs homeT), .string (bs mT), .string (bs cardT), .int .i64 1000, .string (bs eurT), .int .i64 10, .int .i64 5411, .bool true] 29)) :: A)) n0 = some (Obj.cells #[.int .i64 1, .string (bs pT), .string (bs []), .string (bs shopT), .string (bs homeT), .string (bs mT), .string (bs cardT), .int .i64 1000, .string (bs eurT), .int .i64 10, .int .i64 5411, .bool true] 29) := k3.right _ _ (by simp [Vm.look])
  have gv := getDk_w E2 db fv2 R F2 k1 dT (E2 ++ ((n0, (Obj.cells #[.int .i64 1, .string (bs pT), .string (bs []), .string (bs shopT), .string (bs homeT), .string (bs mT), .string (bs cardT), .int .i64 1000, .string (bs eurT), .int .i64 10, .int .i64 5411, .bool true] 29)) :: A)) (SubA.left _ _)
  rw [k2] at gv
  rw [show getX dT [f2Top] = some f2Top.c from by kernel_rfl] at gv
  simp only [Option.getD_some, Option.isSome_some, caAgg] at gv
  intro ν fr; have nuE := And.intro (fr.mem (b := n0) (by simp)) (fr.nu)
  have w0 : Vm.look (E2 ++ ((n0, (Obj.cells #[.int .i64 1, .string (bs pT), .string (bs []), .string (bs shopT), .string (bs homeT), .string (bs mT), .string (bs cardT), .int .i64 1000, .string (bs eurT), .int .i64 10, .int .i64 5411, .bool true] 29)) :: A)) (ν 0) = none := fr.2 0
  simp (maxDischargeDepth := 16) only [argE_nil, argE_cons, ↓vmD, vmV, vmStd, Nat.reduceMul, ↓reduceIte, Nat.reduceAdd, Nat.reduceSub, Nat.reduceEqDiff, Nat.reduceLT, Nat.reduceLeDiff, reduceCtorEq, Int.reduceToNat, Int.reduceLT, Int.reduceLE, Int.reduceEq, Int.reduceNeg, Int.reduceBEq, Int.reduceBNe, String.reduceEq, forall_const, ↓vmDA, vmVA, ↓vmQA, vmR, vmRA, ↓vmSA, vmSV, tyS, nuE, SubA.skip, SubA.refl, fr.2, vbTpa, saleT_v, gv, b_d, hm0]
  have dst_ : True := (by simp [nuE]); generalize ν 0 = n1 at dst_  w0 ⊢
  clear nuE fr gv dst_
  have hs2 : SubA E2 ((n1, (Obj.cells #[.string (bs f2Top.c.id), .string (bs f2Top.c.rcd), .string (bs f2Top.c.rea), .string (bs f2Top.c.iss), .string (bs f2Top.c.acq), .int .i64 f2Top.c.amt, .string (bs f2Top.c.cur), .int .i64 f2Top.c.st, .int .i64 f2Top.c.op, .int .i64 f2Top.c.du] 43)) :: (E2 ++ ((n0, (Obj.cells #[.int .i64 1, .string (bs pT), .string (bs []), .string (bs shopT), .string (bs homeT), .string (bs mT), .string (bs cardT), .int .i64 1000, .string (bs eurT), .int .i64 10, .int .i64 5411, .bool true] 29)) :: A))) := SubA.fresh w0 (SubA.left _ _)
  refine CallA.newX (histD_h E2 db fv2 R F2 k1 (fun f hf => by
    have : f.d ∈ F2.map Fo.d := List.mem_map_of_mem hf
    rw [k2] at this
    simp at this
    rw [this]
    decide) dT) hs2 ?_
  rintro v3 B3 ho3 hd3
  rw [k2, show histX dT [f2Top] = [1, 2] from by kernel_rfl] at ho3
  refine ⟨B3 ++ ((n1, _) :: (E2 ++ ((n0, (Obj.cells #[.int .i64 1, .string (bs pT), .string (bs []), .string (bs shopT), .string (bs homeT), .string (bs mT), .string (bs cardT), .int .i64 1000, .string (bs eurT), .int .i64 10, .int .i64 5411, .bool true] 29)) :: A))), SubA.refl _, ?_⟩
  intro ν fr; have nuE := fr.nu
  have hr3 := hd3.right
  simp (maxDischargeDepth := 16) only [argE_nil, argE_cons, ↓vmD, vmV, vmStd, Nat.reduceMul, ↓reduceIte, Nat.reduceAdd, Nat.reduceSub, Nat.reduceEqDiff, Nat.reduceLT, Nat.reduceLeDiff, reduceCtorEq, Int.reduceToNat, Int.reduceLT, Int.reduceLE, Int.reduceEq, Int.reduceNeg, Int.reduceBEq, Int.reduceBNe, String.reduceEq, forall_const, ↓vmDA, vmVA, ↓vmQA, vmR, vmRA, ↓vmSA, vmSV, tyS, nuE, SubA.skip, SubA.refl, fr.2, vbTpa, saleT_v, hr3]
  clear nuE fr
  obtain ⟨p3, c3, rfl, hc3, hs3⟩ := ho3.read intC_len
  have hT3 : TabA (B3 ++ ((n1, (Obj.cells #[.string (bs f2Top.c.id), .string (bs f2Top.c.rcd), .string (bs f2Top.c.rea), .string (bs f2Top.c.iss), .string (bs f2Top.c.acq), .int .i64 f2Top.c.amt, .string (bs f2Top.c.cur), .int .i64 f2Top.c.st, .int .i64 f2Top.c.op, .int .i64 f2Top.c.du] 43)) :: (E2 ++ ((n0, (Obj.cells #[.int .i64 1, .string (bs pT), .string (bs []), .string (bs shopT), .string (bs homeT), .string (bs mT), .string (bs cardT), .int .i64 1000, .string (bs eurT), .int .i64 10, .int .i64 5411, .bool true] 29)) :: A)))) := hT.mono (SubA.trans (SubA.trans (SubA.skip fA (SubA.refl A)) (SubA.trans k3.right (SubA.fresh w0 (SubA.refl _)))) hr3)
  refine CallA.newX (moves_n _ hT3 (csOf f2Top.c) rcTop (csTop_sz _ _ _) rcTop_sz [1, 2] p3 c3 (hs3.mono (SubA.left _ _)) (by simp) 30) (SubA.refl _) ?_
  rintro v4 B4 ⟨w4, rfl, ho4⟩ hd4
  obtain ⟨y1, y2, y3⟩ := mov2
  obtain ⟨p4, c4, rfl, hc4, hs4⟩ := ho4.read Rc.len
  rw [y1]
  generalize (movL (csOf f2Top.c) rcTop 30 [1, 2] 0 []).1 = L4 at *
  have nv := panNet_w B4 L4 p4 c4 hs4 (by omega) _ (SubA.left B4 (B3 ++ ((n1, (Obj.cells #[.string (bs f2Top.c.id), .string (bs f2Top.c.rcd), .string (bs f2Top.c.rea), .string (bs f2Top.c.iss), .string (bs f2Top.c.acq), .int .i64 f2Top.c.amt, .string (bs f2Top.c.cur), .int .i64 f2Top.c.st, .int .i64 f2Top.c.op, .int .i64 f2Top.c.du] 43)) :: (E2 ++ ((n0, (Obj.cells #[.int .i64 1, .string (bs pT), .string (bs []), .string (bs shopT), .string (bs homeT), .string (bs mT), .string (bs cardT), .int .i64 1000, .string (bs eurT), .int .i64 10, .int .i64 5411, .bool true] 29)) :: A)))))
  have e1 := hd4.right _ _ (hr3 _ _ (show Vm.look ((n1, (Obj.cells #[.string (bs f2Top.c.id), .string (bs f2Top.c.rcd), .string (bs f2Top.c.rea), .string (bs f2Top.c.iss), .string (bs f2Top.c.acq), .int .i64 f2Top.c.amt, .string (bs f2Top.c.cur), .int .i64 f2Top.c.st, .int .i64 f2Top.c.op, .int .i64 f2Top.c.du] 43)) :: (E2 ++ ((n0, (Obj.cells #[.int .i64 1, .string (bs pT), .string (bs []), .string (bs shopT), .string (bs homeT), .string (bs mT), .string (bs cardT), .int .i64 1000, .string (bs eurT), .int .i64 10, .int .i64 5411, .bool true] 29)) :: A))) n1 = some (Obj.cells #[.string (bs f2Top.c.id), .string (bs f2Top.c.rcd), .string (bs f2Top.c.rea), .string (bs f2Top.c.iss), .string (bs f2Top.c.acq), .int .i64 f2Top.c.amt, .string (bs f2Top.c.cur), .int .i64 f2Top.c.st, .int .i64 f2Top.c.op, .int .i64 f2Top.c.du] 43) by simp only [Vm.look, if_true]))
  refine ⟨_, SubA.refl _, ?_⟩
  have st2 : (f2Top.c.st == 2) = true := rfl
  rw [y2, y3] at nv
  intro ν fr; have nuE := fr.nu
  simp (maxDischargeDepth := 16) only [argE_nil, argE_cons, ↓vmD, vmV, vmStd, Nat.reduceMul, ↓reduceIte, Nat.reduceAdd, Nat.reduceSub, Nat.reduceEqDiff, Nat.reduceLT, Nat.reduceLeDiff, reduceCtorEq, Int.reduceToNat, Int.reduceLT, Int.reduceLE, Int.reduceEq, Int.reduceNeg, Int.reduceBEq, Int.reduceBNe, String.reduceEq, forall_const, ↓vmDA, vmVA, ↓vmQA, vmR, vmRA, ↓vmSA, vmSV, tyS, nuE, SubA.skip, SubA.refl, fr.2, vbTpa, saleT_v, e1, y2, nv, st2]
  exact SubA.trans (SubA.trans (SubA.trans (SubA.skip fA (SubA.refl A)) (SubA.trans k3.right (SubA.fresh w0 (SubA.refl _)))) hr3) hd4.right
theorem topAwk_w (A : AH) (hT : TabA A) (B_ : AH) (hB_ : SubA A B_) : valA Tryz.prog 7 #[] B_ = some (.bool true) := valA_eq (pureA_at (by kernel_rfl) (topAwk_h A hT) hB_)
theorem topAwk_v (A : AH) (hT : TabA A) : valA Tryz.prog 7 #[] A = some (.bool true) := valA_eq (pureA_at (by kernel_rfl) (topAwk_h A hT) (SubA.refl _))
end Go.Proofs.YtiholbpchhifiaaGreatDoor
