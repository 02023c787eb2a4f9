/-
Disputes: the law of the desks, and its walk.
Conditions: none.
-/
import Derived.Test.YtkkpmcomloekoaaGreatRkB
import Derived.Test.YtkkpmcomloekoaaGreatDsq
namespace Go.Proofs.YtkkpmcomloekoaaGreat
open Go.Vm
set_option linter.unusedSimpArgs false
set_option linter.unusedVariables false
set_option maxHeartbeats 4000000
set_option maxRecDepth 20000
theorem vbRkC : type_of% (And.intro @slIndexByte_v (And.intro @indexByte_v (And.intro @indexRune_v (And.intro @containsRune_v (And.intro @classOf_v (And.intro @isWordByte_v (And.intro @letter_v (And.intro @digit_v (And.intro @wordAt_v (And.intro @rword_v (And.intro @isName_v (And.intro @risName_v (And.intro @possible_v (And.intro @days_v (And.intro @due_v (And.intro @rkind_v (And.intro @rdays_v (And.intro @rdaysS_v (And.intro @rdue_v (And.intro @evName_v (And.intro @evCheck_v (And.intro @dNext_v (And.intro @rNext_v (And.intro @dTurn_v (And.intro @recId_v (And.intro @rId13_v (And.intro @rId27_v (And.intro @moneyCur_v (And.intro @rCur01_v (And.intro @inTotal_v (And.intro @rwithin1_v (And.intro @exCard_v (And.intro @recCheck_v (And.intro @dspId_v (And.intro @awk46_v (And.intro @rdate_v (And.intro @rdue46_v (And.intro @revCheck_v (@rrecCheck_v))))))))))))))))))))))))))))))))))))))) := And.intro @slIndexByte_v (And.intro @indexByte_v (And.intro @indexRune_v (And.intro @containsRune_v (And.intro @classOf_v (And.intro @isWordByte_v (And.intro @letter_v (And.intro @digit_v (And.intro @wordAt_v (And.intro @rword_v (And.intro @isName_v (And.intro @risName_v (And.intro @possible_v (And.intro @days_v (And.intro @due_v (And.intro @rkind_v (And.intro @rdays_v (And.intro @rdaysS_v (And.intro @rdue_v (And.intro @evName_v (And.intro @evCheck_v (And.intro @dNext_v (And.intro @rNext_v (And.intro @dTurn_v (And.intro @recId_v (And.intro @rId13_v (And.intro @rId27_v (And.intro @moneyCur_v (And.intro @rCur01_v (And.intro @inTotal_v (And.intro @rwithin1_v (And.intro @exCard_v (And.intro @recCheck_v (And.intro @dspId_v (And.intro @awk46_v (And.intro @rdate_v (And.intro @rdue46_v (And.intro @revCheck_v (@rrecCheck_v))))))))))))))))))))))))))))))))))))))
/-- A call that leads from one state to another: what it needs is kept behind it, and what is not touched last. -/
theorem CallA.stS {P : Program} {g : FuncId} {args : Array Value} {A E C X : AH} {S : Value → AH → Prop} {K : Value → AH → Prop} (hc : CallA P g args (E ++ C) fun v D => ∃ E', S v E' ∧ Dis E' C ∧ SubA (E' ++ C) D) (sp : Sep [E, C, X]) (hs : SubA (cat [E, C, X]) A)
    (hk : ∀ v E', S v E' → Sep [E', C, X] → ∃ A'', SubA A'' (cat [E', C, X]) ∧ K v A'') : CallA P g args A K := by
  have d : Dis (E ++ C) X := Dis.app sp.1.2.1 sp.2.1.1
  have h0 : SubA (E ++ C) A := SubA.trans (Sep.subs sp [0, 1] rfl) hs
  refine CallA.useX (K0 := fun v D => ∃ E', S v E' ∧ Sep [E', C, X] ∧ D = (E' ++ C) ++ X) ?_ (SubA.refl A) [] (SubA.nil _) (fun x hx => absurd rfl hx) ?_
  · refine CallA.useX hc h0 X (SubA.trans (Sep.subs sp [2] rfl) hs) d ?_
    rintro v D ⟨E', h1, h2, h3⟩ hd
    have d2 : Dis (E' ++ C) X := Dis.subl hd h3
    exact ⟨E' ++ C, h3, E', h1, ⟨⟨h2, Dis.subl d2 (SubA.left E' C), trivial⟩, ⟨sp.2.1.1, trivial⟩, Sep.one X⟩, rfl⟩
  · rintro v D ⟨E', h1, h2, rfl⟩ _
    obtain ⟨A'', k1, k2⟩ := hk v E' h1 h2
    refine ⟨A'', SubA.trans k1 ?_, by rw [List.append_nil]; exact k2⟩
    simp only [cat, List.append_assoc]
    exact SubA.refl _
/-- .. and hands out something new. -/
theorem CallA.stB {P : Program} {g : FuncId} {args : Array Value} {A E C X : AH} {S : Value → AH → AH → Prop} {K : Value → AH → Prop} (hc : CallA P g args (E ++ C) fun v D => ∃ B E', S v B E' ∧ Dis E' (B ++ C) ∧ Dis B C ∧ SubA (E' ++ (B ++ C)) D) (sp : Sep [E, C, X]) (hs : SubA (cat [E, C, X]) A)
    (hk : ∀ v B E', S v B E' → Sep [E', B, C, X] → ∃ A'', SubA A'' (cat [E', B, C, X]) ∧ K v A'') : CallA P g args A K := by
  have d : Dis (E ++ C) X := Dis.app sp.1.2.1 sp.2.1.1
  have h0 : SubA (E ++ C) A := SubA.trans (Sep.subs sp [0, 1] rfl) hs
  refine CallA.useX (K0 := fun v D => ∃ B E', S v B E' ∧ Sep [E', B, C, X] ∧ D = (E' ++ (B ++ C)) ++ X) ?_ (SubA.refl A) [] (SubA.nil _) (fun x hx => absurd rfl hx) ?_
  · refine CallA.useX hc h0 X (SubA.trans (Sep.subs sp [2] rfl) hs) d ?_
    rintro v D ⟨B, E', h1, h2, h3, h4⟩ hd
    have d2 : Dis (E' ++ (B ++ C)) X := Dis.subl hd h4
    have d3 : Dis (B ++ C) X := Dis.subl d2 h2.right
    exact ⟨E' ++ (B ++ C), h4, B, E', h1, ⟨⟨Dis.subr h2 (SubA.left B C), Dis.subr h2 h3.right, Dis.subl d2 (SubA.left _ _), trivial⟩, ⟨h3, Dis.subl d3 (SubA.left _ _), trivial⟩, ⟨sp.2.1.1, trivial⟩, Sep.one X⟩, rfl⟩
  · rintro v D ⟨B, E', h1, h2, rfl⟩ _
    obtain ⟨A'', k1, k2⟩ := hk v B E' h1 h2
    refine ⟨A'', SubA.trans k1 ?_, by rw [List.append_nil]; exact k2⟩
    simp only [cat, List.append_assoc]
    exact SubA.refl _
theorem eqInts_h (A : AH) (L : List Int) (p : Option Addr) (cap : Nat) (q : Option Addr) (qcap : Nat) (h1 : StR intC 1 A p L) (h2 : StR intC 1 A q L) (hl : L.length ≤ 1000) : CallA Tryz.prog 16 #[.slice p L.length cap, .slice q L.length qcap] A (fun u_ A_ => u_ = .bool true ∧ SubA A A_) := by
  refine callA_of_denA ⟨Tryz.prog, 16, Tryz.f16, 26, [0, 1, 4, 5], [], [(6, .q false)], _⟩ (args := [_, _]) Tryz.func16 rfl (by kernel_rfl) Tryz.ntmps16 (by simp) (by kernel_rfl) ?_
  intro ν fr; have nuE := fr.nu
  simp (maxDischargeDepth := 16) only [argE_nil, argE_cons, ↓vmD, vmV, vmStd, Nat.reduceMul, ↓reduceIte, Nat.reduceAdd, Nat.reduceSub, Nat.reduceEqDiff, Nat.reduceLT, Nat.reduceLeDiff, reduceCtorEq, Int.reduceToNat, Int.reduceLT, Int.reduceLE, Int.reduceEq, Int.reduceNeg, Int.reduceBEq, Int.reduceBNe, String.reduceEq, forall_const, ↓vmDA, vmVA, ↓vmQA, vmR, vmRA, ↓vmSA, vmSV, tyS, nuE, SubA.skip, SubA.refl, fr.2, vbRkC]
  obtain ⟨e, l, he, hd, hle⟩ : ∃ (e : Nat) (l : List Int), e = 0 ∧ l = L.drop e ∧ e ≤ L.length := ⟨0, L, rfl, rfl, by omega⟩
  rw [show (5, some (Value.int .i64 0)) = (5, some (Value.int .i64 (e : Int))) by rw [he]; rfl]
  clear he nuE fr
  induction l generalizing e with
  | nil =>
    obtain ⟨hn1, hn2⟩ := drop_nil hd hle
    have lt : ((e : Int) < (L.length : Int)) = False := eq_false (by omega)
    refine LoopA.intro (by kernel_rfl) ?_
    intro ν fr; have nuE := fr.nu
    simp (maxDischargeDepth := 16) only [argE_nil, argE_cons, ↓vmD, vmV, vmStd, Nat.reduceMul, ↓reduceIte, Nat.reduceAdd, Nat.reduceSub, Nat.reduceEqDiff, Nat.reduceLT, Nat.reduceLeDiff, reduceCtorEq, Int.reduceToNat, Int.reduceLT, Int.reduceLE, Int.reduceEq, Int.reduceNeg, Int.reduceBEq, Int.reduceBNe, String.reduceEq, forall_const, ↓vmDA, vmVA, ↓vmQA, vmR, vmRA, ↓vmSA, vmSV, tyS, nuE, SubA.skip, SubA.refl, fr.2, vbRkC, lt]
  | cons x l ih =>
    obtain ⟨ha, hlt, hd', htk⟩ := drop_some hd
    have lt : ((e : Int) < (L.length : Int)) = True := eq_true (by omega)
    have li : ((e : Int) < 0) = False := eq_false (by omega)
    have we : IntKind.i64.wrap ((e : Int) + 1) = ((e + 1 : Nat) : Int) := by rw [w_i64 (by omega) (by omega)]; omega
    obtain ⟨bk, off, cs, ty, fr0, hp0, hbk, hcr, hcc⟩ := h1.at ha
    obtain ⟨bk2, off2, cs2, ty2, fr2, hp2, hbk2, hcr2, hcc2⟩ := h2.at ha
    subst hp0
    subst hp2
    have hc0 : cs[off + e * 1]? = some (.int .i64 x) := hcc 0 _ rfl
    have hc2 : cs2[off2 + e * 1]? = some (.int .i64 x) := hcc2 0 _ rfl
    refine LoopA.intro (by kernel_rfl) ?_
    intro ν fr; have nuE := fr.nu
    simp (maxDischargeDepth := 16) only [argE_nil, argE_cons, ↓vmD, vmV, vmStd, Nat.reduceMul, ↓reduceIte, Nat.reduceAdd, Nat.reduceSub, Nat.reduceEqDiff, Nat.reduceLT, Nat.reduceLeDiff, reduceCtorEq, Int.reduceToNat, Int.reduceLT, Int.reduceLE, Int.reduceEq, Int.reduceNeg, Int.reduceBEq, Int.reduceBNe, String.reduceEq, forall_const, ↓vmDA, vmVA, ↓vmQA, vmR, vmRA, ↓vmSA, vmSV, tyS, nuE, SubA.skip, SubA.refl, fr.2, vbRkC, lt, li, hbk, hbk2, hc0, hc2, we]
    exact LoopA.weak (ih (e + 1) hd' (by omega)) (by simp only [subE, get_cons, Nat.reduceEqDiff, ↓reduceIte, reduceCtorEq, Nat.reduceAdd, and_self, and_true]) (SubA.refl _)
theorem eqInts_w (A : AH) (L : List Int) (p : Option Addr) (cap : Nat) (q : Option Addr) (qcap : Nat) (h1 : StR intC 1 A p L) (h2 : StR intC 1 A q L) (hl : L.length ≤ 1000) (B_ : AH) (hB_ : SubA A B_) : valA Tryz.prog 16 #[.slice p L.length cap, .slice q L.length qcap] B_ = some (.bool true) := valA_eq (pureA_at (by kernel_rfl) (eqInts_h A L p cap q qcap h1 h2 hl) hB_)
theorem eqInts_v (A : AH) (L : List Int) (p : Option Addr) (cap : Nat) (q : Option Addr) (qcap : Nat) (h1 : StR intC 1 A p L) (h2 : StR intC 1 A q L) (hl : L.length ≤ 1000) : valA Tryz.prog 16 #[.slice p L.length cap, .slice q L.length qcap] A = some (.bool true) := valA_eq (pureA_at (by kernel_rfl) (eqInts_h A L p cap q qcap h1 h2 hl) (SubA.refl _))
theorem eqTexts_h (A : AH) (L : List Txt) (p : Option Addr) (cap : Nat) (q : Option Addr) (qcap : Nat) (h1 : StR strC 1 A p L) (h2 : StR strC 1 A q L) (hl : L.length ≤ 1000) : CallA Tryz.prog 8 #[.slice p L.length cap, .slice q L.length qcap] A (fun u_ A_ => u_ = .bool true ∧ SubA A A_) := by
  refine callA_of_denA ⟨Tryz.prog, 8, Tryz.f8, 26, [0, 1, 4, 5], [], [(6, .q false)], _⟩ (args := [_, _]) Tryz.func8 rfl (by kernel_rfl) Tryz.ntmps8 (by simp) (by kernel_rfl) ?_
  intro ν fr; have nuE := fr.nu
  simp (maxDischargeDepth := 16) only [argE_nil, argE_cons, ↓vmD, vmV, vmStd, Nat.reduceMul, ↓reduceIte, Nat.reduceAdd, Nat.reduceSub, Nat.reduceEqDiff, Nat.reduceLT, Nat.reduceLeDiff, reduceCtorEq, Int.reduceToNat, Int.reduceLT, Int.reduceLE, Int.reduceEq, Int.reduceNeg, Int.reduceBEq, Int.reduceBNe, String.reduceEq, forall_const, ↓vmDA, vmVA, ↓vmQA, vmR, vmRA, ↓vmSA, vmSV, tyS, nuE, SubA.skip, SubA.refl, fr.2, vbRkC]
  obtain ⟨e, l, he, hd, hle⟩ : ∃ (e : Nat) (l : List Txt), e = 0 ∧ l = L.drop e ∧ e ≤ L.length := ⟨0, L, rfl, rfl, by omega⟩
  rw [show (5, some (Value.int .i64 0)) = (5, some (Value.int .i64 (e : Int))) by rw [he]; rfl]
  clear he nuE fr
  induction l generalizing e with
  | nil =>
    obtain ⟨hn1, hn2⟩ := drop_nil hd hle
    have lt : ((e : Int) < (L.length : Int)) = False := eq_false (by omega)
    refine LoopA.intro (by kernel_rfl) ?_
    intro ν fr; have nuE := fr.nu
    simp (maxDischargeDepth := 16) only [argE_nil, argE_cons, ↓vmD, vmV, vmStd, Nat.reduceMul, ↓reduceIte, Nat.reduceAdd, Nat.reduceSub, Nat.reduceEqDiff, Nat.reduceLT, Nat.reduceLeDiff, reduceCtorEq, Int.reduceToNat, Int.reduceLT, Int.reduceLE, Int.reduceEq, Int.reduceNeg, Int.reduceBEq, Int.reduceBNe, String.reduceEq, forall_const, ↓vmDA, vmVA, ↓vmQA, vmR, vmRA, ↓vmSA, vmSV, tyS, nuE, SubA.skip, SubA.refl, fr.2, vbRkC, lt]
  | cons x l ih =>
    obtain ⟨ha, hlt, hd', htk⟩ := drop_some hd
    have lt : ((e : Int) < (L.length : Int)) = True := eq_true (by omega)
    have li : ((e : Int) < 0) = False := eq_false (by omega)
    have we : IntKind.i64.wrap ((e : Int) + 1) = ((e + 1 : Nat) : Int) := by rw [w_i64 (by omega) (by omega)]; omega
    obtain ⟨bk, off, cs, ty, fr0, hp0, hbk, hcr, hcc⟩ := h1.at ha
    obtain ⟨bk2, off2, cs2, ty2, fr2, hp2, hbk2, hcr2, hcc2⟩ := h2.at ha
    subst hp0
    subst hp2
    have hc0 : cs[off + e * 1]? = some (.string (bs x)) := hcc 0 _ rfl
    have hc2 : cs2[off2 + e * 1]? = some (.string (bs x)) := hcc2 0 _ rfl
    refine LoopA.intro (by kernel_rfl) ?_
    intro ν fr; have nuE := fr.nu
    simp (maxDischargeDepth := 16) only [argE_nil, argE_cons, ↓vmD, vmV, vmStd, Nat.reduceMul, ↓reduceIte, Nat.reduceAdd, Nat.reduceSub, Nat.reduceEqDiff, Nat.reduceLT, Nat.reduceLeDiff, reduceCtorEq, Int.reduceToNat, Int.reduceLT, Int.reduceLE, Int.reduceEq, Int.reduceNeg, Int.reduceBEq, Int.reduceBNe, String.reduceEq, forall_const, ↓vmDA, vmVA, ↓vmQA, vmR, vmRA, ↓vmSA, vmSV, tyS, nuE, SubA.skip, SubA.refl, fr.2, vbRkC, lt, li, hbk, hbk2, hc0, hc2, we]
    exact LoopA.weak (ih (e + 1) hd' (by omega)) (by simp only [subE, get_cons, Nat.reduceEqDiff, ↓reduceIte, reduceCtorEq, Nat.reduceAdd, and_self, and_true]) (SubA.refl _)
theorem eqTexts_w (A : AH) (L : List Txt) (p : Option Addr) (cap : Nat) (q : Option Addr) (qcap : Nat) (h1 : StR strC 1 A p L) (h2 : StR strC 1 A q L) (hl : L.length ≤ 1000) (B_ : AH) (hB_ : SubA A B_) : valA Tryz.prog 8 #[.slice p L.length cap, .slice q L.length qcap] B_ = some (.bool true) := valA_eq (pureA_at (by kernel_rfl) (eqTexts_h A L p cap q qcap h1 h2 hl) hB_)
theorem eqTexts_v (A : AH) (L : List Txt) (p : Option Addr) (cap : Nat) (q : Option Addr) (qcap : Nat) (h1 : StR strC 1 A p L) (h2 : StR strC 1 A q L) (hl : L.length ≤ 1000) : valA Tryz.prog 8 #[.slice p L.length cap, .slice q L.length qcap] A = some (.bool true) := valA_eq (pureA_at (by kernel_rfl) (eqTexts_h A L p cap q qcap h1 h2 hl) (SubA.refl _))
theorem eqCases_h (A : AH) (L : List Ca) (p : Option Addr) (cap : Nat) (q : Option Addr) (qcap : Nat) (h1 : StR caC 10 A p L) (h2 : StR caC 10 A q L) (hl : L.length ≤ 1000) : CallA Tryz.prog 21 #[.slice p L.length cap, .slice q L.length qcap] A (fun u_ A_ => u_ = .bool true ∧ SubA A A_) := by
  refine callA_of_denA ⟨Tryz.prog, 21, Tryz.f21, 26, [0, 1, 4, 5], [], [(6, .q false)], _⟩ (args := [_, _]) Tryz.func21 rfl (by kernel_rfl) Tryz.ntmps21 (by simp) (by kernel_rfl) ?_
  intro ν fr; have nuE := fr.nu
  simp (maxDischargeDepth := 16) only [argE_nil, argE_cons, ↓vmD, vmV, vmStd, Nat.reduceMul, ↓reduceIte, Nat.reduceAdd, Nat.reduceSub, Nat.reduceEqDiff, Nat.reduceLT, Nat.reduceLeDiff, reduceCtorEq, Int.reduceToNat, Int.reduceLT, Int.reduceLE, Int.reduceEq, Int.reduceNeg, Int.reduceBEq, Int.reduceBNe, String.reduceEq, forall_const, ↓vmDA, vmVA, ↓vmQA, vmR, vmRA, ↓vmSA, vmSV, tyS, nuE, SubA.skip, SubA.refl, fr.2, vbRkC]
  obtain ⟨e, l, he, hd, hle⟩ : ∃ (e : Nat) (l : List Ca), e = 0 ∧ l = L.drop e ∧ e ≤ L.length := ⟨0, L, rfl, rfl, by omega⟩
  rw [show (5, some (Value.int .i64 0)) = (5, some (Value.int .i64 (e : Int))) by rw [he]; rfl]
  clear he nuE fr
  induction l generalizing e with
  | nil =>
    obtain ⟨hn1, hn2⟩ := drop_nil hd hle
    have lt : ((e : Int) < (L.length : Int)) = False := eq_false (by omega)
    refine LoopA.intro (by kernel_rfl) ?_
    intro ν fr; have nuE := fr.nu
    simp (maxDischargeDepth := 16) only [argE_nil, argE_cons, ↓vmD, vmV, vmStd, Nat.reduceMul, ↓reduceIte, Nat.reduceAdd, Nat.reduceSub, Nat.reduceEqDiff, Nat.reduceLT, Nat.reduceLeDiff, reduceCtorEq, Int.reduceToNat, Int.reduceLT, Int.reduceLE, Int.reduceEq, Int.reduceNeg, Int.reduceBEq, Int.reduceBNe, String.reduceEq, forall_const, ↓vmDA, vmVA, ↓vmQA, vmR, vmRA, ↓vmSA, vmSV, tyS, nuE, SubA.skip, SubA.refl, fr.2, vbRkC, lt]
  | cons x l ih =>
    obtain ⟨ha, hlt, hd', htk⟩ := drop_some hd
    have lt : ((e : Int) < (L.length : Int)) = True := eq_true (by omega)
    have li : ((e : Int) < 0) = False := eq_false (by omega)
    have we : IntKind.i64.wrap ((e : Int) + 1) = ((e + 1 : Nat) : Int) := by rw [w_i64 (by omega) (by omega)]; omega
    obtain ⟨bk, off, cs, ty, fr0, hp0, hbk, hcr, hcc⟩ := h1.at ha
    obtain ⟨bk2, off2, cs2, ty2, fr2, hp2, hbk2, hcr2, hcc2⟩ := h2.at ha
    subst hp0
    subst hp2
    simp only [caC] at hcr hcr2
    refine LoopA.intro (by kernel_rfl) ?_
    intro ν fr; have nuE := fr.nu
    simp (maxDischargeDepth := 16) only [argE_nil, argE_cons, ↓vmD, vmV, vmStd, Nat.reduceMul, ↓reduceIte, Nat.reduceAdd, Nat.reduceSub, Nat.reduceEqDiff, Nat.reduceLT, Nat.reduceLeDiff, reduceCtorEq, Int.reduceToNat, Int.reduceLT, Int.reduceLE, Int.reduceEq, Int.reduceNeg, Int.reduceBEq, Int.reduceBNe, String.reduceEq, forall_const, ↓vmDA, vmVA, ↓vmQA, vmR, vmRA, ↓vmSA, vmSV, tyS, nuE, SubA.skip, SubA.refl, fr.2, vbRkC, lt, li, hbk, hbk2, hcr, hcr2, we]
    exact LoopA.weak (ih (e + 1) hd' (by omega)) (by simp only [subE, get_cons, Nat.reduceEqDiff, ↓reduceIte, reduceCtorEq, Nat.reduceAdd, and_self, and_true]) (SubA.refl _)
theorem eqCases_w (A : AH) (L : List Ca) (p : Option Addr) (cap : Nat) (q : Option Addr) (qcap : Nat) (h1 : StR caC 10 A p L) (h2 : StR caC 10 A q L) (hl : L.length ≤ 1000) (B_ : AH) (hB_ : SubA A B_) : valA Tryz.prog 21 #[.slice p L.length cap, .slice q L.length qcap] B_ = some (.bool true) := valA_eq (pureA_at (by kernel_rfl) (eqCases_h A L p cap q qcap h1 h2 hl) hB_)
theorem eqCases_v (A : AH) (L : List Ca) (p : Option Addr) (cap : Nat) (q : Option Addr) (qcap : Nat) (h1 : StR caC 10 A p L) (h2 : StR caC 10 A q L) (hl : L.length ≤ 1000) : valA Tryz.prog 21 #[.slice p L.length cap, .slice q L.length qcap] A = some (.bool true) := valA_eq (pureA_at (by kernel_rfl) (eqCases_h A L p cap q qcap h1 h2 hl) (SubA.refl _))
theorem nilGet_h (a : ByteArray) : CallA Tryz.prog 14 #[.pointer none, .string a] [] (fun u_ _ => u_ = .tuple #[caAgg noCa, .bool false]) := by
  refine callA_of_denA ⟨Tryz.prog, 14, Tryz.f14, 31, [0, 1, 4, 5, 6, 7], [], [], _⟩ (args := [_, _]) Tryz.func14 rfl (by kernel_rfl) Tryz.ntmps14 (by simp) (by kernel_rfl) ?_
  intro ν fr; have nuE := fr.nu
  simp (maxDischargeDepth := 16) only [argE_nil, argE_cons, ↓vmD, vmV, vmStd, Nat.reduceMul, ↓reduceIte, Nat.reduceAdd, Nat.reduceSub, Nat.reduceEqDiff, Nat.reduceLT, Nat.reduceLeDiff, reduceCtorEq, Int.reduceToNat, Int.reduceLT, Int.reduceLE, Int.reduceEq, Int.reduceNeg, Int.reduceBEq, Int.reduceBNe, String.reduceEq, forall_const, ↓vmDA, vmVA, ↓vmQA, vmR, vmRA, ↓vmSA, vmSV, tyS, nuE, SubA.skip, SubA.refl, fr.2, vbRkC, caAgg, noCa]
  rfl
theorem nilGet_v (a : ByteArray) (A_ : AH) : valA Tryz.prog 14 #[.pointer none, .string a] A_ = some (.tuple #[caAgg noCa, .bool false]) := valA_eq (pureA_of (by kernel_rfl) (nilGet_h a))
theorem nilOpen_h (a b c d e f g i u : ByteArray) (k n m o x y : Int) (z : Bool) (p : Option Addr) (l1 l2 : Nat) : CallA Tryz.prog 24 #[.pointer none, .string a, .agg #[.int .i64 k, .string b, .string c, .string d, .string e, .string f, .string g, .int .i64 n, .string i, .int .i64 m, .int .i64 o, .bool z], .string u, .int .i64 x, .int .i64 y, .slice p l1 l2] [] (fun u_ _ => u_ = .int .i64 6) := by
  refine callA_of_denA ⟨Tryz.prog, 24, Tryz.f24, 100, [0, 1, 2, 3, 4, 5, 6, 9, 14, 16, 17, 18], [], [(14, .p [(0, 0), (1, 0), (2, 0), (3, 0), (4, 0), (5, 0), (6, 0), (7, 0), (8, 0), (9, 0), (10, 2)]), (15, .p [(0, 0), (1, 0), (2, 0), (3, 0), (4, 0), (5, 0), (6, 0), (7, 0), (8, 1), (9, 0), (10, 0), (11, 2)]), (16, .q false)], _⟩ (args := [_, _, _, _, _, _, _]) Tryz.func24 rfl (by kernel_rfl) Tryz.ntmps24 (by simp) (by kernel_rfl) ?_
  intro ν fr; have nuE := fr.nu
  simp (maxDischargeDepth := 16) only [argE_nil, argE_cons, ↓vmD, vmV, vmStd, Nat.reduceMul, ↓reduceIte, Nat.reduceAdd, Nat.reduceSub, Nat.reduceEqDiff, Nat.reduceLT, Nat.reduceLeDiff, reduceCtorEq, Int.reduceToNat, Int.reduceLT, Int.reduceLE, Int.reduceEq, Int.reduceNeg, Int.reduceBEq, Int.reduceBNe, String.reduceEq, forall_const, ↓vmDA, vmVA, ↓vmQA, vmR, vmRA, ↓vmSA, vmSV, tyS, nuE, SubA.skip, SubA.refl, fr.2, vbRkC, nilGet_v]
theorem nilOpen_v (a b c d e f g i u : ByteArray) (k n m o x y : Int) (z : Bool) (p : Option Addr) (l1 l2 : Nat) (A_ : AH) : valA Tryz.prog 24 #[.pointer none, .string a, .agg #[.int .i64 k, .string b, .string c, .string d, .string e, .string f, .string g, .int .i64 n, .string i, .int .i64 m, .int .i64 o, .bool z], .string u, .int .i64 x, .int .i64 y, .slice p l1 l2] A_ = some (.int .i64 6) := valA_eq (pureA_of (by kernel_rfl) (nilOpen_h a b c d e f g i u k n m o x y z p l1 l2))
theorem nilStep_h (a : ByteArray) (x y : Int) (p : Option Addr) (l1 l2 : Nat) : CallA Tryz.prog 25 #[.pointer none, .string a, .int .i64 x, .int .i64 y, .slice p l1 l2] [] (fun u_ _ => u_ = .int .i64 6) := by
  refine callA_of_denA ⟨Tryz.prog, 25, Tryz.f25, 107, [0, 1, 2, 3, 4, 10, 11, 12, 13, 14, 15, 16, 17], [], [(18, .p [(0, 0), (1, 0), (2, 0), (3, 0), (4, 0), (5, 0), (6, 0), (7, 0), (8, 0), (9, 0), (10, 0), (11, 0), (12, 0), (13, 1), (14, 2), (15, 0)])], _⟩ (args := [_, _, _, _, _]) Tryz.func25 rfl (by kernel_rfl) Tryz.ntmps25 (by simp) (by kernel_rfl) ?_
  intro ν fr; have nuE := fr.nu
  simp (maxDischargeDepth := 16) only [argE_nil, argE_cons, ↓vmD, vmV, vmStd, Nat.reduceMul, ↓reduceIte, Nat.reduceAdd, Nat.reduceSub, Nat.reduceEqDiff, Nat.reduceLT, Nat.reduceLeDiff, reduceCtorEq, Int.reduceToNat, Int.reduceLT, Int.reduceLE, Int.reduceEq, Int.reduceNeg, Int.reduceBEq, Int.reduceBNe, String.reduceEq, forall_const, ↓vmDA, vmVA, ↓vmQA, vmR, vmRA, ↓vmSA, vmSV, tyS, nuE, SubA.skip, SubA.refl, fr.2, vbRkC, nilGet_v, nilOpen_v]
theorem nilStep_v (a : ByteArray) (x y : Int) (p : Option Addr) (l1 l2 : Nat) (A_ : AH) : valA Tryz.prog 25 #[.pointer none, .string a, .int .i64 x, .int .i64 y, .slice p l1 l2] A_ = some (.int .i64 6) := valA_eq (pureA_of (by kernel_rfl) (nilStep_h a x y p l1 l2))
theorem nilExp_h (x : Int) : CallA Tryz.prog 9 #[.pointer none, .int .i64 x] [] (fun u_ _ => u_ = .slice none 0 0) := by
  refine callA_of_denA ⟨Tryz.prog, 9, Tryz.f9, 69, [0, 1, 4, 5, 6, 7, 8, 9, 24, 25], [], [], _⟩ (args := [_, _]) Tryz.func9 rfl (by kernel_rfl) Tryz.ntmps9 (by simp) (by kernel_rfl) ?_
  intro ν fr; have nuE := fr.nu
  simp (maxDischargeDepth := 16) only [argE_nil, argE_cons, ↓vmD, vmV, vmStd, Nat.reduceMul, ↓reduceIte, Nat.reduceAdd, Nat.reduceSub, Nat.reduceEqDiff, Nat.reduceLT, Nat.reduceLeDiff, reduceCtorEq, Int.reduceToNat, Int.reduceLT, Int.reduceLE, Int.reduceEq, Int.reduceNeg, Int.reduceBEq, Int.reduceBNe, String.reduceEq, forall_const, ↓vmDA, vmVA, ↓vmQA, vmR, vmRA, ↓vmSA, vmSV, tyS, nuE, SubA.skip, SubA.refl, fr.2, vbRkC, nilGet_v, nilOpen_v, nilStep_v]
theorem nilExp_v (x : Int) (A_ : AH) : valA Tryz.prog 9 #[.pointer none, .int .i64 x] A_ = some (.slice none 0 0) := valA_eq (pureA_of (by kernel_rfl) (nilExp_h x))
theorem nilCases_h : CallA Tryz.prog 22 #[.pointer none] [] (fun u_ _ => u_ = .slice none 0 0) := by
  refine callA_of_denA ⟨Tryz.prog, 22, Tryz.f22, 24, [0, 2, 3, 5, 11, 12, 13], [], [], _⟩ (args := [_]) Tryz.func22 rfl (by kernel_rfl) Tryz.ntmps22 (by simp) (by kernel_rfl) ?_
  intro ν fr; have nuE := fr.nu
  simp (maxDischargeDepth := 16) only [argE_nil, argE_cons, ↓vmD, vmV, vmStd, Nat.reduceMul, ↓reduceIte, Nat.reduceAdd, Nat.reduceSub, Nat.reduceEqDiff, Nat.reduceLT, Nat.reduceLeDiff, reduceCtorEq, Int.reduceToNat, Int.reduceLT, Int.reduceLE, Int.reduceEq, Int.reduceNeg, Int.reduceBEq, Int.reduceBNe, String.reduceEq, forall_const, ↓vmDA, vmVA, ↓vmQA, vmR, vmRA, ↓vmSA, vmSV, tyS, nuE, SubA.skip, SubA.refl, fr.2, vbRkC, nilGet_v, nilOpen_v, nilStep_v, nilExp_v]
theorem nilCases_v (A_ : AH) : valA Tryz.prog 22 #[.pointer none] A_ = some (.slice none 0 0) := valA_eq (pureA_of (by kernel_rfl) (nilCases_h ))
theorem nilHist_h (a : ByteArray) : CallA Tryz.prog 17 #[.pointer none, .string a] [] (fun u_ _ => u_ = .slice none 0 0) := by
  refine callA_of_denA ⟨Tryz.prog, 17, Tryz.f17, 29, [0, 1, 4, 5, 6], [], [], _⟩ (args := [_, _]) Tryz.func17 rfl (by kernel_rfl) Tryz.ntmps17 (by simp) (by kernel_rfl) ?_
  intro ν fr; have nuE := fr.nu
  simp (maxDischargeDepth := 16) only [argE_nil, argE_cons, ↓vmD, vmV, vmStd, Nat.reduceMul, ↓reduceIte, Nat.reduceAdd, Nat.reduceSub, Nat.reduceEqDiff, Nat.reduceLT, Nat.reduceLeDiff, reduceCtorEq, Int.reduceToNat, Int.reduceLT, Int.reduceLE, Int.reduceEq, Int.reduceNeg, Int.reduceBEq, Int.reduceBNe, String.reduceEq, forall_const, ↓vmDA, vmVA, ↓vmQA, vmR, vmRA, ↓vmSA, vmSV, tyS, nuE, SubA.skip, SubA.refl, fr.2, vbRkC, nilGet_v, nilOpen_v, nilStep_v, nilExp_v, nilCases_v]
theorem nilHist_v (a : ByteArray) (A_ : AH) : valA Tryz.prog 17 #[.pointer none, .string a] A_ = some (.slice none 0 0) := valA_eq (pureA_of (by kernel_rfl) (nilHist_h a))
theorem nilDisp_h (a : ByteArray) : CallA Tryz.prog 19 #[.pointer none, .string a] [] (fun u_ _ => u_ = .int .i64 0) := by
  refine callA_of_denA ⟨Tryz.prog, 19, Tryz.f19, 38, [0, 1, 4, 5, 7, 13, 14, 15], [], [], _⟩ (args := [_, _]) Tryz.func19 rfl (by kernel_rfl) Tryz.ntmps19 (by simp) (by kernel_rfl) ?_
  intro ν fr; have nuE := fr.nu
  simp (maxDischargeDepth := 16) only [argE_nil, argE_cons, ↓vmD, vmV, vmStd, Nat.reduceMul, ↓reduceIte, Nat.reduceAdd, Nat.reduceSub, Nat.reduceEqDiff, Nat.reduceLT, Nat.reduceLeDiff, reduceCtorEq, Int.reduceToNat, Int.reduceLT, Int.reduceLE, Int.reduceEq, Int.reduceNeg, Int.reduceBEq, Int.reduceBNe, String.reduceEq, forall_const, ↓vmDA, vmVA, ↓vmQA, vmR, vmRA, ↓vmSA, vmSV, tyS, nuE, SubA.skip, SubA.refl, fr.2, vbRkC, nilGet_v, nilOpen_v, nilStep_v, nilExp_v, nilCases_v, nilHist_v]
theorem nilDisp_v (a : ByteArray) (A_ : AH) : valA Tryz.prog 19 #[.pointer none, .string a] A_ = some (.int .i64 0) := valA_eq (pureA_of (by kernel_rfl) (nilDisp_h a))
set_option linter.unusedSimpArgs false
set_option linter.unusedVariables false
set_option maxHeartbeats 4000000
set_option maxRecDepth 20000
theorem rnew_n (A : AH) (L : List Rs) (p : Option Addr) (cap : Nat) (hL : RsR A p L) (hl : L.length ≤ cap ∧ cap ≤ 9223372036854775807) : CallA Tryz.prog 7 #[.slice p L.length cap] A fun u D => ∃ v B, u = v ∧ ((chkE (L.map Rs.d) ≠ 0 ∧ v = .tuple #[.pointer none, .int .i64 (chkE (L.map Rs.d))]) ∨ (chkE (L.map Rs.d) = 0 ∧ ∃ db, v = .tuple #[.pointer (some ⟨db, 0, none⟩), .int .i64 0] ∧ RkP B db (.slice none 0 0) p cap L [])) ∧ Dis B A ∧ SubA (B ++ A) D :=
  (rnewD_h A L p cap hL hl).mono fun u D h => by
    rcases h with ⟨h1, h2, h3⟩ | ⟨h1, db, E, h2, h3, h5, h6⟩
    · exact ⟨u, [], rfl, .inl ⟨h1, h2⟩, Dis.nil _, h3⟩
    · exact ⟨u, E, rfl, .inr ⟨h1, db, h2, h3⟩, h5, h6⟩
theorem nil_n {P : Program} {g : FuncId} {args : Array Value} {v : Value} {A : AH} (h : CallA P g args [] fun u _ => u = v) : CallA P g args A fun u D => ∃ w B, u = w ∧ w = v ∧ Dis B A ∧ SubA (B ++ A) D :=
  CallA.useX h (SubA.nil A) A (SubA.refl A) (fun x hx => rfl) fun w D hw hd => ⟨[], SubA.nil _, w, [], rfl, hw, Dis.nil _, SubA.refl _⟩
theorem pure_n {P : Program} {g : FuncId} {args : Array Value} {v : Value} {A : AH} (h : CallA P g args A fun u D => u = v ∧ SubA A D) : CallA P g args A fun u D => ∃ w B, u = w ∧ w = v ∧ Dis B A ∧ SubA (B ++ A) D :=
  h.mono fun u D ⟨h1, h2⟩ => ⟨u, [], rfl, h1, Dis.nil _, h2⟩
theorem hist_len {F : List Fd} (hF : FdsOk F) (id : Txt) : (histX id F).length ≤ 6 := by
  unfold histX
  cases posF id F with
  | none => simp
  | some i =>
    simp only
    cases hf : F[i]? with
    | none => simp
    | some f =>
      obtain ⟨a1, a2, a3, _⟩ := hF.1 f (List.mem_of_getElem? hf)
      simp only
      omega
theorem expS {E A : AH} {db : Nat} {fv : Value} {R : List Rs} {F : List Fo} (hE : DkP E db fv R F) (hEA : Dis E A) (hF : FdsOk (F.map Fo.d)) (date : Int) : CallA Tryz.prog 9 #[.pointer (some ⟨db, 0, none⟩), .int .i64 date] (E ++ A) fun u D => ∃ B E', (OwnL strC 1 9 u B (expX (R.map Rs.d) (F.map Fo.d) date).1 ∧ ∃ F', DkP E' db fv R F' ∧ F'.map Fo.d = (expX (R.map Rs.d) (F.map Fo.d) date).2) ∧ Dis E' (B ++ A) ∧ Dis B A ∧ SubA (E' ++ (B ++ A)) D :=
  (expP_h E A db fv R F hE hEA hF date).mono fun u D ⟨B, E', F', h1, h2, h3, h4, h5, h6⟩ => ⟨B, E', ⟨h1, F', h2, h3⟩, h4, h5, h6⟩
theorem rexpS {E A : AH} {db : Nat} {fv : Value} {rp : Option Addr} {rcap : Nat} {R : List Rs} {F : List Fo} (hE : RkP E db fv rp rcap R F) (hEA : Dis E A) (hR : RsR A rp R) (hRl : R.length ≤ 32) (hF : FdsOk (F.map Fo.d)) (date : Int) : CallA Tryz.prog 10 #[.pointer (some ⟨db, 0, none⟩), .int .i64 date] (E ++ A) fun u D => ∃ B E', (OwnL strC 1 9 u B (expX (R.map Rs.d) (F.map Fo.d) date).1 ∧ ∃ F', RkP E' db fv rp rcap R F' ∧ F'.map Fo.d = (expX (R.map Rs.d) (F.map Fo.d) date).2) ∧ Dis E' (B ++ A) ∧ Dis B A ∧ SubA (E' ++ (B ++ A)) D :=
  (rexp_h E A db fv rp rcap R F hE hEA hR hRl hF date).mono fun u D ⟨B, E', F', h1, h2, h3, h4, h5, h6⟩ => ⟨B, E', ⟨h1, F', h2, h3⟩, h4, h5, h6⟩
theorem qS {P : Program} {g : FuncId} {args : Array Value} {E A : AH} {db : Nat} {R : List Rs} {D0 : List Fd} {q : Int × List Fd} (h : CallA P g args (E ++ A) fun u D => OpenP A db R D0 u D q) : CallA P g args (E ++ A) fun u D => ∃ E', (u = .int .i64 q.1 ∧ ∃ fv' F', DkP E' db fv' R F' ∧ F'.map Fo.d = q.2) ∧ Dis E' A ∧ SubA (E' ++ A) D :=
  h.mono fun u D ⟨h0, E', fv', F', h1, h2, h3, h4⟩ => ⟨E', ⟨h0, fv', F', h1, h2⟩, h3, h4⟩
theorem rqS {P : Program} {g : FuncId} {args : Array Value} {E A : AH} {db : Nat} {rp : Option Addr} {rcap : Nat} {R : List Rs} {q : Int × List Fd} (h : CallA P g args (E ++ A) fun u D => RkQ A db rp rcap R u D q) : CallA P g args (E ++ A) fun u D => ∃ E', (u = .int .i64 q.1 ∧ ∃ fv' F', RkP E' db fv' rp rcap R F' ∧ F'.map Fo.d = q.2) ∧ Dis E' A ∧ SubA (E' ++ A) D :=
  h.mono fun u D ⟨h0, E', fv', F', h1, h2, h3, h4⟩ => ⟨E', ⟨h0, fv', F', h1, h2⟩, h3, h4⟩
theorem rhist_n {E : AH} {db : Nat} {fv : Value} {rp : Option Addr} {rcap : Nat} {R : List Rs} {F : List Fo} (hE : RkP E db fv rp rcap R F) (hF : F.length ≤ 64) (id : Txt) : CallA Tryz.prog 18 #[.pointer (some ⟨db, 0, none⟩), .string (bs id)] E fun u D => ∃ v B, u = v ∧ (∃ p cap, v = .slice p (histX id (F.map Fo.d)).length cap ∧ StR intC 1 E p (histX id (F.map Fo.d))) ∧ Dis B E ∧ SubA (B ++ E) D :=
  (rhistD_h E db fv rp rcap R F hE hF id).mono fun u D ⟨p, cap, h1, h2, h3⟩ => ⟨u, [], rfl, ⟨p, cap, h1, h2⟩, Dis.nil _, h3⟩
/-- The texts of a call are not too long for a machine. -/
def SzD (x : DoT) : Prop := (bs x.r.id).size ≤ 9223372036854775807 ∧ (bs x.r.au).size ≤ 9223372036854775807 ∧ (bs x.r.me).size ≤ 9223372036854775807
def odoB (x : DoT) : Obj := (Obj.cells #[.int .u8 (x.kd : Int), .string (bs x.id), .string (bs x.code), .int .i64 x.r.kd, .string (bs x.r.id), .string (bs x.r.au), .string (bs x.r.aq), .string (bs x.r.is), .string (bs x.r.me), .string (bs x.r.ca), .int .i64 x.r.am, .string (bs x.r.cu), .int .i64 x.r.da, .int .i64 x.r.ct, .bool x.r.fi, .int .i64 x.am, .int .i64 x.ev, .int .i64 x.dt, .slice x.ip x.its.length x.ic] 39)
def ogcB (c : Ca) : Obj := (Obj.cells #[.string (bs c.id), .string (bs c.rcd), .string (bs c.rea), .string (bs c.iss), .string (bs c.acq), .int .i64 c.amt, .string (bs c.cur), .int .i64 c.st, .int .i64 c.op, .int .i64 c.du] 47)
theorem desksLaw_h (A : AH) (L : List Rs) (p : Option Addr) (cap : Nat) (hL : RsR A p L) (hl : L.length ≤ cap ∧ cap ≤ 9223372036854775807) (M : List DoT) (q : Option Addr) (qcap : Nat) (hM : DoR A q M) (hz : ∀ x ∈ M, SzD x) : CallA Tryz.prog 3 #[.slice p L.length cap, .slice q M.length qcap] A (fun u_ A_ => u_ = .bool true ∧ SubA A A_) := by
  refine callA_of_denA ⟨Tryz.prog, 3, Tryz.f3, 200, [0, 1, 4, 5, 6, 7, 8, 9, 10, 11, 12, 13, 14, 15, 16, 18], [4, 6, 7, 13, 9, 22, 17, 11, 12, 10, 23, 18, 16, 8, 21, 19, 20], [], _⟩ (args := [_, _]) Tryz.func3 rfl (by kernel_rfl) Tryz.ntmps3 (by simp) (by kernel_rfl) ?_
  intro ν fr; have nuE := fr.nu
  simp (maxDischargeDepth := 16) only [argE_nil, argE_cons, ↓vmD, vmV, vmStd, Nat.reduceMul, ↓reduceIte, Nat.reduceAdd, Nat.reduceSub, Nat.reduceEqDiff, Nat.reduceLT, Nat.reduceLeDiff, reduceCtorEq, Int.reduceToNat, Int.reduceLT, Int.reduceLE, Int.reduceEq, Int.reduceNeg, Int.reduceBEq, Int.reduceBNe, String.reduceEq, forall_const, ↓vmDA, vmVA, ↓vmQA, vmR, vmRA, ↓vmSA, vmSV, tyS, nuE, SubA.skip, SubA.refl, fr.2, vbRkC, nilGet_v, nilOpen_v, nilStep_v, nilExp_v, nilCases_v, nilHist_v, nilDisp_v]
  refine CallA.newX (small_n A L p cap hL M q qcap hM) (SubA.refl A) ?_
  rintro v B ⟨b, rfl, hb⟩ hd
  refine ⟨A, hd.right, ?_⟩
  intro ν fr; have nuE := fr.nu
  cases b with
  | false => simp (maxDischargeDepth := 16) only [argE_nil, argE_cons, ↓vmD, vmV, vmStd, Nat.reduceMul, ↓reduceIte, Nat.reduceAdd, Nat.reduceSub, Nat.reduceEqDiff, Nat.reduceLT, Nat.reduceLeDiff, reduceCtorEq, Int.reduceToNat, Int.reduceLT, Int.reduceLE, Int.reduceEq, Int.reduceNeg, Int.reduceBEq, Int.reduceBNe, String.reduceEq, forall_const, ↓vmDA, vmVA, ↓vmQA, vmR, vmRA, ↓vmSA, vmSV, tyS, nuE, SubA.skip, SubA.refl, fr.2, vbRkC, nilGet_v, nilOpen_v, nilStep_v, nilExp_v, nilCases_v, nilHist_v, nilDisp_v]
  | true =>
  obtain ⟨h40, h80⟩ := hb rfl
  simp (maxDischargeDepth := 16) only [argE_nil, argE_cons, ↓vmD, vmV, vmStd, Nat.reduceMul, ↓reduceIte, Nat.reduceAdd, Nat.reduceSub, Nat.reduceEqDiff, Nat.reduceLT, Nat.reduceLeDiff, reduceCtorEq, Int.reduceToNat, Int.reduceLT, Int.reduceLE, Int.reduceEq, Int.reduceNeg, Int.reduceBEq, Int.reduceBNe, String.reduceEq, forall_const, ↓vmDA, vmVA, ↓vmQA, vmR, vmRA, ↓vmSA, vmSV, tyS, nuE, SubA.skip, SubA.refl, fr.2, vbRkC, nilGet_v, nilOpen_v, nilStep_v, nilExp_v, nilCases_v, nilHist_v, nilDisp_v]
  clear nuE fr hd
  refine CallA.newX (new_n A L p cap hL hl) (SubA.refl A) ?_
  rintro v E h hd
  rcases h with ⟨h1, rfl⟩ | ⟨h1, db, R, rfl, hE0, hR⟩
  · refine ⟨A, hd.right, ?_⟩
    intro ν fr; have nuE := fr.nu
    simp (maxDischargeDepth := 16) only [argE_nil, argE_cons, ↓vmD, vmV, vmStd, Nat.reduceMul, ↓reduceIte, Nat.reduceAdd, Nat.reduceSub, Nat.reduceEqDiff, Nat.reduceLT, Nat.reduceLeDiff, reduceCtorEq, Int.reduceToNat, Int.reduceLT, Int.reduceLE, Int.reduceEq, Int.reduceNeg, Int.reduceBEq, Int.reduceBNe, String.reduceEq, forall_const, ↓vmDA, vmVA, ↓vmQA, vmR, vmRA, ↓vmSA, vmSV, tyS, nuE, SubA.skip, SubA.refl, fr.2, vbRkC, nilGet_v, nilOpen_v, nilStep_v, nilExp_v, nilCases_v, nilHist_v, nilDisp_v]
    refine CallA.newX (rnew_n A L p cap hL hl) (SubA.refl A) ?_
    rintro v2 G h2 hd2
    rcases h2 with ⟨_, rfl⟩ | ⟨h3, _⟩
    · refine ⟨A, hd2.right, ?_⟩
      intro ν fr; have nuE := fr.nu
      simp (maxDischargeDepth := 16) only [argE_nil, argE_cons, ↓vmD, vmV, vmStd, Nat.reduceMul, ↓reduceIte, Nat.reduceAdd, Nat.reduceSub, Nat.reduceEqDiff, Nat.reduceLT, Nat.reduceLeDiff, reduceCtorEq, Int.reduceToNat, Int.reduceLT, Int.reduceLE, Int.reduceEq, Int.reduceNeg, Int.reduceBEq, Int.reduceBNe, String.reduceEq, forall_const, ↓vmDA, vmVA, ↓vmQA, vmR, vmRA, ↓vmSA, vmSV, tyS, nuE, SubA.skip, SubA.refl, fr.2, vbRkC, nilGet_v, nilOpen_v, nilStep_v, nilExp_v, nilCases_v, nilHist_v, nilDisp_v, h1]
      clear nuE fr
      refine LoopA.intro (by kernel_rfl) ?_
      have lt : ((0 : Int) < (M.length : Int)) ∨ ¬ ((0 : Int) < (M.length : Int)) := Classical.em _
      obtain ⟨Z, hAZ, hZ⟩ : ∃ Z, SubA A Z ∧ Z = A := ⟨A, SubA.refl A, rfl⟩
      rw [← hZ]
      clear hZ
      intro ν fr; have nuE := fr.nu
      rcases lt with lt | lt
      · simp (maxDischargeDepth := 16) only [argE_nil, argE_cons, ↓vmD, vmV, vmStd, Nat.reduceMul, ↓reduceIte, Nat.reduceAdd, Nat.reduceSub, Nat.reduceEqDiff, Nat.reduceLT, Nat.reduceLeDiff, reduceCtorEq, Int.reduceToNat, Int.reduceLT, Int.reduceLE, Int.reduceEq, Int.reduceNeg, Int.reduceBEq, Int.reduceBNe, String.reduceEq, forall_const, ↓vmDA, vmVA, ↓vmQA, vmR, vmRA, ↓vmSA, vmSV, tyS, nuE, SubA.skip, SubA.refl, fr.2, vbRkC, nilGet_v, nilOpen_v, nilStep_v, nilExp_v, nilCases_v, nilHist_v, nilDisp_v, eq_true lt]
        simp (maxDischargeDepth := 16) only [argE_nil, argE_cons, ↓vmD, vmV, vmStd, Nat.reduceMul, ↓reduceIte, Nat.reduceAdd, Nat.reduceSub, Nat.reduceEqDiff, Nat.reduceLT, Nat.reduceLeDiff, reduceCtorEq, Int.reduceToNat, Int.reduceLT, Int.reduceLE, Int.reduceEq, Int.reduceNeg, Int.reduceBEq, Int.reduceBNe, String.reduceEq, forall_const, ↓vmDA, vmVA, ↓vmQA, vmR, vmRA, ↓vmSA, vmSV, tyS, nuE, SubA.skip, SubA.refl, fr.2, vbRkC, nilGet_v, nilOpen_v, nilStep_v, nilExp_v, nilCases_v, nilHist_v, nilDisp_v, caAgg, noCa]
        refine CallA.newX (nil_n (nilExp_h 9)) (SubA.refl _) ?_
        rintro v1 B1 rfl hd1
        refine ⟨Z, SubA.trans (SubA.skip (fr.2 0) (SubA.refl _)) hd1.right, ?_⟩
        clear nuE fr
        intro ν fr; have nuE := fr.nu
        simp (maxDischargeDepth := 16) only [argE_nil, argE_cons, ↓vmD, vmV, vmStd, Nat.reduceMul, ↓reduceIte, Nat.reduceAdd, Nat.reduceSub, Nat.reduceEqDiff, Nat.reduceLT, Nat.reduceLeDiff, reduceCtorEq, Int.reduceToNat, Int.reduceLT, Int.reduceLE, Int.reduceEq, Int.reduceNeg, Int.reduceBEq, Int.reduceBNe, String.reduceEq, forall_const, ↓vmDA, vmVA, ↓vmQA, vmR, vmRA, ↓vmSA, vmSV, tyS, nuE, SubA.skip, SubA.refl, fr.2, vbRkC, nilGet_v, nilOpen_v, nilStep_v, nilExp_v, nilCases_v, nilHist_v, nilDisp_v]
        refine CallA.newX (nil_n nilCases_h) (SubA.refl _) ?_
        rintro v1 B1 rfl hd1
        refine ⟨Z, hd1.right, ?_⟩
        clear nuE fr
        intro ν fr; have nuE := fr.nu
        simp (maxDischargeDepth := 16) only [argE_nil, argE_cons, ↓vmD, vmV, vmStd, Nat.reduceMul, ↓reduceIte, Nat.reduceAdd, Nat.reduceSub, Nat.reduceEqDiff, Nat.reduceLT, Nat.reduceLeDiff, reduceCtorEq, Int.reduceToNat, Int.reduceLT, Int.reduceLE, Int.reduceEq, Int.reduceNeg, Int.reduceBEq, Int.reduceBNe, String.reduceEq, forall_const, ↓vmDA, vmVA, ↓vmQA, vmR, vmRA, ↓vmSA, vmSV, tyS, nuE, SubA.skip, SubA.refl, fr.2, vbRkC, nilGet_v, nilOpen_v, nilStep_v, nilExp_v, nilCases_v, nilHist_v, nilDisp_v]
        have w0 : IntKind.i64.wrap (IntKind.i64.wrap (0 + 0) + 0) = 0 := by decide
        refine CallA.newX (nil_n (nilHist_h _)) (SubA.refl _) ?_
        rintro v1 B1 rfl hd1
        refine ⟨Z, hd1.right, ?_⟩
        clear nuE fr
        intro ν fr; have nuE := fr.nu
        simp (maxDischargeDepth := 16) only [argE_nil, argE_cons, ↓vmD, vmV, vmStd, Nat.reduceMul, ↓reduceIte, Nat.reduceAdd, Nat.reduceSub, Nat.reduceEqDiff, Nat.reduceLT, Nat.reduceLeDiff, reduceCtorEq, Int.reduceToNat, Int.reduceLT, Int.reduceLE, Int.reduceEq, Int.reduceNeg, Int.reduceBEq, Int.reduceBNe, String.reduceEq, forall_const, ↓vmDA, vmVA, ↓vmQA, vmR, vmRA, ↓vmSA, vmSV, tyS, nuE, SubA.skip, SubA.refl, fr.2, vbRkC, nilGet_v, nilOpen_v, nilStep_v, nilExp_v, nilCases_v, nilHist_v, nilDisp_v, w0]
        refine CallA.newX (nil_n (nilDisp_h _)) (SubA.refl _) ?_
        rintro v1 B1 rfl hd1
        refine ⟨Z, hd1.right, ?_⟩
        clear nuE fr
        intro ν fr; have nuE := fr.nu
        simp (maxDischargeDepth := 16) only [argE_nil, argE_cons, ↓vmD, vmV, vmStd, Nat.reduceMul, ↓reduceIte, Nat.reduceAdd, Nat.reduceSub, Nat.reduceEqDiff, Nat.reduceLT, Nat.reduceLeDiff, reduceCtorEq, Int.reduceToNat, Int.reduceLT, Int.reduceLE, Int.reduceEq, Int.reduceNeg, Int.reduceBEq, Int.reduceBNe, String.reduceEq, forall_const, ↓vmDA, vmVA, ↓vmQA, vmR, vmRA, ↓vmSA, vmSV, tyS, nuE, SubA.skip, SubA.refl, fr.2, vbRkC, nilGet_v, nilOpen_v, nilStep_v, nilExp_v, nilCases_v, nilHist_v, nilDisp_v, w0]
        first
          | done
          | exact hAZ
      · simp (maxDischargeDepth := 16) only [argE_nil, argE_cons, ↓vmD, vmV, vmStd, Nat.reduceMul, ↓reduceIte, Nat.reduceAdd, Nat.reduceSub, Nat.reduceEqDiff, Nat.reduceLT, Nat.reduceLeDiff, reduceCtorEq, Int.reduceToNat, Int.reduceLT, Int.reduceLE, Int.reduceEq, Int.reduceNeg, Int.reduceBEq, Int.reduceBNe, String.reduceEq, forall_const, ↓vmDA, vmVA, ↓vmQA, vmR, vmRA, ↓vmSA, vmSV, tyS, nuE, SubA.skip, SubA.refl, fr.2, vbRkC, nilGet_v, nilOpen_v, nilStep_v, nilExp_v, nilCases_v, nilHist_v, nilDisp_v, eq_false lt]
        simp (maxDischargeDepth := 16) only [argE_nil, argE_cons, ↓vmD, vmV, vmStd, Nat.reduceMul, ↓reduceIte, Nat.reduceAdd, Nat.reduceSub, Nat.reduceEqDiff, Nat.reduceLT, Nat.reduceLeDiff, reduceCtorEq, Int.reduceToNat, Int.reduceLT, Int.reduceLE, Int.reduceEq, Int.reduceNeg, Int.reduceBEq, Int.reduceBNe, String.reduceEq, forall_const, ↓vmDA, vmVA, ↓vmQA, vmR, vmRA, ↓vmSA, vmSV, tyS, nuE, SubA.skip, SubA.refl, fr.2, vbRkC, nilGet_v, nilOpen_v, nilStep_v, nilExp_v, nilCases_v, nilHist_v, nilDisp_v, caAgg, noCa]
        refine CallA.newX (nil_n (nilExp_h 9)) (SubA.refl _) ?_
        rintro v1 B1 rfl hd1
        refine ⟨Z, SubA.trans (SubA.skip (fr.2 0) (SubA.refl _)) hd1.right, ?_⟩
        clear nuE fr
        intro ν fr; have nuE := fr.nu
        simp (maxDischargeDepth := 16) only [argE_nil, argE_cons, ↓vmD, vmV, vmStd, Nat.reduceMul, ↓reduceIte, Nat.reduceAdd, Nat.reduceSub, Nat.reduceEqDiff, Nat.reduceLT, Nat.reduceLeDiff, reduceCtorEq, Int.reduceToNat, Int.reduceLT, Int.reduceLE, Int.reduceEq, Int.reduceNeg, Int.reduceBEq, Int.reduceBNe, String.reduceEq, forall_const, ↓vmDA, vmVA, ↓vmQA, vmR, vmRA, ↓vmSA, vmSV, tyS, nuE, SubA.skip, SubA.refl, fr.2, vbRkC, nilGet_v, nilOpen_v, nilStep_v, nilExp_v, nilCases_v, nilHist_v, nilDisp_v]
        refine CallA.newX (nil_n nilCases_h) (SubA.refl _) ?_
        rintro v1 B1 rfl hd1
        refine ⟨Z, hd1.right, ?_⟩
        clear nuE fr
        intro ν fr; have nuE := fr.nu
        simp (maxDischargeDepth := 16) only [argE_nil, argE_cons, ↓vmD, vmV, vmStd, Nat.reduceMul, ↓reduceIte, Nat.reduceAdd, Nat.reduceSub, Nat.reduceEqDiff, Nat.reduceLT, Nat.reduceLeDiff, reduceCtorEq, Int.reduceToNat, Int.reduceLT, Int.reduceLE, Int.reduceEq, Int.reduceNeg, Int.reduceBEq, Int.reduceBNe, String.reduceEq, forall_const, ↓vmDA, vmVA, ↓vmQA, vmR, vmRA, ↓vmSA, vmSV, tyS, nuE, SubA.skip, SubA.refl, fr.2, vbRkC, nilGet_v, nilOpen_v, nilStep_v, nilExp_v, nilCases_v, nilHist_v, nilDisp_v]
        have w0 : IntKind.i64.wrap (IntKind.i64.wrap (0 + 0) + 0) = 0 := by decide
        refine CallA.newX (nil_n (nilHist_h _)) (SubA.refl _) ?_
        rintro v1 B1 rfl hd1
        refine ⟨Z, hd1.right, ?_⟩
        clear nuE fr
        intro ν fr; have nuE := fr.nu
        simp (maxDischargeDepth := 16) only [argE_nil, argE_cons, ↓vmD, vmV, vmStd, Nat.reduceMul, ↓reduceIte, Nat.reduceAdd, Nat.reduceSub, Nat.reduceEqDiff, Nat.reduceLT, Nat.reduceLeDiff, reduceCtorEq, Int.reduceToNat, Int.reduceLT, Int.reduceLE, Int.reduceEq, Int.reduceNeg, Int.reduceBEq, Int.reduceBNe, String.reduceEq, forall_const, ↓vmDA, vmVA, ↓vmQA, vmR, vmRA, ↓vmSA, vmSV, tyS, nuE, SubA.skip, SubA.refl, fr.2, vbRkC, nilGet_v, nilOpen_v, nilStep_v, nilExp_v, nilCases_v, nilHist_v, nilDisp_v, w0]
        refine CallA.newX (nil_n (nilDisp_h _)) (SubA.refl _) ?_
        rintro v1 B1 rfl hd1
        refine ⟨Z, hd1.right, ?_⟩
        clear nuE fr
        intro ν fr; have nuE := fr.nu
        simp (maxDischargeDepth := 16) only [argE_nil, argE_cons, ↓vmD, vmV, vmStd, Nat.reduceMul, ↓reduceIte, Nat.reduceAdd, Nat.reduceSub, Nat.reduceEqDiff, Nat.reduceLT, Nat.reduceLeDiff, reduceCtorEq, Int.reduceToNat, Int.reduceLT, Int.reduceLE, Int.reduceEq, Int.reduceNeg, Int.reduceBEq, Int.reduceBNe, String.reduceEq, forall_const, ↓vmDA, vmVA, ↓vmQA, vmR, vmRA, ↓vmSA, vmSV, tyS, nuE, SubA.skip, SubA.refl, fr.2, vbRkC, nilGet_v, nilOpen_v, nilStep_v, nilExp_v, nilCases_v, nilHist_v, nilDisp_v, w0]
        first
          | done
          | exact hAZ
    · exact absurd h3 h1
  have h32 : L.length ≤ 32 := by
    unfold chkE at h1
    split at h1
    · cases h1
    · rename_i h; simpa using h
  have hbig := chkE_big h1
  have hBR : BigR L := fun r hr => hbig r hr
  refine ⟨E ++ A, SubA.refl _, ?_⟩
  intro ν fr; have nuE := fr.nu
  simp (maxDischargeDepth := 16) only [argE_nil, argE_cons, ↓vmD, vmV, vmStd, Nat.reduceMul, ↓reduceIte, Nat.reduceAdd, Nat.reduceSub, Nat.reduceEqDiff, Nat.reduceLT, Nat.reduceLeDiff, reduceCtorEq, Int.reduceToNat, Int.reduceLT, Int.reduceLE, Int.reduceEq, Int.reduceNeg, Int.reduceBEq, Int.reduceBNe, String.reduceEq, forall_const, ↓vmDA, vmVA, ↓vmQA, vmR, vmRA, ↓vmSA, vmSV, tyS, nuE, SubA.skip, SubA.refl, fr.2, vbRkC, nilGet_v, nilOpen_v, nilStep_v, nilExp_v, nilCases_v, nilHist_v, nilDisp_v]
  clear nuE fr
  refine CallA.newX (rnew_n A L p cap hL hl) hd.right ?_
  rintro v2 G h2 hd2
  rcases h2 with ⟨h3, _⟩ | ⟨_, rb, rfl, hG0⟩
  · exact absurd h1 h3
  have sp0 : Sep [E, G, A] := Sep.pick (Sep.cons (l := [E, A]) hd2 (Sep.cons hd (Sep.one A))) [1, 0, 2] rfl rfl
  refine ⟨cat [E, G, A], Sep.subs (Sep.cons (l := [E, A]) hd2 (Sep.cons hd (Sep.one A))) [1, 0, 2] rfl, ?_⟩
  simp only [cat, List.cons_append, List.nil_append, odoB, ogcB]
  intro ν fr; have nuE := fr.nu
  simp (maxDischargeDepth := 16) only [argE_nil, argE_cons, ↓vmD, vmV, vmStd, Nat.reduceMul, ↓reduceIte, Nat.reduceAdd, Nat.reduceSub, Nat.reduceEqDiff, Nat.reduceLT, Nat.reduceLeDiff, reduceCtorEq, Int.reduceToNat, Int.reduceLT, Int.reduceLE, Int.reduceEq, Int.reduceNeg, Int.reduceBEq, Int.reduceBNe, String.reduceEq, forall_const, ↓vmDA, vmVA, ↓vmQA, vmR, vmRA, ↓vmSA, vmSV, tyS, nuE, SubA.skip, SubA.refl, fr.2, vbRkC, nilGet_v, nilOpen_v, nilStep_v, nilExp_v, nilCases_v, nilHist_v, nilDisp_v]
  have hF0 : FdsOk (([] : List Fo).map Fo.d) := ⟨(fun f hf => by cases hf), by simp, by simp⟩
  obtain ⟨e, l, fv, gv, F, H, he, hdl, hle, hE, hG, hFH, hF⟩ : ∃ (e : Nat) (l : List DoT) (fv gv : Value) (F H : List Fo), e = 0 ∧ l = M.drop e ∧ e ≤ M.length ∧ DkP E db fv R F ∧ RkP G rb gv p cap L H ∧ F.map Fo.d = H.map Fo.d ∧ FdsOk (F.map Fo.d) := ⟨0, M, _, _, [], [], rfl, rfl, by omega, hE0, hG0, rfl, hF0⟩
  rw [show (9, some (Value.int .i64 0)) = (9, some (Value.int .i64 (e : Int))) by rw [he]; rfl]
  clear he nuE fr hF0 hE0 hG0 hd hd2
  induction l generalizing e E G fv gv F H with
  | nil =>
    obtain ⟨hn1, hn2⟩ := drop_nil hdl hle
    have lt : ((e : Int) < (M.length : Int)) = False := eq_false (by omega)
    refine LoopA.intro (by kernel_rfl) ?_
    obtain ⟨Z, hAZ, hZ⟩ : ∃ Z, SubA A Z ∧ Z = E ++ (G ++ A) := ⟨E ++ (G ++ A), Sep.subs sp0 [2] rfl, rfl⟩
    rw [← hZ]
    clear hZ
    intro ν fr; have nuE := fr.nu
    simp (maxDischargeDepth := 16) only [argE_nil, argE_cons, ↓vmD, vmV, vmStd, Nat.reduceMul, ↓reduceIte, Nat.reduceAdd, Nat.reduceSub, Nat.reduceEqDiff, Nat.reduceLT, Nat.reduceLeDiff, reduceCtorEq, Int.reduceToNat, Int.reduceLT, Int.reduceLE, Int.reduceEq, Int.reduceNeg, Int.reduceBEq, Int.reduceBNe, String.reduceEq, forall_const, ↓vmDA, vmVA, ↓vmQA, vmR, vmRA, ↓vmSA, vmSV, tyS, nuE, SubA.skip, SubA.refl, fr.2, vbRkC, nilGet_v, nilOpen_v, nilStep_v, nilExp_v, nilCases_v, nilHist_v, nilDisp_v, lt]
    simp (maxDischargeDepth := 16) only [argE_nil, argE_cons, ↓vmD, vmV, vmStd, Nat.reduceMul, ↓reduceIte, Nat.reduceAdd, Nat.reduceSub, Nat.reduceEqDiff, Nat.reduceLT, Nat.reduceLeDiff, reduceCtorEq, Int.reduceToNat, Int.reduceLT, Int.reduceLE, Int.reduceEq, Int.reduceNeg, Int.reduceBEq, Int.reduceBNe, String.reduceEq, forall_const, ↓vmDA, vmVA, ↓vmQA, vmR, vmRA, ↓vmSA, vmSV, tyS, nuE, SubA.skip, SubA.refl, fr.2, vbRkC, nilGet_v, nilOpen_v, nilStep_v, nilExp_v, nilCases_v, nilHist_v, nilDisp_v, caAgg, noCa]
    refine CallA.newX (nil_n (nilExp_h 9)) (SubA.refl _) ?_
    rintro v1 B1 rfl hd1
    refine ⟨Z, SubA.trans (SubA.skip (fr.2 0) (SubA.refl _)) hd1.right, ?_⟩
    clear nuE fr
    intro ν fr; have nuE := fr.nu
    simp (maxDischargeDepth := 16) only [argE_nil, argE_cons, ↓vmD, vmV, vmStd, Nat.reduceMul, ↓reduceIte, Nat.reduceAdd, Nat.reduceSub, Nat.reduceEqDiff, Nat.reduceLT, Nat.reduceLeDiff, reduceCtorEq, Int.reduceToNat, Int.reduceLT, Int.reduceLE, Int.reduceEq, Int.reduceNeg, Int.reduceBEq, Int.reduceBNe, String.reduceEq, forall_const, ↓vmDA, vmVA, ↓vmQA, vmR, vmRA, ↓vmSA, vmSV, tyS, nuE, SubA.skip, SubA.refl, fr.2, vbRkC, nilGet_v, nilOpen_v, nilStep_v, nilExp_v, nilCases_v, nilHist_v, nilDisp_v]
    refine CallA.newX (nil_n nilCases_h) (SubA.refl _) ?_
    rintro v1 B1 rfl hd1
    refine ⟨Z, hd1.right, ?_⟩
    clear nuE fr
    intro ν fr; have nuE := fr.nu
    simp (maxDischargeDepth := 16) only [argE_nil, argE_cons, ↓vmD, vmV, vmStd, Nat.reduceMul, ↓reduceIte, Nat.reduceAdd, Nat.reduceSub, Nat.reduceEqDiff, Nat.reduceLT, Nat.reduceLeDiff, reduceCtorEq, Int.reduceToNat, Int.reduceLT, Int.reduceLE, Int.reduceEq, Int.reduceNeg, Int.reduceBEq, Int.reduceBNe, String.reduceEq, forall_const, ↓vmDA, vmVA, ↓vmQA, vmR, vmRA, ↓vmSA, vmSV, tyS, nuE, SubA.skip, SubA.refl, fr.2, vbRkC, nilGet_v, nilOpen_v, nilStep_v, nilExp_v, nilCases_v, nilHist_v, nilDisp_v]
    have w0 : IntKind.i64.wrap (IntKind.i64.wrap (0 + 0) + 0) = 0 := by decide
    refine CallA.newX (nil_n (nilHist_h _)) (SubA.refl _) ?_
    rintro v1 B1 rfl hd1
    refine ⟨Z, hd1.right, ?_⟩
    clear nuE fr
    intro ν fr; have nuE := fr.nu
    simp (maxDischargeDepth := 16) only [argE_nil, argE_cons, ↓vmD, vmV, vmStd, Nat.reduceMul, ↓reduceIte, Nat.reduceAdd, Nat.reduceSub, Nat.reduceEqDiff, Nat.reduceLT, Nat.reduceLeDiff, reduceCtorEq, Int.reduceToNat, Int.reduceLT, Int.reduceLE, Int.reduceEq, Int.reduceNeg, Int.reduceBEq, Int.reduceBNe, String.reduceEq, forall_const, ↓vmDA, vmVA, ↓vmQA, vmR, vmRA, ↓vmSA, vmSV, tyS, nuE, SubA.skip, SubA.refl, fr.2, vbRkC, nilGet_v, nilOpen_v, nilStep_v, nilExp_v, nilCases_v, nilHist_v, nilDisp_v, w0]
    refine CallA.newX (nil_n (nilDisp_h _)) (SubA.refl _) ?_
    rintro v1 B1 rfl hd1
    refine ⟨Z, hd1.right, ?_⟩
    clear nuE fr
    intro ν fr; have nuE := fr.nu
    simp (maxDischargeDepth := 16) only [argE_nil, argE_cons, ↓vmD, vmV, vmStd, Nat.reduceMul, ↓reduceIte, Nat.reduceAdd, Nat.reduceSub, Nat.reduceEqDiff, Nat.reduceLT, Nat.reduceLeDiff, reduceCtorEq, Int.reduceToNat, Int.reduceLT, Int.reduceLE, Int.reduceEq, Int.reduceNeg, Int.reduceBEq, Int.reduceBNe, String.reduceEq, forall_const, ↓vmDA, vmVA, ↓vmQA, vmR, vmRA, ↓vmSA, vmSV, tyS, nuE, SubA.skip, SubA.refl, fr.2, vbRkC, nilGet_v, nilOpen_v, nilStep_v, nilExp_v, nilCases_v, nilHist_v, nilDisp_v, w0]
    first
      | done
      | exact hAZ
  | cons x l ih =>
    obtain ⟨ha, hlt, hd', htk⟩ := drop_some hdl
    have lt : ((e : Int) < (M.length : Int)) = True := eq_true (by omega)
    have we : IntKind.i64.wrap ((e : Int) + 1) = ((e + 1 : Nat) : Int) := by rw [w_i64 (by omega) (by omega)]; omega
    obtain ⟨bk, off, cs, ty, fr0, hp0, hbk, hcr, hcc⟩ := hM.1.at ha
    obtain ⟨hk255, hI, hil⟩ := hM.2 x (List.mem_of_getElem? ha)
    obtain ⟨z1, z2, z3⟩ := hz x (List.mem_of_getElem? ha)
    have li : ((e : Int) < 0) = False := eq_false (by omega)
    simp only [doC] at hcr
    subst hp0
    have sA3 : SubA A (E ++ (G ++ A)) := Sep.subs sp0 [2] rfl
    have hbk2 := sA3 _ _ hbk
    have hlen := hF.2.1
    have hrun := run_ok (R := R.map Rs.d) hF x
    have hH : FdsOk (H.map Fo.d) := by rw [← hFH]; exact hF
    have hEA : Dis E A := sp0.1.2.1
    have hGA : Dis G A := sp0.2.1.1
    have km : ((x.kd : Int)).tmod 3 = ((x.kd % 3 : Nat) : Int) := by rw [Int.tmod_eq_emod_of_nonneg (by omega)]; omega
    have kw : IntKind.u8.wrap (((x.kd % 3 : Nat) : Int)) = ((x.kd % 3 : Nat) : Int) := w_u8 (by omega) (by omega)
    refine LoopA.intro (by kernel_rfl) ?_
    intro ν fr; have nuE := fr.nu
    have f0 : Vm.look (cat [E, G, A]) (ν 0) = none := fr.2 0
    by_cases h2 : x.kd % 3 = 2
    · have h2' : (((x.kd % 3 : Nat) : Int) = 2) = True := eq_true (by omega)
      simp (maxDischargeDepth := 16) only [argE_nil, argE_cons, ↓vmD, vmV, vmStd, Nat.reduceMul, ↓reduceIte, Nat.reduceAdd, Nat.reduceSub, Nat.reduceEqDiff, Nat.reduceLT, Nat.reduceLeDiff, reduceCtorEq, Int.reduceToNat, Int.reduceLT, Int.reduceLE, Int.reduceEq, Int.reduceNeg, Int.reduceBEq, Int.reduceBNe, String.reduceEq, forall_const, ↓vmDA, vmVA, ↓vmQA, vmR, vmRA, ↓vmSA, vmSV, tyS, nuE, SubA.skip, SubA.refl, fr.2, vbRkC, nilGet_v, nilOpen_v, nilStep_v, nilExp_v, nilCases_v, nilHist_v, nilDisp_v, lt, li, hbk2, hcr, km, kw, h2']
      have dst_ : True := (by simp [nuE]); generalize ν 0 = n0 at dst_  f0 ⊢
      clear nuE fr
      have sp1 : Sep [[(n0, odoB x)], E, G, A] := Sep.fresh f0 _ sp0
      refine MeantA.tree [] (.one 0 0 (.one 1 0 (.one 2 0 (.one 4 0 (.one 5 0 (.one 6 0 (.one 3 0 (.one 7 0 (.one 8 1 (.one 9 0 .nil)))))))))) [(n0, odoB x)] (SubA.left [_] _) (by kernel_rfl) (by kernel_rfl) (by kernel_rfl) (by kernel_rfl) (by kernel_rfl) ?_
      intro ν fr; have nuE := And.intro (fr.mem (b := n0) (by simp)) (fr.nu)
      simp (maxDischargeDepth := 16) only [argE_nil, argE_cons, ↓vmD, vmV, vmStd, Nat.reduceMul, ↓reduceIte, Nat.reduceAdd, Nat.reduceSub, Nat.reduceEqDiff, Nat.reduceLT, Nat.reduceLeDiff, reduceCtorEq, Int.reduceToNat, Int.reduceLT, Int.reduceLE, Int.reduceEq, Int.reduceNeg, Int.reduceBEq, Int.reduceBNe, String.reduceEq, forall_const, ↓vmDA, vmVA, ↓vmQA, vmR, vmRA, ↓vmSA, vmSV, tyS, nuE, SubA.skip, SubA.refl, fr.2, vbRkC, nilGet_v, nilOpen_v, nilStep_v, nilExp_v, nilCases_v, nilHist_v, nilDisp_v, odoB, ogcB, tA_nil, tA_one, tA_two]
      refine CallA.stB (expS hE hEA hF x.dt) (Sep.coarse (a := [E, A]) (m := [[(n0, odoB x)], G]) (Sep.pick sp1 [1, 3, 0, 2] rfl rfl)) (Sep.subs sp1 [1, 3, 0, 2] rfl) ?_
      rintro u B E1 ⟨ho1, F1, hE1, hF1⟩ sp2'
      have sp2 : Sep [E1, B, A, [(n0, odoB x)], G] := Sep.fine (a := [E1, B, A]) sp2' (Sep.pick sp1 [0, 2] rfl rfl)
      refine ⟨cat [[(n0, odoB x)], E1, B, G, A], Sep.subs sp2 [3, 0, 1, 4, 2] rfl, ?_⟩
      have sp3 : Sep [[(n0, odoB x)], E1, B, G, A] := Sep.pick sp2 [3, 0, 1, 4, 2] rfl rfl
      simp only [cat, List.cons_append, List.nil_append, odoB, ogcB]
      intro ν fr; have nuE := And.intro (fr.mem (b := n0) (by simp)) (fr.nu)
      simp (maxDischargeDepth := 16) only [argE_nil, argE_cons, ↓vmD, vmV, vmStd, Nat.reduceMul, ↓reduceIte, Nat.reduceAdd, Nat.reduceSub, Nat.reduceEqDiff, Nat.reduceLT, Nat.reduceLeDiff, reduceCtorEq, Int.reduceToNat, Int.reduceLT, Int.reduceLE, Int.reduceEq, Int.reduceNeg, Int.reduceBEq, Int.reduceBNe, String.reduceEq, forall_const, ↓vmDA, vmVA, ↓vmQA, vmR, vmRA, ↓vmSA, vmSV, tyS, nuE, SubA.skip, SubA.refl, fr.2, vbRkC, nilGet_v, nilOpen_v, nilStep_v, nilExp_v, nilCases_v, nilHist_v, nilDisp_v, odoB, ogcB, tA_nil, tA_one, tA_two]
      refine CallA.stB (rexpS hG hGA hL h32 hH x.dt) (Sep.coarse (a := [G, A]) (m := [[(n0, odoB x)], E1, B]) (Sep.pick sp3 [3, 4, 0, 1, 2] rfl rfl)) (Sep.subs sp3 [3, 4, 0, 1, 2] rfl) ?_
      rintro u2 B2 G1 ⟨ho2, H1, hG1, hH1⟩ sp4'
      have sp4 : Sep [G1, B2, A, [(n0, odoB x)], E1, B] := Sep.fine (a := [G1, B2, A]) sp4' (Sep.pick sp3 [0, 1, 2] rfl rfl)
      have hsame : expX (L.map Rs.d) (H.map Fo.d) x.dt = expX (R.map Rs.d) (F.map Fo.d) x.dt := by rw [hR, hFH]
      rw [hsame] at ho2 hH1
      have hFH1 : F1.map Fo.d = H1.map Fo.d := by rw [hF1, hH1]
      have hr : runX (R.map Rs.d) (F.map Fo.d) x = (expX (R.map Rs.d) (F.map Fo.d) x.dt).2 := if_pos h2
      have hF1k : FdsOk (F1.map Fo.d) := by rw [hF1, ← hr]; exact hrun
      have hl1000 : (expX (R.map Rs.d) (F.map Fo.d) x.dt).1.length ≤ 1000 := by
        unfold expX
        split
        · simp
        · rw [List.length_map]
          exact Nat.le_trans (List.length_filter_le _ _) (by omega)
      obtain ⟨p1, cap1, rfl, hq1⟩ := own_tx ho1
      obtain ⟨p2, cap2, rfl, hq2⟩ := own_tx ho2
      have sp5 : Sep [[(n0, odoB x)], E1, G1, A, B, B2] := Sep.pick sp4 [3, 4, 0, 2, 5, 1] rfl rfl
      obtain ⟨Y, hY, hYn, hYE, hsY, hYB, hYB2⟩ : ∃ Y, Y = cat [E1, G1, A, B, B2] ∧ Vm.look Y n0 = none ∧ Sep [[(n0, odoB x)], E1, G1, A] ∧ SubA (cat [E1, G1, A]) Y ∧ SubA B Y ∧ SubA B2 Y := ⟨_, rfl, (Sep.dis sp5).symm n0 (by simp [Vm.look]), Sep.pick sp5 [0, 1, 2, 3] rfl rfl, Sep.subs sp5.2 [0, 1, 2] rfl, Sep.subs sp5.2 [3] rfl, Sep.subs sp5.2 [4] rfl⟩
      refine ⟨(n0, odoB x) :: Y, ?_, ?_⟩
      · rw [hY]
        exact Sep.subs sp4 [3, 4, 0, 2, 5, 1] rfl
      clear hY
      have sYn : ∀ o, SubA Y ((n0, o) :: Y) := fun o => SubA.fresh hYn (SubA.refl _)
      have te := eqTexts_h ((n0, odoB x) :: Y) (expX (R.map Rs.d) (F.map Fo.d) x.dt).1 p1 cap1 p2 cap2 (hq1.1.mono (SubA.trans hYB (sYn _))) (hq2.1.mono (SubA.trans hYB2 (sYn _))) hl1000
      intro ν fr; have nuE := And.intro (fr.mem (b := n0) (by simp)) (fr.nu)
      simp (maxDischargeDepth := 16) only [argE_nil, argE_cons, ↓vmD, vmV, vmStd, Nat.reduceMul, ↓reduceIte, Nat.reduceAdd, Nat.reduceSub, Nat.reduceEqDiff, Nat.reduceLT, Nat.reduceLeDiff, reduceCtorEq, Int.reduceToNat, Int.reduceLT, Int.reduceLE, Int.reduceEq, Int.reduceNeg, Int.reduceBEq, Int.reduceBNe, String.reduceEq, forall_const, ↓vmDA, vmVA, ↓vmQA, vmR, vmRA, ↓vmSA, vmSV, tyS, nuE, SubA.skip, SubA.refl, fr.2, vbRkC, nilGet_v, nilOpen_v, nilStep_v, nilExp_v, nilCases_v, nilHist_v, nilDisp_v, odoB, ogcB, tA_nil, tA_one, tA_two]
      refine CallA.newX (pure_n te) (SubA.refl _) ?_
      rintro v3 B3 rfl hd3
      refine ⟨_, hd3.right, ?_⟩
      clear nuE fr te hd3
      clear sp5 sp4 sp4' sp3 sp2' sp2 sp1 hq1 hq2 ho1 ho2 hE hG hFH hF hH hsame hr hF1 hH1
      have sY : ∀ o, SubA Y ((n0, o) :: Y) := fun o => SubA.fresh hYn (SubA.refl _)
      have hl64 := hF1k.2.1
      have hH1k : FdsOk (H1.map Fo.d) := by rw [← hFH1]; exact hF1k
      have hm64 : H1.length ≤ 64 := by have := hH1k.2.1; simpa using this
      have hn64 : F1.length ≤ 64 := by simpa using hl64
      have sE1 : SubA E1 Y := SubA.trans (Sep.subs hYE.2 [0] rfl) hsY
      have sG1 : SubA G1 Y := SubA.trans (Sep.subs hYE.2 [1] rfl) hsY
      have c1 := getDk_w E1 db _ R F1 hE1 x.id ((n0, odoB x) :: Y) (SubA.trans sE1 (sY _))
      have c2 := fun B hB => rgetDk_w G1 rb _ p cap L H1 hG1 hm64 x.id B hB
      rw [← hFH1] at c2
      generalize hcg : (getX x.id (F1.map Fo.d)).getD noCa = c at c1 c2
      generalize hcs : (getX x.id (F1.map Fo.d)).isSome = cb at c1 c2
      simp only [caAgg, odoB] at c1 c2
      intro ν fr; have nuE := And.intro (fr.mem (b := n0) (by simp)) (fr.nu)
      have q0 : Vm.look ((n0, odoB x) :: Y) (ν 0) = none := fr.2 0
      have q1 : Vm.look ((ν 0, ogcB c) :: (n0, odoB x) :: Y) (ν 1) = none := by
        have := fr.2 1
        simp only [Vm.look, nuE, if_false] at this ⊢
        exact this
      have c2' := c2 ((ν 0, ogcB c) :: (n0, odoB x) :: Y) (SubA.fresh q0 (SubA.trans sG1 (sY _)))
      simp only [odoB, ogcB] at c2'
      simp (maxDischargeDepth := 16) only [argE_nil, argE_cons, ↓vmD, vmV, vmStd, Nat.reduceMul, ↓reduceIte, Nat.reduceAdd, Nat.reduceSub, Nat.reduceEqDiff, Nat.reduceLT, Nat.reduceLeDiff, reduceCtorEq, Int.reduceToNat, Int.reduceLT, Int.reduceLE, Int.reduceEq, Int.reduceNeg, Int.reduceBEq, Int.reduceBNe, String.reduceEq, forall_const, ↓vmDA, vmVA, ↓vmQA, vmR, vmRA, ↓vmSA, vmSV, tyS, nuE, SubA.skip, SubA.refl, fr.2, vbRkC, nilGet_v, nilOpen_v, nilStep_v, nilExp_v, nilCases_v, nilHist_v, nilDisp_v, odoB, ogcB, tA_nil, tA_one, tA_two, c1, c2', km, kw, h2']
      have dst_ : ((ν 0 = ν 1) = False) ∧ ((ν 0 = n0) = False) ∧ ((ν 1 = ν 0) = False) ∧ ((ν 1 = n0) = False) ∧ ((n0 = ν 0) = False) ∧ ((n0 = ν 1) = False) := (by simp [nuE]); generalize ν 0 = k0 at dst_  q0 q1 ⊢; generalize ν 1 = k1 at dst_  q0 q1 ⊢
      clear nuE fr c2' c2 c1
      have sq : Sep [[(k1, ogcB c)], [(k0, ogcB c)], [(n0, odoB x)], E1, G1, A] := by
        have s1 : Sep ([(n0, odoB x)] :: E1 :: G1 :: A :: []) := hYE
        have g0 : Vm.look (cat [[(n0, odoB x)], E1, G1, A]) k0 = none := (cons_in (x := n0) (o := odoB x) hsY : SubA (cat [[(n0, odoB x)], E1, G1, A]) _).none q0
        have g1 : Vm.look (cat [[(k0, ogcB c)], [(n0, odoB x)], E1, G1, A]) k1 = none := (cons_in (x := k0) (o := ogcB c) (cons_in (x := n0) (o := odoB x) hsY) : SubA (cat [[(k0, ogcB c)], [(n0, odoB x)], E1, G1, A]) _).none q1
        exact Sep.fresh g1 _ (Sep.fresh g0 _ s1)
      refine MeantA.at (A := cat [[(k1, ogcB c)], [(k0, ogcB c)], [(n0, odoB x)], E1, G1, A]) (cons_in (cons_in (cons_in hsY))) ?_
      simp only [cat, List.cons_append, List.nil_append, odoB, ogcB]
      refine MeantA.tree [] (.one 0 0 (.one 1 0 (.one 2 0 (.one 3 0 (.one 4 0 (.one 5 0 (.one 6 0 (.one 7 0 (.one 8 0 (.one 9 0 (.one 10 0 (.one 11 0 (.one 13 0 (.one 14 0 (.one 15 0 (.one 12 0 (.one 16 0 (.one 17 0 (.one 18 0 (.one 19 0 (.one 20 0 (.one 21 0 (.one 22 0 (.one 23 0 (.one 24 0 (.one 26 0 (.one 27 0 (.one 28 0 (.one 29 0 (.one 25 0 (.one 30 0 (.one 31 0 (.one 32 0 (.one 33 0 (.one 34 0 (.one 36 0 (.one 35 0 (.one 37 0 (.one 38 1 (.one 39 0 (.one 40 0 .nil))))))))))))))))))))))))))))))))))))))))) [(k1, ogcB c), (k0, ogcB c), (n0, odoB x)] (SubA.left [_, _, _] _) (by kernel_rfl) (by kernel_rfl) (by kernel_rfl) (by kernel_rfl) (by kernel_rfl) ?_
      intro ν fr
      have nuE := And.intro dst_ (And.intro (fr.mem (b := k1) (by simp)) (And.intro (fr.mem (b := k0) (by simp)) (And.intro (fr.mem (b := n0) (by simp)) fr.nu)))
      simp (maxDischargeDepth := 16) only [argE_nil, argE_cons, ↓vmD, vmV, vmStd, Nat.reduceMul, ↓reduceIte, Nat.reduceAdd, Nat.reduceSub, Nat.reduceEqDiff, Nat.reduceLT, Nat.reduceLeDiff, reduceCtorEq, Int.reduceToNat, Int.reduceLT, Int.reduceLE, Int.reduceEq, Int.reduceNeg, Int.reduceBEq, Int.reduceBNe, String.reduceEq, forall_const, ↓vmDA, vmVA, ↓vmQA, vmR, vmRA, ↓vmSA, vmSV, tyS, nuE, SubA.skip, SubA.refl, fr.2, vbRkC, nilGet_v, nilOpen_v, nilStep_v, nilExp_v, nilCases_v, nilHist_v, nilDisp_v, odoB, ogcB, tA_nil, tA_one, tA_two]
      have hh100 : ∀ f ∈ F1, f.d.h.length ≤ 100 := fun f hf => by
        obtain ⟨a1, a2, a3, _⟩ := hF1k.1 f.d (List.mem_map_of_mem hf)
        omega
      have hhl := hist_len hF1k x.id
      refine CallA.newX (histD_h E1 db _ R F1 hE1 hh100 x.id) (Sep.subs sq [3] rfl) ?_
      intro v B1 ho1 hdB1
      obtain ⟨hp, hcap, rfl, hhc, hhs⟩ := ho1.read intC_len
      have sq1 : Sep [B1, [(k1, ogcB c)], [(k0, ogcB c)], [(n0, odoB x)], E1, G1, A] := Sep.cons hdB1 sq
      have sq2 := Sep.pick sq1 [1, 2, 3, 0, 4, 5, 6] rfl rfl
      refine ⟨cat [[(k1, ogcB c)], [(k0, ogcB c)], [(n0, odoB x)], B1, E1, G1, A], Sep.subs sq1 [1, 2, 3, 0, 4, 5, 6] rfl, ?_⟩
      clear nuE fr
      simp only [cat, List.cons_append, List.nil_append, odoB, ogcB]
      intro ν fr
      have nuE := And.intro dst_ (And.intro (fr.mem (b := k1) (by simp)) (And.intro (fr.mem (b := k0) (by simp)) (And.intro (fr.mem (b := n0) (by simp)) fr.nu)))
      simp (maxDischargeDepth := 16) only [argE_nil, argE_cons, ↓vmD, vmV, vmStd, Nat.reduceMul, ↓reduceIte, Nat.reduceAdd, Nat.reduceSub, Nat.reduceEqDiff, Nat.reduceLT, Nat.reduceLeDiff, reduceCtorEq, Int.reduceToNat, Int.reduceLT, Int.reduceLE, Int.reduceEq, Int.reduceNeg, Int.reduceBEq, Int.reduceBNe, String.reduceEq, forall_const, ↓vmDA, vmVA, ↓vmQA, vmR, vmRA, ↓vmSA, vmSV, tyS, nuE, SubA.skip, SubA.refl, fr.2, vbRkC, nilGet_v, nilOpen_v, nilStep_v, nilExp_v, nilCases_v, nilHist_v, nilDisp_v, odoB, ogcB, tA_nil, tA_one, tA_two]
      refine CallA.newX (rhist_n hG1 hm64 x.id) (Sep.subs sq2 [5] rfl) ?_
      rintro v2 B2 ⟨hp2, hcap2, rfl, hhs2⟩ hd2
      refine ⟨_, hd2.right, ?_⟩
      clear nuE fr
      rw [← hFH1] at hhs2 ⊢
      have ei := eqInts_h (cat [[(k1, ogcB c)], [(k0, ogcB c)], [(n0, odoB x)], B1, E1, G1, A]) (histX x.id (F1.map Fo.d)) hp hcap hp2 hcap2 (hhs.mono (Sep.subs sq2 [3] rfl)) (hhs2.mono (Sep.subs sq2 [5] rfl)) (by omega)
      intro ν fr
      have nuE := And.intro dst_ (And.intro (fr.mem (b := k1) (by simp)) (And.intro (fr.mem (b := k0) (by simp)) (And.intro (fr.mem (b := n0) (by simp)) fr.nu)))
      simp (maxDischargeDepth := 16) only [argE_nil, argE_cons, ↓vmD, vmV, vmStd, Nat.reduceMul, ↓reduceIte, Nat.reduceAdd, Nat.reduceSub, Nat.reduceEqDiff, Nat.reduceLT, Nat.reduceLeDiff, reduceCtorEq, Int.reduceToNat, Int.reduceLT, Int.reduceLE, Int.reduceEq, Int.reduceNeg, Int.reduceBEq, Int.reduceBNe, String.reduceEq, forall_const, ↓vmDA, vmVA, ↓vmQA, vmR, vmRA, ↓vmSA, vmSV, tyS, nuE, SubA.skip, SubA.refl, fr.2, vbRkC, nilGet_v, nilOpen_v, nilStep_v, nilExp_v, nilCases_v, nilHist_v, nilDisp_v, odoB, ogcB, tA_nil, tA_one, tA_two]
      refine CallA.newX (pure_n ei) (SubA.refl _) ?_
      rintro v3 B3 rfl hd3
      refine ⟨cat [[(k1, ogcB c)], [(k0, ogcB c)], [(n0, odoB x)], B1, E1, G1, A], hd3.right, ?_⟩
      clear nuE fr ei hd3
      simp only [cat, List.cons_append, List.nil_append, odoB, ogcB]
      intro ν fr
      have nuE := And.intro dst_ (And.intro (fr.mem (b := k1) (by simp)) (And.intro (fr.mem (b := k0) (by simp)) (And.intro (fr.mem (b := n0) (by simp)) fr.nu)))
      simp (maxDischargeDepth := 16) only [argE_nil, argE_cons, ↓vmD, vmV, vmStd, Nat.reduceMul, ↓reduceIte, Nat.reduceAdd, Nat.reduceSub, Nat.reduceEqDiff, Nat.reduceLT, Nat.reduceLeDiff, reduceCtorEq, Int.reduceToNat, Int.reduceLT, Int.reduceLE, Int.reduceEq, Int.reduceNeg, Int.reduceBEq, Int.reduceBNe, String.reduceEq, forall_const, ↓vmDA, vmVA, ↓vmQA, vmR, vmRA, ↓vmSA, vmSV, tyS, nuE, SubA.skip, SubA.refl, fr.2, vbRkC, nilGet_v, nilOpen_v, nilStep_v, nilExp_v, nilCases_v, nilHist_v, nilDisp_v, odoB, ogcB, tA_nil, tA_one, tA_two]
      refine CallA.newX (pure_n (disp_h E1 db _ R F1 hE1 hF1k x.r.id)) (Sep.subs sq2 [4] rfl) ?_
      rintro v3 B3 rfl hd3
      refine ⟨cat [[(k1, ogcB c)], [(k0, ogcB c)], [(n0, odoB x)], B1, E1, G1, A], hd3.right, ?_⟩
      clear nuE fr hd3
      simp only [cat, List.cons_append, List.nil_append, odoB, ogcB]
      intro ν fr
      have nuE := And.intro dst_ (And.intro (fr.mem (b := k1) (by simp)) (And.intro (fr.mem (b := k0) (by simp)) (And.intro (fr.mem (b := n0) (by simp)) fr.nu)))
      simp (maxDischargeDepth := 16) only [argE_nil, argE_cons, ↓vmD, vmV, vmStd, Nat.reduceMul, ↓reduceIte, Nat.reduceAdd, Nat.reduceSub, Nat.reduceEqDiff, Nat.reduceLT, Nat.reduceLeDiff, reduceCtorEq, Int.reduceToNat, Int.reduceLT, Int.reduceLE, Int.reduceEq, Int.reduceNeg, Int.reduceBEq, Int.reduceBNe, String.reduceEq, forall_const, ↓vmDA, vmVA, ↓vmQA, vmR, vmRA, ↓vmSA, vmSV, tyS, nuE, SubA.skip, SubA.refl, fr.2, vbRkC, nilGet_v, nilOpen_v, nilStep_v, nilExp_v, nilCases_v, nilHist_v, nilDisp_v, odoB, ogcB, tA_nil, tA_one, tA_two]
      refine CallA.newX (pure_n (rdisp_h G1 rb _ p cap L H1 hG1 hH1k x.r.id)) (Sep.subs sq2 [5] rfl) ?_
      rintro v3 B3 rfl hd3
      refine ⟨cat [[(k1, ogcB c)], [(k0, ogcB c)], [(n0, odoB x)], B1, E1, G1, A], hd3.right, ?_⟩
      clear nuE fr hd3
      rw [← hFH1]
      simp only [cat, List.cons_append, List.nil_append, odoB, ogcB]
      intro ν fr
      have nuE := And.intro dst_ (And.intro (fr.mem (b := k1) (by simp)) (And.intro (fr.mem (b := k0) (by simp)) (And.intro (fr.mem (b := n0) (by simp)) fr.nu)))
      simp (maxDischargeDepth := 16) only [argE_nil, argE_cons, ↓vmD, vmV, vmStd, Nat.reduceMul, ↓reduceIte, Nat.reduceAdd, Nat.reduceSub, Nat.reduceEqDiff, Nat.reduceLT, Nat.reduceLeDiff, reduceCtorEq, Int.reduceToNat, Int.reduceLT, Int.reduceLE, Int.reduceEq, Int.reduceNeg, Int.reduceBEq, Int.reduceBNe, String.reduceEq, forall_const, ↓vmDA, vmVA, ↓vmQA, vmR, vmRA, ↓vmSA, vmSV, tyS, nuE, SubA.skip, SubA.refl, fr.2, vbRkC, nilGet_v, nilOpen_v, nilStep_v, nilExp_v, nilCases_v, nilHist_v, nilDisp_v, odoB, ogcB, tA_nil, tA_one, tA_two]
      refine CallA.newX (casesD_h E1 db _ R F1 hE1 hn64) (Sep.subs sq2 [4] rfl) ?_
      intro v B3 ho3 hd3
      obtain ⟨cp, ccap, rfl, hcc1, hcs1⟩ := ho3.read caC_len
      have sq3 : Sep [B3, [(k1, ogcB c)], [(k0, ogcB c)], [(n0, odoB x)], B1, E1, G1, A] := Sep.cons hd3 sq2
      have sq4 := Sep.pick sq3 [1, 2, 3, 0, 5, 6, 7] rfl rfl
      refine ⟨cat [[(k1, ogcB c)], [(k0, ogcB c)], [(n0, odoB x)], B3, E1, G1, A], Sep.subs sq3 [1, 2, 3, 0, 5, 6, 7] rfl, ?_⟩
      clear nuE fr
      simp only [cat, List.cons_append, List.nil_append, odoB, ogcB]
      intro ν fr
      have nuE := And.intro dst_ (And.intro (fr.mem (b := k1) (by simp)) (And.intro (fr.mem (b := k0) (by simp)) (And.intro (fr.mem (b := n0) (by simp)) fr.nu)))
      simp (maxDischargeDepth := 16) only [argE_nil, argE_cons, ↓vmD, vmV, vmStd, Nat.reduceMul, ↓reduceIte, Nat.reduceAdd, Nat.reduceSub, Nat.reduceEqDiff, Nat.reduceLT, Nat.reduceLeDiff, reduceCtorEq, Int.reduceToNat, Int.reduceLT, Int.reduceLE, Int.reduceEq, Int.reduceNeg, Int.reduceBEq, Int.reduceBNe, String.reduceEq, forall_const, ↓vmDA, vmVA, ↓vmQA, vmR, vmRA, ↓vmSA, vmSV, tyS, nuE, SubA.skip, SubA.refl, fr.2, vbRkC, nilGet_v, nilOpen_v, nilStep_v, nilExp_v, nilCases_v, nilHist_v, nilDisp_v, odoB, ogcB, tA_nil, tA_one, tA_two]
      refine CallA.newX (rcasesD_h G1 rb _ p cap L H1 hG1 hm64) (Sep.subs sq4 [5] rfl) ?_
      intro v B4 ho4 hd4
      have hcc : (H1.map fun f => f.d.c) = F1.map fun f => f.d.c := by
        have := congrArg (List.map Fd.c) hFH1
        rw [List.map_map, List.map_map] at this
        exact this.symm
      rw [hcc] at ho4
      obtain ⟨cp2, ccap2, rfl, hcc2, hcs2⟩ := ho4.read caC_len
      have sq5 : Sep [B4, [(k1, ogcB c)], [(k0, ogcB c)], [(n0, odoB x)], B3, E1, G1, A] := Sep.cons hd4 sq4
      have sq6 := Sep.pick sq5 [1, 2, 3, 0, 4, 5, 6, 7] rfl rfl
      refine ⟨cat [[(k1, ogcB c)], [(k0, ogcB c)], [(n0, odoB x)], B4, B3, E1, G1, A], Sep.subs sq5 [1, 2, 3, 0, 4, 5, 6, 7] rfl, ?_⟩
      clear nuE fr
      have ec := eqCases_h (cat [[(k1, ogcB c)], [(k0, ogcB c)], [(n0, odoB x)], B4, B3, E1, G1, A]) (F1.map fun f : Fo => f.d.c) cp ccap cp2 ccap2 (hcs1.mono (Sep.subs sq6 [4] rfl)) (hcs2.mono (Sep.subs sq6 [3] rfl)) (by simp; omega)
      simp only [cat, List.cons_append, List.nil_append, odoB, ogcB]
      intro ν fr
      have nuE := And.intro dst_ (And.intro (fr.mem (b := k1) (by simp)) (And.intro (fr.mem (b := k0) (by simp)) (And.intro (fr.mem (b := n0) (by simp)) fr.nu)))
      simp (maxDischargeDepth := 16) only [argE_nil, argE_cons, ↓vmD, vmV, vmStd, Nat.reduceMul, ↓reduceIte, Nat.reduceAdd, Nat.reduceSub, Nat.reduceEqDiff, Nat.reduceLT, Nat.reduceLeDiff, reduceCtorEq, Int.reduceToNat, Int.reduceLT, Int.reduceLE, Int.reduceEq, Int.reduceNeg, Int.reduceBEq, Int.reduceBNe, String.reduceEq, forall_const, ↓vmDA, vmVA, ↓vmQA, vmR, vmRA, ↓vmSA, vmSV, tyS, nuE, SubA.skip, SubA.refl, fr.2, vbRkC, nilGet_v, nilOpen_v, nilStep_v, nilExp_v, nilCases_v, nilHist_v, nilDisp_v, odoB, ogcB, tA_nil, tA_one, tA_two]
      refine CallA.newX (pure_n ec) (SubA.refl _) ?_
      rintro v3 B5 rfl hd3
      refine ⟨cat [[(k1, ogcB c)], [(k0, ogcB c)], [(n0, odoB x)], B4, B3, E1, G1, A], hd3.right, ?_⟩
      clear nuE fr ec hd3
      simp only [cat, List.cons_append, List.nil_append, odoB, ogcB]
      intro ν fr
      have nuE := And.intro dst_ (And.intro (fr.mem (b := k1) (by simp)) (And.intro (fr.mem (b := k0) (by simp)) (And.intro (fr.mem (b := n0) (by simp)) fr.nu)))
      simp (maxDischargeDepth := 16) only [argE_nil, argE_cons, ↓vmD, vmV, vmStd, Nat.reduceMul, ↓reduceIte, Nat.reduceAdd, Nat.reduceSub, Nat.reduceEqDiff, Nat.reduceLT, Nat.reduceLeDiff, reduceCtorEq, Int.reduceToNat, Int.reduceLT, Int.reduceLE, Int.reduceEq, Int.reduceNeg, Int.reduceBEq, Int.reduceBNe, String.reduceEq, forall_const, ↓vmDA, vmVA, ↓vmQA, vmR, vmRA, ↓vmSA, vmSV, tyS, nuE, SubA.skip, SubA.refl, fr.2, vbRkC, nilGet_v, nilOpen_v, nilStep_v, nilExp_v, nilCases_v, nilHist_v, nilDisp_v, odoB, ogcB, tA_nil, tA_one, tA_two, we]
      refine LoopA.at (A := cat [E1, G1, A]) (Sep.subs sq6 [5, 6, 7] rfl) ?_
      exact LoopA.weak (ih (e := e + 1) (E := E1) (G := G1) (fv := _) (gv := _) (F := F1) (H := H1) hYE.2 hd' (by omega) hE1 hG1 hFH1 hF1k) (by simp only [subE, get_cons, Nat.reduceEqDiff, ↓reduceIte, reduceCtorEq, Nat.reduceAdd, and_self, and_true]) (SubA.refl _)
    · have h2' : (((x.kd % 3 : Nat) : Int) = 2) = False := eq_false (by omega)
      have hr : runX (R.map Rs.d) (F.map Fo.d) x = (doX (R.map Rs.d) (F.map Fo.d) x).2 := if_neg h2
      have hdo : ∀ (n0 : Nat), Vm.look (cat [E, G, A]) n0 = none → CallA Tryz.prog 13 #[.pointer (some ⟨db, 0, none⟩), .agg #[.int .u8 (x.kd : Int), .string (bs x.id), .string (bs x.code), .int .i64 x.r.kd, .string (bs x.r.id), .string (bs x.r.au), .string (bs x.r.aq), .string (bs x.r.is), .string (bs x.r.me), .string (bs x.r.ca), .int .i64 x.r.am, .string (bs x.r.cu), .int .i64 x.r.da, .int .i64 x.r.ct, .bool x.r.fi, .int .i64 x.am, .int .i64 x.ev, .int .i64 x.dt, .slice x.ip x.its.length x.ic]] (E ++ A) fun u D => ∃ E', (u = .int .i64 (doX (R.map Rs.d) (F.map Fo.d) x).1 ∧ ∃ fv' F', DkP E' db fv' R F' ∧ F'.map Fo.d = (doX (R.map Rs.d) (F.map Fo.d) x).2) ∧ Dis E' A ∧ SubA (E' ++ A) D := fun n0 _ => qS (callP_h E A db fv R F hE hEA hF x hk255 hI)
      have tail : ∀ (n0 : Nat) (G1 : AH), Sep [[(n0, odoB x)], E, G1, A] → ∀ K : Value → AH → Prop, (∀ E1 fv1 F1, DkP E1 db fv1 R F1 → F1.map Fo.d = (doX (R.map Rs.d) (F.map Fo.d) x).2 → Sep [[(n0, odoB x)], E1, G1, A] → K (.int .i64 (doX (R.map Rs.d) (F.map Fo.d) x).1) (cat [[(n0, odoB x)], E1, G1, A])) → CallA Tryz.prog 13 #[.pointer (some ⟨db, 0, none⟩), .agg #[.int .u8 (x.kd : Int), .string (bs x.id), .string (bs x.code), .int .i64 x.r.kd, .string (bs x.r.id), .string (bs x.r.au), .string (bs x.r.aq), .string (bs x.r.is), .string (bs x.r.me), .string (bs x.r.ca), .int .i64 x.r.am, .string (bs x.r.cu), .int .i64 x.r.da, .int .i64 x.r.ct, .bool x.r.fi, .int .i64 x.am, .int .i64 x.ev, .int .i64 x.dt, .slice x.ip x.its.length x.ic]] (cat [[(n0, odoB x)], E, G1, A]) K := fun n0 G1 sp1 K hK => by
        refine CallA.stS (qS (callP_h E A db fv R F hE hEA hF x hk255 hI)) (Sep.coarse (a := [E, A]) (m := [[(n0, odoB x)], G1]) (Sep.pick sp1 [1, 3, 0, 2] rfl rfl)) (Sep.subs sp1 [1, 3, 0, 2] rfl) ?_
        rintro v E1 ⟨rfl, fv1, F1, hE1, hF1⟩ sp2'
        have sp2 : Sep [E1, A, [(n0, odoB x)], G1] := Sep.fine (a := [E1, A]) sp2' (Sep.pick sp1 [0, 2] rfl rfl)
        exact ⟨cat [[(n0, odoB x)], E1, G1, A], Sep.subs sp2 [2, 0, 3, 1] rfl, hK E1 fv1 F1 hE1 hF1 (Sep.pick sp2 [2, 0, 3, 1] rfl rfl)⟩
      by_cases h0 : x.kd % 3 = 0
      · have k0 : (((x.kd % 3 : Nat) : Int) = 0) = True := eq_true (by omega)
        have hdx : doX (R.map Rs.d) (F.map Fo.d) x = openX (R.map Rs.d) (F.map Fo.d) x.id x.r x.code x.am x.dt x.its := if_pos h0
        have hsame : openX (L.map Rs.d) (H.map Fo.d) x.id x.r x.code x.am x.dt x.its = doX (R.map Rs.d) (F.map Fo.d) x := by rw [hdx, hR, hFH]
        simp (maxDischargeDepth := 16) only [argE_nil, argE_cons, ↓vmD, vmV, vmStd, Nat.reduceMul, ↓reduceIte, Nat.reduceAdd, Nat.reduceSub, Nat.reduceEqDiff, Nat.reduceLT, Nat.reduceLeDiff, reduceCtorEq, Int.reduceToNat, Int.reduceLT, Int.reduceLE, Int.reduceEq, Int.reduceNeg, Int.reduceBEq, Int.reduceBNe, String.reduceEq, forall_const, ↓vmDA, vmVA, ↓vmQA, vmR, vmRA, ↓vmSA, vmSV, tyS, nuE, SubA.skip, SubA.refl, fr.2, vbRkC, nilGet_v, nilOpen_v, nilStep_v, nilExp_v, nilCases_v, nilHist_v, nilDisp_v, lt, li, hbk2, hcr, km, kw, h2', k0]
        have dst_ : True := (by simp [nuE]); generalize ν 0 = n0 at dst_  f0 ⊢
        clear nuE fr
        have sp1 : Sep [[(n0, odoB x)], E, G, A] := Sep.fresh f0 _ sp0
        refine CallA.stS (rqS (ropen_h G A rb gv p cap L H hG hGA hL hBR h32 hH x.id x.r x.code x.am x.dt x.its x.ip x.ic hI z1 z2 z3)) (Sep.coarse (a := [G, A]) (m := [[(n0, odoB x)], E]) (Sep.pick sp1 [2, 3, 0, 1] rfl rfl)) (Sep.subs sp1 [2, 3, 0, 1] rfl) ?_
        rintro v G1 ⟨rfl, gv1, H1, hG1, hH1⟩ sp2'
        have sp2 : Sep [G1, A, [(n0, odoB x)], E] := Sep.fine (a := [G1, A]) sp2' (Sep.pick sp1 [0, 1] rfl rfl)
        rw [hsame] at hH1 ⊢
        refine ⟨cat [[(n0, odoB x)], E, G1, A], Sep.subs sp2 [2, 3, 0, 1] rfl, ?_⟩
        simp only [cat, List.cons_append, List.nil_append, odoB, ogcB]
        intro ν fr; have nuE := And.intro (fr.mem (b := n0) (by simp)) (fr.nu)
        simp (maxDischargeDepth := 16) only [argE_nil, argE_cons, ↓vmD, vmV, vmStd, Nat.reduceMul, ↓reduceIte, Nat.reduceAdd, Nat.reduceSub, Nat.reduceEqDiff, Nat.reduceLT, Nat.reduceLeDiff, reduceCtorEq, Int.reduceToNat, Int.reduceLT, Int.reduceLE, Int.reduceEq, Int.reduceNeg, Int.reduceBEq, Int.reduceBNe, String.reduceEq, forall_const, ↓vmDA, vmVA, ↓vmQA, vmR, vmRA, ↓vmSA, vmSV, tyS, nuE, SubA.skip, SubA.refl, fr.2, vbRkC, nilGet_v, nilOpen_v, nilStep_v, nilExp_v, nilCases_v, nilHist_v, nilDisp_v]
        refine tail n0 G1 (Sep.pick sp2 [2, 3, 0, 1] rfl rfl) _ ?_
        intro E1 fv1 F1 hE1 hF1 sp3
        have hFH1 : F1.map Fo.d = H1.map Fo.d := by rw [hF1, hH1]
        have hF1k : FdsOk (F1.map Fo.d) := by rw [hF1, ← hr]; exact hrun
        obtain ⟨Y, hY, hYn, hYE, hsY⟩ : ∃ Y, Y = E1 ++ (G1 ++ A) ∧ Vm.look Y n0 = none ∧ Sep [[(n0, odoB x)], E1, G1, A] ∧ SubA (cat [E1, G1, A]) Y := ⟨_, rfl, (Sep.dis sp3).symm n0 (by simp [Vm.look]), sp3, SubA.refl _⟩
        simp only [cat, List.cons_append, List.nil_append, odoB, ogcB]
        rw [← hY]
        clear hY
        clear sp3 sp2 sp2' sp1 hE hG hFH hF hH hsame hr hF1 hH1 tail hdo

        have sY : ∀ o, SubA Y ((n0, o) :: Y) := fun o => SubA.fresh hYn (SubA.refl _)
        have hl64 := hF1k.2.1
        have hH1k : FdsOk (H1.map Fo.d) := by rw [← hFH1]; exact hF1k
        have hm64 : H1.length ≤ 64 := by have := hH1k.2.1; simpa using this
        have hn64 : F1.length ≤ 64 := by simpa using hl64
        have sE1 : SubA E1 Y := SubA.trans (Sep.subs hYE.2 [0] rfl) hsY
        have sG1 : SubA G1 Y := SubA.trans (Sep.subs hYE.2 [1] rfl) hsY
        have c1 := getDk_w E1 db _ R F1 hE1 x.id ((n0, odoB x) :: Y) (SubA.trans sE1 (sY _))
        have c2 := fun B hB => rgetDk_w G1 rb _ p cap L H1 hG1 hm64 x.id B hB
        rw [← hFH1] at c2
        generalize hcg : (getX x.id (F1.map Fo.d)).getD noCa = c at c1 c2
        generalize hcs : (getX x.id (F1.map Fo.d)).isSome = cb at c1 c2
        simp only [caAgg, odoB] at c1 c2
        intro ν fr; have nuE := And.intro (fr.mem (b := n0) (by simp)) (fr.nu)
        have q0 : Vm.look ((n0, odoB x) :: Y) (ν 0) = none := fr.2 0
        have q1 : Vm.look ((ν 0, ogcB c) :: (n0, odoB x) :: Y) (ν 1) = none := by
          have := fr.2 1
          simp only [Vm.look, nuE, if_false] at this ⊢
          exact this
        have c2' := c2 ((ν 0, ogcB c) :: (n0, odoB x) :: Y) (SubA.fresh q0 (SubA.trans sG1 (sY _)))
        simp only [odoB, ogcB] at c2'
        simp (maxDischargeDepth := 16) only [argE_nil, argE_cons, ↓vmD, vmV, vmStd, Nat.reduceMul, ↓reduceIte, Nat.reduceAdd, Nat.reduceSub, Nat.reduceEqDiff, Nat.reduceLT, Nat.reduceLeDiff, reduceCtorEq, Int.reduceToNat, Int.reduceLT, Int.reduceLE, Int.reduceEq, Int.reduceNeg, Int.reduceBEq, Int.reduceBNe, String.reduceEq, forall_const, ↓vmDA, vmVA, ↓vmQA, vmR, vmRA, ↓vmSA, vmSV, tyS, nuE, SubA.skip, SubA.refl, fr.2, vbRkC, nilGet_v, nilOpen_v, nilStep_v, nilExp_v, nilCases_v, nilHist_v, nilDisp_v, odoB, ogcB, tA_nil, tA_one, tA_two, c1, c2', km, kw, h2']
        have dst_ : ((ν 0 = ν 1) = False) ∧ ((ν 0 = n0) = False) ∧ ((ν 1 = ν 0) = False) ∧ ((ν 1 = n0) = False) ∧ ((n0 = ν 0) = False) ∧ ((n0 = ν 1) = False) := (by simp [nuE]); generalize ν 0 = k0 at dst_  q0 q1 ⊢; generalize ν 1 = k1 at dst_  q0 q1 ⊢
        clear nuE fr c2' c2 c1
        have sq : Sep [[(k1, ogcB c)], [(k0, ogcB c)], [(n0, odoB x)], E1, G1, A] := by
          have s1 : Sep ([(n0, odoB x)] :: E1 :: G1 :: A :: []) := hYE
          have g0 : Vm.look (cat [[(n0, odoB x)], E1, G1, A]) k0 = none := (cons_in (x := n0) (o := odoB x) hsY : SubA (cat [[(n0, odoB x)], E1, G1, A]) _).none q0
          have g1 : Vm.look (cat [[(k0, ogcB c)], [(n0, odoB x)], E1, G1, A]) k1 = none := (cons_in (x := k0) (o := ogcB c) (cons_in (x := n0) (o := odoB x) hsY) : SubA (cat [[(k0, ogcB c)], [(n0, odoB x)], E1, G1, A]) _).none q1
          exact Sep.fresh g1 _ (Sep.fresh g0 _ s1)
        refine MeantA.at (A := cat [[(k1, ogcB c)], [(k0, ogcB c)], [(n0, odoB x)], E1, G1, A]) (cons_in (cons_in (cons_in hsY))) ?_
        simp only [cat, List.cons_append, List.nil_append, odoB, ogcB]
        refine MeantA.tree [] (.one 0 0 (.one 1 0 (.one 2 0 (.one 3 0 (.one 4 0 (.one 5 0 (.one 6 0 (.one 7 0 (.one 8 0 (.one 9 0 (.one 10 0 (.one 11 0 (.one 13 0 (.one 14 0 (.one 15 0 (.one 12 0 (.one 16 0 (.one 17 0 (.one 18 0 (.one 19 0 (.one 20 0 (.one 21 0 (.one 22 0 (.one 23 0 (.one 24 0 (.one 26 0 (.one 27 0 (.one 28 0 (.one 29 0 (.one 25 0 (.one 30 0 (.one 31 0 (.one 32 0 (.one 33 0 (.one 34 0 (.one 36 0 (.one 35 0 (.one 37 0 (.one 38 1 (.one 39 0 (.one 40 0 .nil))))))))))))))))))))))))))))))))))))))))) [(k1, ogcB c), (k0, ogcB c), (n0, odoB x)] (SubA.left [_, _, _] _) (by kernel_rfl) (by kernel_rfl) (by kernel_rfl) (by kernel_rfl) (by kernel_rfl) ?_
        intro ν fr
        have nuE := And.intro dst_ (And.intro (fr.mem (b := k1) (by simp)) (And.intro (fr.mem (b := k0) (by simp)) (And.intro (fr.mem (b := n0) (by simp)) fr.nu)))
        simp (maxDischargeDepth := 16) only [argE_nil, argE_cons, ↓vmD, vmV, vmStd, Nat.reduceMul, ↓reduceIte, Nat.reduceAdd, Nat.reduceSub, Nat.reduceEqDiff, Nat.reduceLT, Nat.reduceLeDiff, reduceCtorEq, Int.reduceToNat, Int.reduceLT, Int.reduceLE, Int.reduceEq, Int.reduceNeg, Int.reduceBEq, Int.reduceBNe, String.reduceEq, forall_const, ↓vmDA, vmVA, ↓vmQA, vmR, vmRA, ↓vmSA, vmSV, tyS, nuE, SubA.skip, SubA.refl, fr.2, vbRkC, nilGet_v, nilOpen_v, nilStep_v, nilExp_v, nilCases_v, nilHist_v, nilDisp_v, odoB, ogcB, tA_nil, tA_one, tA_two]
        have hh100 : ∀ f ∈ F1, f.d.h.length ≤ 100 := fun f hf => by
          obtain ⟨a1, a2, a3, _⟩ := hF1k.1 f.d (List.mem_map_of_mem hf)
          omega
        have hhl := hist_len hF1k x.id
        refine CallA.newX (histD_h E1 db _ R F1 hE1 hh100 x.id) (Sep.subs sq [3] rfl) ?_
        intro v B1 ho1 hdB1
        obtain ⟨hp, hcap, rfl, hhc, hhs⟩ := ho1.read intC_len
        have sq1 : Sep [B1, [(k1, ogcB c)], [(k0, ogcB c)], [(n0, odoB x)], E1, G1, A] := Sep.cons hdB1 sq
        have sq2 := Sep.pick sq1 [1, 2, 3, 0, 4, 5, 6] rfl rfl
        refine ⟨cat [[(k1, ogcB c)], [(k0, ogcB c)], [(n0, odoB x)], B1, E1, G1, A], Sep.subs sq1 [1, 2, 3, 0, 4, 5, 6] rfl, ?_⟩
        clear nuE fr
        simp only [cat, List.cons_append, List.nil_append, odoB, ogcB]
        intro ν fr
        have nuE := And.intro dst_ (And.intro (fr.mem (b := k1) (by simp)) (And.intro (fr.mem (b := k0) (by simp)) (And.intro (fr.mem (b := n0) (by simp)) fr.nu)))
        simp (maxDischargeDepth := 16) only [argE_nil, argE_cons, ↓vmD, vmV, vmStd, Nat.reduceMul, ↓reduceIte, Nat.reduceAdd, Nat.reduceSub, Nat.reduceEqDiff, Nat.reduceLT, Nat.reduceLeDiff, reduceCtorEq, Int.reduceToNat, Int.reduceLT, Int.reduceLE, Int.reduceEq, Int.reduceNeg, Int.reduceBEq, Int.reduceBNe, String.reduceEq, forall_const, ↓vmDA, vmVA, ↓vmQA, vmR, vmRA, ↓vmSA, vmSV, tyS, nuE, SubA.skip, SubA.refl, fr.2, vbRkC, nilGet_v, nilOpen_v, nilStep_v, nilExp_v, nilCases_v, nilHist_v, nilDisp_v, odoB, ogcB, tA_nil, tA_one, tA_two]
        refine CallA.newX (rhist_n hG1 hm64 x.id) (Sep.subs sq2 [5] rfl) ?_
        rintro v2 B2 ⟨hp2, hcap2, rfl, hhs2⟩ hd2
        refine ⟨_, hd2.right, ?_⟩
        clear nuE fr
        rw [← hFH1] at hhs2 ⊢
        have ei := eqInts_h (cat [[(k1, ogcB c)], [(k0, ogcB c)], [(n0, odoB x)], B1, E1, G1, A]) (histX x.id (F1.map Fo.d)) hp hcap hp2 hcap2 (hhs.mono (Sep.subs sq2 [3] rfl)) (hhs2.mono (Sep.subs sq2 [5] rfl)) (by omega)
        intro ν fr
        have nuE := And.intro dst_ (And.intro (fr.mem (b := k1) (by simp)) (And.intro (fr.mem (b := k0) (by simp)) (And.intro (fr.mem (b := n0) (by simp)) fr.nu)))
        simp (maxDischargeDepth := 16) only [argE_nil, argE_cons, ↓vmD, vmV, vmStd, Nat.reduceMul, ↓reduceIte, Nat.reduceAdd, Nat.reduceSub, Nat.reduceEqDiff, Nat.reduceLT, Nat.reduceLeDiff, reduceCtorEq, Int.reduceToNat, Int.reduceLT, Int.reduceLE, Int.reduceEq, Int.reduceNeg, Int.reduceBEq, Int.reduceBNe, String.reduceEq, forall_const, ↓vmDA, vmVA, ↓vmQA, vmR, vmRA, ↓vmSA, vmSV, tyS, nuE, SubA.skip, SubA.refl, fr.2, vbRkC, nilGet_v, nilOpen_v, nilStep_v, nilExp_v, nilCases_v, nilHist_v, nilDisp_v, odoB, ogcB, tA_nil, tA_one, tA_two]
        refine CallA.newX (pure_n ei) (SubA.refl _) ?_
        rintro v3 B3 rfl hd3
        refine ⟨cat [[(k1, ogcB c)], [(k0, ogcB c)], [(n0, odoB x)], B1, E1, G1, A], hd3.right, ?_⟩
        clear nuE fr ei hd3
        simp only [cat, List.cons_append, List.nil_append, odoB, ogcB]
        intro ν fr
        have nuE := And.intro dst_ (And.intro (fr.mem (b := k1) (by simp)) (And.intro (fr.mem (b := k0) (by simp)) (And.intro (fr.mem (b := n0) (by simp)) fr.nu)))
        simp (maxDischargeDepth := 16) only [argE_nil, argE_cons, ↓vmD, vmV, vmStd, Nat.reduceMul, ↓reduceIte, Nat.reduceAdd, Nat.reduceSub, Nat.reduceEqDiff, Nat.reduceLT, Nat.reduceLeDiff, reduceCtorEq, Int.reduceToNat, Int.reduceLT, Int.reduceLE, Int.reduceEq, Int.reduceNeg, Int.reduceBEq, Int.reduceBNe, String.reduceEq, forall_const, ↓vmDA, vmVA, ↓vmQA, vmR, vmRA, ↓vmSA, vmSV, tyS, nuE, SubA.skip, SubA.refl, fr.2, vbRkC, nilGet_v, nilOpen_v, nilStep_v, nilExp_v, nilCases_v, nilHist_v, nilDisp_v, odoB, ogcB, tA_nil, tA_one, tA_two]
        refine CallA.newX (pure_n (disp_h E1 db _ R F1 hE1 hF1k x.r.id)) (Sep.subs sq2 [4] rfl) ?_
        rintro v3 B3 rfl hd3
        refine ⟨cat [[(k1, ogcB c)], [(k0, ogcB c)], [(n0, odoB x)], B1, E1, G1, A], hd3.right, ?_⟩
        clear nuE fr hd3
        simp only [cat, List.cons_append, List.nil_append, odoB, ogcB]
        intro ν fr
        have nuE := And.intro dst_ (And.intro (fr.mem (b := k1) (by simp)) (And.intro (fr.mem (b := k0) (by simp)) (And.intro (fr.mem (b := n0) (by simp)) fr.nu)))
        simp (maxDischargeDepth := 16) only [argE_nil, argE_cons, ↓vmD, vmV, vmStd, Nat.reduceMul, ↓reduceIte, Nat.reduceAdd, Nat.reduceSub, Nat.reduceEqDiff, Nat.reduceLT, Nat.reduceLeDiff, reduceCtorEq, Int.reduceToNat, Int.reduceLT, Int.reduceLE, Int.reduceEq, Int.reduceNeg, Int.reduceBEq, Int.reduceBNe, String.reduceEq, forall_const, ↓vmDA, vmVA, ↓vmQA, vmR, vmRA, ↓vmSA, vmSV, tyS, nuE, SubA.skip, SubA.refl, fr.2, vbRkC, nilGet_v, nilOpen_v, nilStep_v, nilExp_v, nilCases_v, nilHist_v, nilDisp_v, odoB, ogcB, tA_nil, tA_one, tA_two]
        refine CallA.newX (pure_n (rdisp_h G1 rb _ p cap L H1 hG1 hH1k x.r.id)) (Sep.subs sq2 [5] rfl) ?_
        rintro v3 B3 rfl hd3
        refine ⟨cat [[(k1, ogcB c)], [(k0, ogcB c)], [(n0, odoB x)], B1, E1, G1, A], hd3.right, ?_⟩
        clear nuE fr hd3
        rw [← hFH1]
        simp only [cat, List.cons_append, List.nil_append, odoB, ogcB]
        intro ν fr
        have nuE := And.intro dst_ (And.intro (fr.mem (b := k1) (by simp)) (And.intro (fr.mem (b := k0) (by simp)) (And.intro (fr.mem (b := n0) (by simp)) fr.nu)))
        simp (maxDischargeDepth := 16) only [argE_nil, argE_cons, ↓vmD, vmV, vmStd, Nat.reduceMul, ↓reduceIte, Nat.reduceAdd, Nat.reduceSub, Nat.reduceEqDiff, Nat.reduceLT, Nat.reduceLeDiff, reduceCtorEq, Int.reduceToNat, Int.reduceLT, Int.reduceLE, Int.reduceEq, Int.reduceNeg, Int.reduceBEq, Int.reduceBNe, String.reduceEq, forall_const, ↓vmDA, vmVA, ↓vmQA, vmR, vmRA, ↓vmSA, vmSV, tyS, nuE, SubA.skip, SubA.refl, fr.2, vbRkC, nilGet_v, nilOpen_v, nilStep_v, nilExp_v, nilCases_v, nilHist_v, nilDisp_v, odoB, ogcB, tA_nil, tA_one, tA_two]
        refine CallA.newX (casesD_h E1 db _ R F1 hE1 hn64) (Sep.subs sq2 [4] rfl) ?_
        intro v B3 ho3 hd3
        obtain ⟨cp, ccap, rfl, hcc1, hcs1⟩ := ho3.read caC_len
        have sq3 : Sep [B3, [(k1, ogcB c)], [(k0, ogcB c)], [(n0, odoB x)], B1, E1, G1, A] := Sep.cons hd3 sq2
        have sq4 := Sep.pick sq3 [1, 2, 3, 0, 5, 6, 7] rfl rfl
        refine ⟨cat [[(k1, ogcB c)], [(k0, ogcB c)], [(n0, odoB x)], B3, E1, G1, A], Sep.subs sq3 [1, 2, 3, 0, 5, 6, 7] rfl, ?_⟩
        clear nuE fr
        simp only [cat, List.cons_append, List.nil_append, odoB, ogcB]
        intro ν fr
        have nuE := And.intro dst_ (And.intro (fr.mem (b := k1) (by simp)) (And.intro (fr.mem (b := k0) (by simp)) (And.intro (fr.mem (b := n0) (by simp)) fr.nu)))
        simp (maxDischargeDepth := 16) only [argE_nil, argE_cons, ↓vmD, vmV, vmStd, Nat.reduceMul, ↓reduceIte, Nat.reduceAdd, Nat.reduceSub, Nat.reduceEqDiff, Nat.reduceLT, Nat.reduceLeDiff, reduceCtorEq, Int.reduceToNat, Int.reduceLT, Int.reduceLE, Int.reduceEq, Int.reduceNeg, Int.reduceBEq, Int.reduceBNe, String.reduceEq, forall_const, ↓vmDA, vmVA, ↓vmQA, vmR, vmRA, ↓vmSA, vmSV, tyS, nuE, SubA.skip, SubA.refl, fr.2, vbRkC, nilGet_v, nilOpen_v, nilStep_v, nilExp_v, nilCases_v, nilHist_v, nilDisp_v, odoB, ogcB, tA_nil, tA_one, tA_two]
        refine CallA.newX (rcasesD_h G1 rb _ p cap L H1 hG1 hm64) (Sep.subs sq4 [5] rfl) ?_
        intro v B4 ho4 hd4
        have hcc : (H1.map fun f => f.d.c) = F1.map fun f => f.d.c := by
          have := congrArg (List.map Fd.c) hFH1
          rw [List.map_map, List.map_map] at this
          exact this.symm
        rw [hcc] at ho4
        obtain ⟨cp2, ccap2, rfl, hcc2, hcs2⟩ := ho4.read caC_len
        have sq5 : Sep [B4, [(k1, ogcB c)], [(k0, ogcB c)], [(n0, odoB x)], B3, E1, G1, A] := Sep.cons hd4 sq4
        have sq6 := Sep.pick sq5 [1, 2, 3, 0, 4, 5, 6, 7] rfl rfl
        refine ⟨cat [[(k1, ogcB c)], [(k0, ogcB c)], [(n0, odoB x)], B4, B3, E1, G1, A], Sep.subs sq5 [1, 2, 3, 0, 4, 5, 6, 7] rfl, ?_⟩
        clear nuE fr
        have ec := eqCases_h (cat [[(k1, ogcB c)], [(k0, ogcB c)], [(n0, odoB x)], B4, B3, E1, G1, A]) (F1.map fun f : Fo => f.d.c) cp ccap cp2 ccap2 (hcs1.mono (Sep.subs sq6 [4] rfl)) (hcs2.mono (Sep.subs sq6 [3] rfl)) (by simp; omega)
        simp only [cat, List.cons_append, List.nil_append, odoB, ogcB]
        intro ν fr
        have nuE := And.intro dst_ (And.intro (fr.mem (b := k1) (by simp)) (And.intro (fr.mem (b := k0) (by simp)) (And.intro (fr.mem (b := n0) (by simp)) fr.nu)))
        simp (maxDischargeDepth := 16) only [argE_nil, argE_cons, ↓vmD, vmV, vmStd, Nat.reduceMul, ↓reduceIte, Nat.reduceAdd, Nat.reduceSub, Nat.reduceEqDiff, Nat.reduceLT, Nat.reduceLeDiff, reduceCtorEq, Int.reduceToNat, Int.reduceLT, Int.reduceLE, Int.reduceEq, Int.reduceNeg, Int.reduceBEq, Int.reduceBNe, String.reduceEq, forall_const, ↓vmDA, vmVA, ↓vmQA, vmR, vmRA, ↓vmSA, vmSV, tyS, nuE, SubA.skip, SubA.refl, fr.2, vbRkC, nilGet_v, nilOpen_v, nilStep_v, nilExp_v, nilCases_v, nilHist_v, nilDisp_v, odoB, ogcB, tA_nil, tA_one, tA_two]
        refine CallA.newX (pure_n ec) (SubA.refl _) ?_
        rintro v3 B5 rfl hd3
        refine ⟨cat [[(k1, ogcB c)], [(k0, ogcB c)], [(n0, odoB x)], B4, B3, E1, G1, A], hd3.right, ?_⟩
        clear nuE fr ec hd3
        simp only [cat, List.cons_append, List.nil_append, odoB, ogcB]
        intro ν fr
        have nuE := And.intro dst_ (And.intro (fr.mem (b := k1) (by simp)) (And.intro (fr.mem (b := k0) (by simp)) (And.intro (fr.mem (b := n0) (by simp)) fr.nu)))
        simp (maxDischargeDepth := 16) only [argE_nil, argE_cons, ↓vmD, vmV, vmStd, Nat.reduceMul, ↓reduceIte, Nat.reduceAdd, Nat.reduceSub, Nat.reduceEqDiff, Nat.reduceLT, Nat.reduceLeDiff, reduceCtorEq, Int.reduceToNat, Int.reduceLT, Int.reduceLE, Int.reduceEq, Int.reduceNeg, Int.reduceBEq, Int.reduceBNe, String.reduceEq, forall_const, ↓vmDA, vmVA, ↓vmQA, vmR, vmRA, ↓vmSA, vmSV, tyS, nuE, SubA.skip, SubA.refl, fr.2, vbRkC, nilGet_v, nilOpen_v, nilStep_v, nilExp_v, nilCases_v, nilHist_v, nilDisp_v, odoB, ogcB, tA_nil, tA_one, tA_two, we]
        refine LoopA.at (A := cat [E1, G1, A]) (Sep.subs sq6 [5, 6, 7] rfl) ?_
        exact LoopA.weak (ih (e := e + 1) (E := E1) (G := G1) (fv := _) (gv := _) (F := F1) (H := H1) hYE.2 hd' (by omega) hE1 hG1 hFH1 hF1k) (by simp only [subE, get_cons, Nat.reduceEqDiff, ↓reduceIte, reduceCtorEq, Nat.reduceAdd, and_self, and_true]) (SubA.refl _)
      · have k0 : (((x.kd % 3 : Nat) : Int) = 0) = False := eq_false (by omega)
        have hdx : doX (R.map Rs.d) (F.map Fo.d) x = stepX (R.map Rs.d) (F.map Fo.d) x.id x.ev x.dt x.its := if_neg h0
        have hsame : stepX (L.map Rs.d) (H.map Fo.d) x.id x.ev x.dt x.its = doX (R.map Rs.d) (F.map Fo.d) x := by rw [hdx, hR, hFH]
        simp (maxDischargeDepth := 16) only [argE_nil, argE_cons, ↓vmD, vmV, vmStd, Nat.reduceMul, ↓reduceIte, Nat.reduceAdd, Nat.reduceSub, Nat.reduceEqDiff, Nat.reduceLT, Nat.reduceLeDiff, reduceCtorEq, Int.reduceToNat, Int.reduceLT, Int.reduceLE, Int.reduceEq, Int.reduceNeg, Int.reduceBEq, Int.reduceBNe, String.reduceEq, forall_const, ↓vmDA, vmVA, ↓vmQA, vmR, vmRA, ↓vmSA, vmSV, tyS, nuE, SubA.skip, SubA.refl, fr.2, vbRkC, nilGet_v, nilOpen_v, nilStep_v, nilExp_v, nilCases_v, nilHist_v, nilDisp_v, lt, li, hbk2, hcr, km, kw, h2', k0]
        have dst_ : True := (by simp [nuE]); generalize ν 0 = n0 at dst_  f0 ⊢
        clear nuE fr
        have sp1 : Sep [[(n0, odoB x)], E, G, A] := Sep.fresh f0 _ sp0
        refine CallA.stS (rqS (rstep_h G A rb gv p cap L H hG hGA hL hBR h32 hH x.id x.ev x.dt x.its x.ip x.ic hI)) (Sep.coarse (a := [G, A]) (m := [[(n0, odoB x)], E]) (Sep.pick sp1 [2, 3, 0, 1] rfl rfl)) (Sep.subs sp1 [2, 3, 0, 1] rfl) ?_
        rintro v G1 ⟨rfl, gv1, H1, hG1, hH1⟩ sp2'
        have sp2 : Sep [G1, A, [(n0, odoB x)], E] := Sep.fine (a := [G1, A]) sp2' (Sep.pick sp1 [0, 1] rfl rfl)
        rw [hsame] at hH1 ⊢
        refine ⟨cat [[(n0, odoB x)], E, G1, A], Sep.subs sp2 [2, 3, 0, 1] rfl, ?_⟩
        simp only [cat, List.cons_append, List.nil_append, odoB, ogcB]
        intro ν fr; have nuE := And.intro (fr.mem (b := n0) (by simp)) (fr.nu)
        simp (maxDischargeDepth := 16) only [argE_nil, argE_cons, ↓vmD, vmV, vmStd, Nat.reduceMul, ↓reduceIte, Nat.reduceAdd, Nat.reduceSub, Nat.reduceEqDiff, Nat.reduceLT, Nat.reduceLeDiff, reduceCtorEq, Int.reduceToNat, Int.reduceLT, Int.reduceLE, Int.reduceEq, Int.reduceNeg, Int.reduceBEq, Int.reduceBNe, String.reduceEq, forall_const, ↓vmDA, vmVA, ↓vmQA, vmR, vmRA, ↓vmSA, vmSV, tyS, nuE, SubA.skip, SubA.refl, fr.2, vbRkC, nilGet_v, nilOpen_v, nilStep_v, nilExp_v, nilCases_v, nilHist_v, nilDisp_v]
        refine tail n0 G1 (Sep.pick sp2 [2, 3, 0, 1] rfl rfl) _ ?_
        intro E1 fv1 F1 hE1 hF1 sp3
        have hFH1 : F1.map Fo.d = H1.map Fo.d := by rw [hF1, hH1]
        have hF1k : FdsOk (F1.map Fo.d) := by rw [hF1, ← hr]; exact hrun
        obtain ⟨Y, hY, hYn, hYE, hsY⟩ : ∃ Y, Y = E1 ++ (G1 ++ A) ∧ Vm.look Y n0 = none ∧ Sep [[(n0, odoB x)], E1, G1, A] ∧ SubA (cat [E1, G1, A]) Y := ⟨_, rfl, (Sep.dis sp3).symm n0 (by simp [Vm.look]), sp3, SubA.refl _⟩
        simp only [cat, List.cons_append, List.nil_append, odoB, ogcB]
        rw [← hY]
        clear hY
        clear sp3 sp2 sp2' sp1 hE hG hFH hF hH hsame hr hF1 hH1 tail hdo

        have sY : ∀ o, SubA Y ((n0, o) :: Y) := fun o => SubA.fresh hYn (SubA.refl _)
        have hl64 := hF1k.2.1
        have hH1k : FdsOk (H1.map Fo.d) := by rw [← hFH1]; exact hF1k
        have hm64 : H1.length ≤ 64 := by have := hH1k.2.1; simpa using this
        have hn64 : F1.length ≤ 64 := by simpa using hl64
        have sE1 : SubA E1 Y := SubA.trans (Sep.subs hYE.2 [0] rfl) hsY
        have sG1 : SubA G1 Y := SubA.trans (Sep.subs hYE.2 [1] rfl) hsY
        have c1 := getDk_w E1 db _ R F1 hE1 x.id ((n0, odoB x) :: Y) (SubA.trans sE1 (sY _))
        have c2 := fun B hB => rgetDk_w G1 rb _ p cap L H1 hG1 hm64 x.id B hB
        rw [← hFH1] at c2
        generalize hcg : (getX x.id (F1.map Fo.d)).getD noCa = c at c1 c2
        generalize hcs : (getX x.id (F1.map Fo.d)).isSome = cb at c1 c2
        simp only [caAgg, odoB] at c1 c2
        intro ν fr; have nuE := And.intro (fr.mem (b := n0) (by simp)) (fr.nu)
        have q0 : Vm.look ((n0, odoB x) :: Y) (ν 0) = none := fr.2 0
        have q1 : Vm.look ((ν 0, ogcB c) :: (n0, odoB x) :: Y) (ν 1) = none := by
          have := fr.2 1
          simp only [Vm.look, nuE, if_false] at this ⊢
          exact this
        have c2' := c2 ((ν 0, ogcB c) :: (n0, odoB x) :: Y) (SubA.fresh q0 (SubA.trans sG1 (sY _)))
        simp only [odoB, ogcB] at c2'
        simp (maxDischargeDepth := 16) only [argE_nil, argE_cons, ↓vmD, vmV, vmStd, Nat.reduceMul, ↓reduceIte, Nat.reduceAdd, Nat.reduceSub, Nat.reduceEqDiff, Nat.reduceLT, Nat.reduceLeDiff, reduceCtorEq, Int.reduceToNat, Int.reduceLT, Int.reduceLE, Int.reduceEq, Int.reduceNeg, Int.reduceBEq, Int.reduceBNe, String.reduceEq, forall_const, ↓vmDA, vmVA, ↓vmQA, vmR, vmRA, ↓vmSA, vmSV, tyS, nuE, SubA.skip, SubA.refl, fr.2, vbRkC, nilGet_v, nilOpen_v, nilStep_v, nilExp_v, nilCases_v, nilHist_v, nilDisp_v, odoB, ogcB, tA_nil, tA_one, tA_two, c1, c2', km, kw, h2']
        have dst_ : ((ν 0 = ν 1) = False) ∧ ((ν 0 = n0) = False) ∧ ((ν 1 = ν 0) = False) ∧ ((ν 1 = n0) = False) ∧ ((n0 = ν 0) = False) ∧ ((n0 = ν 1) = False) := (by simp [nuE]); generalize ν 0 = k0 at dst_  q0 q1 ⊢; generalize ν 1 = k1 at dst_  q0 q1 ⊢
        clear nuE fr c2' c2 c1
        have sq : Sep [[(k1, ogcB c)], [(k0, ogcB c)], [(n0, odoB x)], E1, G1, A] := by
          have s1 : Sep ([(n0, odoB x)] :: E1 :: G1 :: A :: []) := hYE
          have g0 : Vm.look (cat [[(n0, odoB x)], E1, G1, A]) k0 = none := (cons_in (x := n0) (o := odoB x) hsY : SubA (cat [[(n0, odoB x)], E1, G1, A]) _).none q0
          have g1 : Vm.look (cat [[(k0, ogcB c)], [(n0, odoB x)], E1, G1, A]) k1 = none := (cons_in (x := k0) (o := ogcB c) (cons_in (x := n0) (o := odoB x) hsY) : SubA (cat [[(k0, ogcB c)], [(n0, odoB x)], E1, G1, A]) _).none q1
          exact Sep.fresh g1 _ (Sep.fresh g0 _ s1)
        refine MeantA.at (A := cat [[(k1, ogcB c)], [(k0, ogcB c)], [(n0, odoB x)], E1, G1, A]) (cons_in (cons_in (cons_in hsY))) ?_
        simp only [cat, List.cons_append, List.nil_append, odoB, ogcB]
        refine MeantA.tree [] (.one 0 0 (.one 1 0 (.one 2 0 (.one 3 0 (.one 4 0 (.one 5 0 (.one 6 0 (.one 7 0 (.one 8 0 (.one 9 0 (.one 10 0 (.one 11 0 (.one 13 0 (.one 14 0 (.one 15 0 (.one 12 0 (.one 16 0 (.one 17 0 (.one 18 0 (.one 19 0 (.one 20 0 (.one 21 0 (.one 22 0 (.one 23 0 (.one 24 0 (.one 26 0 (.one 27 0 (.one 28 0 (.one 29 0 (.one 25 0 (.one 30 0 (.one 31 0 (.one 32 0 (.one 33 0 (.one 34 0 (.one 36 0 (.one 35 0 (.one 37 0 (.one 38 1 (.one 39 0 (.one 40 0 .nil))))))))))))))))))))))))))))))))))))))))) [(k1, ogcB c), (k0, ogcB c), (n0, odoB x)] (SubA.left [_, _, _] _) (by kernel_rfl) (by kernel_rfl) (by kernel_rfl) (by kernel_rfl) (by kernel_rfl) ?_
        intro ν fr
        have nuE := And.intro dst_ (And.intro (fr.mem (b := k1) (by simp)) (And.intro (fr.mem (b := k0) (by simp)) (And.intro (fr.mem (b := n0) (by simp)) fr.nu)))
        simp (maxDischargeDepth := 16) only [argE_nil, argE_cons, ↓vmD, vmV, vmStd, Nat.reduceMul, ↓reduceIte, Nat.reduceAdd, Nat.reduceSub, Nat.reduceEqDiff, Nat.reduceLT, Nat.reduceLeDiff, reduceCtorEq, Int.reduceToNat, Int.reduceLT, Int.reduceLE, Int.reduceEq, Int.reduceNeg, Int.reduceBEq, Int.reduceBNe, String.reduceEq, forall_const, ↓vmDA, vmVA, ↓vmQA, vmR, vmRA, ↓vmSA, vmSV, tyS, nuE, SubA.skip, SubA.refl, fr.2, vbRkC, nilGet_v, nilOpen_v, nilStep_v, nilExp_v, nilCases_v, nilHist_v, nilDisp_v, odoB, ogcB, tA_nil, tA_one, tA_two]
        have hh100 : ∀ f ∈ F1, f.d.h.length ≤ 100 := fun f hf => by
          obtain ⟨a1, a2, a3, _⟩ := hF1k.1 f.d (List.mem_map_of_mem hf)
          omega
        have hhl := hist_len hF1k x.id
        refine CallA.newX (histD_h E1 db _ R F1 hE1 hh100 x.id) (Sep.subs sq [3] rfl) ?_
        intro v B1 ho1 hdB1
        obtain ⟨hp, hcap, rfl, hhc, hhs⟩ := ho1.read intC_len
        have sq1 : Sep [B1, [(k1, ogcB c)], [(k0, ogcB c)], [(n0, odoB x)], E1, G1, A] := Sep.cons hdB1 sq
        have sq2 := Sep.pick sq1 [1, 2, 3, 0, 4, 5, 6] rfl rfl
        refine ⟨cat [[(k1, ogcB c)], [(k0, ogcB c)], [(n0, odoB x)], B1, E1, G1, A], Sep.subs sq1 [1, 2, 3, 0, 4, 5, 6] rfl, ?_⟩
        clear nuE fr
        simp only [cat, List.cons_append, List.nil_append, odoB, ogcB]
        intro ν fr
        have nuE := And.intro dst_ (And.intro (fr.mem (b := k1) (by simp)) (And.intro (fr.mem (b := k0) (by simp)) (And.intro (fr.mem (b := n0) (by simp)) fr.nu)))
        simp (maxDischargeDepth := 16) only [argE_nil, argE_cons, ↓vmD, vmV, vmStd, Nat.reduceMul, ↓reduceIte, Nat.reduceAdd, Nat.reduceSub, Nat.reduceEqDiff, Nat.reduceLT, Nat.reduceLeDiff, reduceCtorEq, Int.reduceToNat, Int.reduceLT, Int.reduceLE, Int.reduceEq, Int.reduceNeg, Int.reduceBEq, Int.reduceBNe, String.reduceEq, forall_const, ↓vmDA, vmVA, ↓vmQA, vmR, vmRA, ↓vmSA, vmSV, tyS, nuE, SubA.skip, SubA.refl, fr.2, vbRkC, nilGet_v, nilOpen_v, nilStep_v, nilExp_v, nilCases_v, nilHist_v, nilDisp_v, odoB, ogcB, tA_nil, tA_one, tA_two]
        refine CallA.newX (rhist_n hG1 hm64 x.id) (Sep.subs sq2 [5] rfl) ?_
        rintro v2 B2 ⟨hp2, hcap2, rfl, hhs2⟩ hd2
        refine ⟨_, hd2.right, ?_⟩
        clear nuE fr
        rw [← hFH1] at hhs2 ⊢
        have ei := eqInts_h (cat [[(k1, ogcB c)], [(k0, ogcB c)], [(n0, odoB x)], B1, E1, G1, A]) (histX x.id (F1.map Fo.d)) hp hcap hp2 hcap2 (hhs.mono (Sep.subs sq2 [3] rfl)) (hhs2.mono (Sep.subs sq2 [5] rfl)) (by omega)
        intro ν fr
        have nuE := And.intro dst_ (And.intro (fr.mem (b := k1) (by simp)) (And.intro (fr.mem (b := k0) (by simp)) (And.intro (fr.mem (b := n0) (by simp)) fr.nu)))
        simp (maxDischargeDepth := 16) only [argE_nil, argE_cons, ↓vmD, vmV, vmStd, Nat.reduceMul, ↓reduceIte, Nat.reduceAdd, Nat.reduceSub, Nat.reduceEqDiff, Nat.reduceLT, Nat.reduceLeDiff, reduceCtorEq, Int.reduceToNat, Int.reduceLT, Int.reduceLE, Int.reduceEq, Int.reduceNeg, Int.reduceBEq, Int.reduceBNe, String.reduceEq, forall_const, ↓vmDA, vmVA, ↓vmQA, vmR, vmRA, ↓vmSA, vmSV, tyS, nuE, SubA.skip, SubA.refl, fr.2, vbRkC, nilGet_v, nilOpen_v, nilStep_v, nilExp_v, nilCases_v, nilHist_v, nilDisp_v, odoB, ogcB, tA_nil, tA_one, tA_two]
        refine CallA.newX (pure_n ei) (SubA.refl _) ?_
        rintro v3 B3 rfl hd3
        refine ⟨cat [[(k1, ogcB c)], [(k0, ogcB c)], [(n0, odoB x)], B1, E1, G1, A], hd3.right, ?_⟩
        clear nuE fr ei hd3
        simp only [cat, List.cons_append, List.nil_append, odoB, ogcB]
        intro ν fr
        have nuE := And.intro dst_ (And.intro (fr.mem (b := k1) (by simp)) (And.intro (fr.mem (b := k0) (by simp)) (And.intro (fr.mem (b := n0) (by simp)) fr.nu)))
        simp (maxDischargeDepth := 16) only [argE_nil, argE_cons, ↓vmD, vmV, vmStd, Nat.reduceMul, ↓reduceIte, Nat.reduceAdd, Nat.reduceSub, Nat.reduceEqDiff, Nat.reduceLT, Nat.reduceLeDiff, reduceCtorEq, Int.reduceToNat, Int.reduceLT, Int.reduceLE, Int.reduceEq, Int.reduceNeg, Int.reduceBEq, Int.reduceBNe, String.reduceEq, forall_const, ↓vmDA, vmVA, ↓vmQA, vmR, vmRA, ↓vmSA, vmSV, tyS, nuE, SubA.skip, SubA.refl, fr.2, vbRkC, nilGet_v, nilOpen_v, nilStep_v, nilExp_v, nilCases_v, nilHist_v, nilDisp_v, odoB, ogcB, tA_nil, tA_one, tA_two]
        refine CallA.newX (pure_n (disp_h E1 db _ R F1 hE1 hF1k x.r.id)) (Sep.subs sq2 [4] rfl) ?_
        rintro v3 B3 rfl hd3
        refine ⟨cat [[(k1, ogcB c)], [(k0, ogcB c)], [(n0, odoB x)], B1, E1, G1, A], hd3.right, ?_⟩
        clear nuE fr hd3
        simp only [cat, List.cons_append, List.nil_append, odoB, ogcB]
        intro ν fr
        have nuE := And.intro dst_ (And.intro (fr.mem (b := k1) (by simp)) (And.intro (fr.mem (b := k0) (by simp)) (And.intro (fr.mem (b := n0) (by simp)) fr.nu)))
        simp (maxDischargeDepth := 16) only [argE_nil, argE_cons, ↓vmD, vmV, vmStd, Nat.reduceMul, ↓reduceIte, Nat.reduceAdd, Nat.reduceSub, Nat.reduceEqDiff, Nat.reduceLT, Nat.reduceLeDiff, reduceCtorEq, Int.reduceToNat, Int.reduceLT, Int.reduceLE, Int.reduceEq, Int.reduceNeg, Int.reduceBEq, Int.reduceBNe, String.reduceEq, forall_const, ↓vmDA, vmVA, ↓vmQA, vmR, vmRA, ↓vmSA, vmSV, tyS, nuE, SubA.skip, SubA.refl, fr.2, vbRkC, nilGet_v, nilOpen_v, nilStep_v, nilExp_v, nilCases_v, nilHist_v, nilDisp_v, odoB, ogcB, tA_nil, tA_one, tA_two]
        refine CallA.newX (pure_n (rdisp_h G1 rb _ p cap L H1 hG1 hH1k x.r.id)) (Sep.subs sq2 [5] rfl) ?_
        rintro v3 B3 rfl hd3
        refine ⟨cat [[(k1, ogcB c)], [(k0, ogcB c)], [(n0, odoB x)], B1, E1, G1, A], hd3.right, ?_⟩
        clear nuE fr hd3
        rw [← hFH1]
        simp only [cat, List.cons_append, List.nil_append, odoB, ogcB]
        intro ν fr
        have nuE := And.intro dst_ (And.intro (fr.mem (b := k1) (by simp)) (And.intro (fr.mem (b := k0) (by simp)) (And.intro (fr.mem (b := n0) (by simp)) fr.nu)))
        simp (maxDischargeDepth := 16) only [argE_nil, argE_cons, ↓vmD, vmV, vmStd, Nat.reduceMul, ↓reduceIte, Nat.reduceAdd, Nat.reduceSub, Nat.reduceEqDiff, Nat.reduceLT, Nat.reduceLeDiff, reduceCtorEq, Int.reduceToNat, Int.reduceLT, Int.reduceLE, Int.reduceEq, Int.reduceNeg, Int.reduceBEq, Int.reduceBNe, String.reduceEq, forall_const, ↓vmDA, vmVA, ↓vmQA, vmR, vmRA, ↓vmSA, vmSV, tyS, nuE, SubA.skip, SubA.refl, fr.2, vbRkC, nilGet_v, nilOpen_v, nilStep_v, nilExp_v, nilCases_v, nilHist_v, nilDisp_v, odoB, ogcB, tA_nil, tA_one, tA_two]
        refine CallA.newX (casesD_h E1 db _ R F1 hE1 hn64) (Sep.subs sq2 [4] rfl) ?_
        intro v B3 ho3 hd3
        obtain ⟨cp, ccap, rfl, hcc1, hcs1⟩ := ho3.read caC_len
        have sq3 : Sep [B3, [(k1, ogcB c)], [(k0, ogcB c)], [(n0, odoB x)], B1, E1, G1, A] := Sep.cons hd3 sq2
        have sq4 := Sep.pick sq3 [1, 2, 3, 0, 5, 6, 7] rfl rfl
        refine ⟨cat [[(k1, ogcB c)], [(k0, ogcB c)], [(n0, odoB x)], B3, E1, G1, A], Sep.subs sq3 [1, 2, 3, 0, 5, 6, 7] rfl, ?_⟩
        clear nuE fr
        simp only [cat, List.cons_append, List.nil_append, odoB, ogcB]
        intro ν fr
        have nuE := And.intro dst_ (And.intro (fr.mem (b := k1) (by simp)) (And.intro (fr.mem (b := k0) (by simp)) (And.intro (fr.mem (b := n0) (by simp)) fr.nu)))
        simp (maxDischargeDepth := 16) only [argE_nil, argE_cons, ↓vmD, vmV, vmStd, Nat.reduceMul, ↓reduceIte, Nat.reduceAdd, Nat.reduceSub, Nat.reduceEqDiff, Nat.reduceLT, Nat.reduceLeDiff, reduceCtorEq, Int.reduceToNat, Int.reduceLT, Int.reduceLE, Int.reduceEq, Int.reduceNeg, Int.reduceBEq, Int.reduceBNe, String.reduceEq, forall_const, ↓vmDA, vmVA, ↓vmQA, vmR, vmRA, ↓vmSA, vmSV, tyS, nuE, SubA.skip, SubA.refl, fr.2, vbRkC, nilGet_v, nilOpen_v, nilStep_v, nilExp_v, nilCases_v, nilHist_v, nilDisp_v, odoB, ogcB, tA_nil, tA_one, tA_two]
        refine CallA.newX (rcasesD_h G1 rb _ p cap L H1 hG1 hm64) (Sep.subs sq4 [5] rfl) ?_
        intro v B4 ho4 hd4
        have hcc : (H1.map fun f => f.d.c) = F1.map fun f => f.d.c := by
          have := congrArg (List.map Fd.c) hFH1
          rw [List.map_map, List.map_map] at this
          exact this.symm
        rw [hcc] at ho4
        obtain ⟨cp2, ccap2, rfl, hcc2, hcs2⟩ := ho4.read caC_len
        have sq5 : Sep [B4, [(k1, ogcB c)], [(k0, ogcB c)], [(n0, odoB x)], B3, E1, G1, A] := Sep.cons hd4 sq4
        have sq6 := Sep.pick sq5 [1, 2, 3, 0, 4, 5, 6, 7] rfl rfl
        refine ⟨cat [[(k1, ogcB c)], [(k0, ogcB c)], [(n0, odoB x)], B4, B3, E1, G1, A], Sep.subs sq5 [1, 2, 3, 0, 4, 5, 6, 7] rfl, ?_⟩
        clear nuE fr
        have ec := eqCases_h (cat [[(k1, ogcB c)], [(k0, ogcB c)], [(n0, odoB x)], B4, B3, E1, G1, A]) (F1.map fun f : Fo => f.d.c) cp ccap cp2 ccap2 (hcs1.mono (Sep.subs sq6 [4] rfl)) (hcs2.mono (Sep.subs sq6 [3] rfl)) (by simp; omega)
        simp only [cat, List.cons_append, List.nil_append, odoB, ogcB]
        intro ν fr
        have nuE := And.intro dst_ (And.intro (fr.mem (b := k1) (by simp)) (And.intro (fr.mem (b := k0) (by simp)) (And.intro (fr.mem (b := n0) (by simp)) fr.nu)))
        simp (maxDischargeDepth := 16) only [argE_nil, argE_cons, ↓vmD, vmV, vmStd, Nat.reduceMul, ↓reduceIte, Nat.reduceAdd, Nat.reduceSub, Nat.reduceEqDiff, Nat.reduceLT, Nat.reduceLeDiff, reduceCtorEq, Int.reduceToNat, Int.reduceLT, Int.reduceLE, Int.reduceEq, Int.reduceNeg, Int.reduceBEq, Int.reduceBNe, String.reduceEq, forall_const, ↓vmDA, vmVA, ↓vmQA, vmR, vmRA, ↓vmSA, vmSV, tyS, nuE, SubA.skip, SubA.refl, fr.2, vbRkC, nilGet_v, nilOpen_v, nilStep_v, nilExp_v, nilCases_v, nilHist_v, nilDisp_v, odoB, ogcB, tA_nil, tA_one, tA_two]
        refine CallA.newX (pure_n ec) (SubA.refl _) ?_
        rintro v3 B5 rfl hd3
        refine ⟨cat [[(k1, ogcB c)], [(k0, ogcB c)], [(n0, odoB x)], B4, B3, E1, G1, A], hd3.right, ?_⟩
        clear nuE fr ec hd3
        simp only [cat, List.cons_append, List.nil_append, odoB, ogcB]
        intro ν fr
        have nuE := And.intro dst_ (And.intro (fr.mem (b := k1) (by simp)) (And.intro (fr.mem (b := k0) (by simp)) (And.intro (fr.mem (b := n0) (by simp)) fr.nu)))
        simp (maxDischargeDepth := 16) only [argE_nil, argE_cons, ↓vmD, vmV, vmStd, Nat.reduceMul, ↓reduceIte, Nat.reduceAdd, Nat.reduceSub, Nat.reduceEqDiff, Nat.reduceLT, Nat.reduceLeDiff, reduceCtorEq, Int.reduceToNat, Int.reduceLT, Int.reduceLE, Int.reduceEq, Int.reduceNeg, Int.reduceBEq, Int.reduceBNe, String.reduceEq, forall_const, ↓vmDA, vmVA, ↓vmQA, vmR, vmRA, ↓vmSA, vmSV, tyS, nuE, SubA.skip, SubA.refl, fr.2, vbRkC, nilGet_v, nilOpen_v, nilStep_v, nilExp_v, nilCases_v, nilHist_v, nilDisp_v, odoB, ogcB, tA_nil, tA_one, tA_two, we]
        refine LoopA.at (A := cat [E1, G1, A]) (Sep.subs sq6 [5, 6, 7] rfl) ?_
        exact LoopA.weak (ih (e := e + 1) (E := E1) (G := G1) (fv := _) (gv := _) (F := F1) (H := H1) hYE.2 hd' (by omega) hE1 hG1 hFH1 hF1k) (by simp only [subE, get_cons, Nat.reduceEqDiff, ↓reduceIte, reduceCtorEq, Nat.reduceAdd, and_self, and_true]) (SubA.refl _)
theorem desksLaw_w (A : AH) (L : List Rs) (p : Option Addr) (cap : Nat) (hL : RsR A p L) (hl : L.length ≤ cap ∧ cap ≤ 9223372036854775807) (M : List DoT) (q : Option Addr) (qcap : Nat) (hM : DoR A q M) (hz : ∀ x ∈ M, SzD x) (B_ : AH) (hB_ : SubA A B_) : valA Tryz.prog 3 #[.slice p L.length cap, .slice q M.length qcap] B_ = some (.bool true) := valA_eq (pureA_at (by kernel_rfl) (desksLaw_h A L p cap hL hl M q qcap hM hz) hB_)
theorem desksLaw_v (A : AH) (L : List Rs) (p : Option Addr) (cap : Nat) (hL : RsR A p L) (hl : L.length ≤ cap ∧ cap ≤ 9223372036854775807) (M : List DoT) (q : Option Addr) (qcap : Nat) (hM : DoR A q M) (hz : ∀ x ∈ M, SzD x) : valA Tryz.prog 3 #[.slice p L.length cap, .slice q M.length qcap] A = some (.bool true) := valA_eq (pureA_at (by kernel_rfl) (desksLaw_h A L p cap hL hl M q qcap hM hz) (SubA.refl _))
set_option linter.unusedSimpArgs false
set_option linter.unusedVariables false
set_option maxHeartbeats 2000000
set_option maxRecDepth 20000
theorem str_oneZ {h : Heap} {x : Value} (hf : Fits h .str [x]) : ∃ t : Txt, x = .string (bs t) ∧ (bs t).size ≤ 9223372036854775807 := by
  unfold Fits at hf
  obtain ⟨s, e, hs⟩ := hf
  cases e
  exact ⟨s.data.toList, by rw [← bs_of], by rw [← bs_of]; simpa only [maxLen] using hs⟩
def InZ (A : AH) (x : DoT) : Prop := InD A x ∧ SzD x
theorem do_inZ {h : Heap} {es : List Value} (hf : Fits h (.st 19 [(0, 1, .int .u8), (1, 1, .str), (2, 1, .str), (3, 12, (.st 12 [(0, 1, .int .i64), (1, 1, .str), (2, 1, .str), (3, 1, .str), (4, 1, .str), (5, 1, .str), (6, 1, .str), (7, 2, .st 2 [(0, 1, .int .i64), (1, 1, .str)]), (9, 1, .int .i64), (10, 1, .int .i64), (11, 1, .bool)])), (15, 1, .int .i64), (16, 1, .int .i64), (17, 1, .int .i64), (18, 1, .sl 3 (.st 3 [(0, 1, .str), (1, 1, .int .i64), (2, 1, .int .u64)]))]) es) : ∃ (y : DoT) (A : AH), doC y = es ∧ Sat A h ∧ InZ A y := by
  obtain ⟨hl, hf⟩ := st_out hf
  match es, hl with
  | [x0, x1, x2, y0, y1, y2, y3, y4, y5, y6, y7, y8, y9, y10, y11, x4, x5, x6, x7], _ =>
    simp only [FitsL, List.drop_succ_cons, List.drop_zero, List.take_succ_cons, List.take_zero, and_true] at hf
    obtain ⟨h0, h1, h2, h3, h4, h5, h6, h7⟩ := hf
    obtain ⟨n0, rfl, w0⟩ := int_one' h0
    obtain ⟨k0, rfl, b0⟩ := wf_u8n w0
    obtain ⟨t1, rfl⟩ := str_one' h1
    obtain ⟨t2, rfl⟩ := str_one' h2
    obtain ⟨n4, rfl, _⟩ := int_one' h4
    obtain ⟨n5, rfl, _⟩ := int_one' h5
    obtain ⟨n6, rfl, _⟩ := int_one' h6
    obtain ⟨p7, l7, c7, rfl⟩ := sl_one h7
    obtain ⟨_, h3⟩ := st_out h3
    simp only [FitsL, List.drop_succ_cons, List.drop_zero, List.take_succ_cons, List.take_zero, and_true] at h3
    obtain ⟨g0, g1, g2, g3, g4, g5, g6, g7, g8, g9, g10⟩ := h3
    obtain ⟨m0, rfl, _⟩ := int_one' g0
    obtain ⟨u1, rfl, s1⟩ := str_oneZ g1
    obtain ⟨u2, rfl, s2⟩ := str_oneZ g2
    obtain ⟨u3, rfl⟩ := str_one' g3
    obtain ⟨u4, rfl⟩ := str_one' g4
    obtain ⟨u5, rfl, s5⟩ := str_oneZ g5
    obtain ⟨u6, rfl⟩ := str_one' g6
    obtain ⟨_, g7⟩ := st_out g7
    simp only [FitsL, List.drop_succ_cons, List.drop_zero, List.take_succ_cons, List.take_zero, and_true] at g7
    obtain ⟨m7, rfl, _⟩ := int_one' g7.1
    obtain ⟨u7, rfl⟩ := str_one' g7.2
    obtain ⟨m8, rfl, _⟩ := int_one' g8
    obtain ⟨m9, rfl, _⟩ := int_one' g9
    obtain ⟨m10, rfl⟩ := bool_one' g10
    obtain ⟨p', cap', I, e, i1, i2, _, A, hA, hI⟩ := list_fits itC (v := .slice p7 l7 c7) (by decide) (fun es hl hf => it_in hf) h7 (fun c hc => by cases hc)
    cases e
    exact ⟨⟨k0, t1, t2, ⟨m0, u1, u2, u3, u4, u5, u6, m7, u7, m8, m9, m10⟩, n4, n5, n6, I, p7, c7⟩, A, rfl, hA, ⟨b0, hI, by simp only [maxLen] at i2; show I.length ≤ _; omega⟩, s1, s2, s5⟩
theorem args_inZ {h : Heap} {a0 : Option Addr} {len0 cap0 : Nat} (w0 : Vm.Fits h (.sl 7 (.st 7 [(0, 1, .str), (1, 1, .int .i64), (2, 1, .int .i64), (3, 1, .int .i64), (4, 1, .int .i64), (5, 1, .sl 1 .str), (6, 1, .sl 1 .str)])) [.slice a0 len0 cap0]) {a1 : Option Addr} {len1 cap1 : Nat} (w1 : Vm.Fits h (.sl 19 (.st 19 [(0, 1, .int .u8), (1, 1, .str), (2, 1, .str), (3, 12, (.st 12 [(0, 1, .int .i64), (1, 1, .str), (2, 1, .str), (3, 1, .str), (4, 1, .str), (5, 1, .str), (6, 1, .str), (7, 2, .st 2 [(0, 1, .int .i64), (1, 1, .str)]), (9, 1, .int .i64), (10, 1, .int .i64), (11, 1, .bool)])), (15, 1, .int .i64), (16, 1, .int .i64), (17, 1, .int .i64), (18, 1, .sl 3 (.st 3 [(0, 1, .str), (1, 1, .int .i64), (2, 1, .int .u64)]))])) [.slice a1 len1 cap1]) :
    ∃ (L : List Rs) (M : List DoT) (A : AH), L.length = len0 ∧ M.length = len1 ∧ L.length ≤ cap0 ∧ cap0 ≤ 9223372036854775807 ∧ Sat A h ∧ RsR A a0 L ∧ DoR A a1 M ∧ ∀ x ∈ M, SzD x := by
  obtain ⟨L, A1, e1, l1, l2, s1, r1, i1⟩ := nest_fits (id : List Value → List Value) rsC (In := InR) (fun A B y h hs => h.mono hs) (by decide) (fun es _ _ => ⟨es, rfl⟩) (fun x hx => rs_in hx) w0
  obtain ⟨M, A2, e2, l3, l4, s2, r2, i2⟩ := nest_fits (id : List Value → List Value) doC (In := InZ) (fun A B y h hs => ⟨⟨h.1.1, h.1.2.1.mono hs, h.1.2.2⟩, h.2⟩) (by decide) (fun es _ _ => ⟨es, rfl⟩) (fun x hx => do_inZ hx) w1
  have hs := sat_sub s1 s2
  exact ⟨L, M, A1 ++ A2, e1, e2, by omega, by simpa only [maxLen] using l2, Sat.both s1 s2, ⟨r1.mono (SubA.left _ _), fun r hr => (i1 r hr).mono (SubA.left _ _)⟩, ⟨r2.mono hs, fun x hx => ⟨(i2 x hx).1.1, (i2 x hx).1.2.1.mono hs, (i2 x hx).1.2.2⟩⟩, fun x hx => (i2 x hx).2⟩
theorem desks_walk (h : Heap) (a0 : Option Addr) (len0 cap0 : Nat) (w0 : Vm.Fits h (.sl 7 (.st 7 [(0, 1, .str), (1, 1, .int .i64), (2, 1, .int .i64), (3, 1, .int .i64), (4, 1, .int .i64), (5, 1, .sl 1 .str), (6, 1, .sl 1 .str)])) [.slice a0 len0 cap0]) (a1 : Option Addr) (len1 cap1 : Nat) (w1 : Vm.Fits h (.sl 19 (.st 19 [(0, 1, .int .u8), (1, 1, .str), (2, 1, .str), (3, 12, (.st 12 [(0, 1, .int .i64), (1, 1, .str), (2, 1, .str), (3, 1, .str), (4, 1, .str), (5, 1, .str), (6, 1, .str), (7, 2, .st 2 [(0, 1, .int .i64), (1, 1, .str)]), (9, 1, .int .i64), (10, 1, .int .i64), (11, 1, .bool)])), (15, 1, .int .i64), (16, 1, .int .i64), (17, 1, .int .i64), (18, 1, .sl 3 (.st 3 [(0, 1, .str), (1, 1, .int .i64), (2, 1, .int .u64)]))])) [.slice a1 len1 cap1]) :
    CallsH Tryz.prog 3 #[.slice a0 len0 cap0, .slice a1 len1 cap1] h fun e h' => e = .returned (.bool true) ∧ Grew h h' := by
  obtain ⟨L, M, A, rfl, rfl, l1, l2, hA, hL, hM, hz⟩ := args_inZ w0 w1
  exact callsH_of_pure (desksLaw_v A L a0 cap0 hL ⟨l1, l2⟩ M a1 cap1 hM hz) (by kernel_rfl) hA
end Go.Proofs.YtkkpmcomloekoaaGreat
