/-
Scanners; how a table is read: parseKinds, parseReason, Parse.
Conditions: none.
-/
import Derived.Test.YtamiclgnehfhpaaDoorFra
import Derived.Test.YtamiclgnehfhpaaDoorNam
import Derived.Test.YtamiclgnehfhpaaDoorLexN
import Derived.Test.YtamiclgnehfhpaaDoorRsX
namespace Go.Proofs.YtamiclgnehfhpaaDoor
open Go.Vm
set_option linter.unusedSimpArgs false
set_option linter.unusedVariables false
set_option maxHeartbeats 2000000
set_option maxRecDepth 20000
theorem vbScX : type_of% (And.intro @slIndexByte_v (And.intro @indexByte_v (And.intro @indexRune_v (And.intro @containsRune_v (And.intro @slHasPrefix_v (And.intro @hasPrefix_v (And.intro @classOf_v (And.intro @isWordByte_v (And.intro @letter_v (And.intro @digit_v (And.intro @wordAt_v (And.intro @rword_v (And.intro @skip_v (And.intro @rskip_v (And.intro @number_v (And.intro @rnumber_v (And.intro @literal_v (And.intro @rtext_v (And.intro @lexemeAt_v (And.intro @rlexeme_v (And.intro @isName_v (And.intro @risName_v (And.intro @possible_v (And.intro @days_v (And.intro @due_v (And.intro @rkind_v (And.intro @rdays_v (And.intro @rdaysS_v (@rdue_v))))))))))))))))))))))))))))) := And.intro @slIndexByte_v (And.intro @indexByte_v (And.intro @indexRune_v (And.intro @containsRune_v (And.intro @slHasPrefix_v (And.intro @hasPrefix_v (And.intro @classOf_v (And.intro @isWordByte_v (And.intro @letter_v (And.intro @digit_v (And.intro @wordAt_v (And.intro @rword_v (And.intro @skip_v (And.intro @rskip_v (And.intro @number_v (And.intro @rnumber_v (And.intro @literal_v (And.intro @rtext_v (And.intro @lexemeAt_v (And.intro @rlexeme_v (And.intro @isName_v (And.intro @risName_v (And.intro @possible_v (And.intro @days_v (And.intro @due_v (And.intro @rkind_v (And.intro @rdays_v (And.intro @rdaysS_v (@rdue_v))))))))))))))))))))))))))))
/-- A scanner at the i-th lexeme. -/
def scB (lp : Option Addr) (lcap : Nat) (L : List LR) (i : Nat) : Obj := (Obj.cells #[.slice lp L.length lcap, .int .i64 (i : Int)] 88)
def tx (x : LR) : Txt := x.t.toList
theorem tx_bs (x : LR) : bs (tx x) = x.t := by rw [tx, ByteArray.toList_eq]; exact (bs_of x.t).symm
def lexV (x : LR) : Value := .agg #[.int .i64 x.k, .string x.t, .int .i64 x.n, .int .i64 x.a]
/-- A call that writes the one block. -/
theorem CallA.put {P : Program} {g : FuncId} {args : Array Value} {A K0 : AH} {cb : Nat} {o o' : Obj} {v : Value} {K : Value → AH → Prop} (hc : CallA P g args ((cb, o) :: A) fun u D => u = v ∧ SubA ((cb, o') :: A) D) (hs : SubA ((cb, o) :: A) K0)
    (hk : K v ((cb, o') :: A)) : CallA P g args K0 K :=
  CallA.useX hc hs [] (SubA.nil _) (fun x hx => absurd rfl hx) fun u D ⟨h1, h2⟩ _ => ⟨(cb, o') :: A, h2, by rw [List.append_nil, h1]; exact hk⟩
theorem CallA.putX {P : Program} {g : FuncId} {args : Array Value} {A K0 A'' : AH} {cb : Nat} {o o' : Obj} {v : Value} {K : Value → AH → Prop} (hc : CallA P g args ((cb, o) :: A) fun u D => u = v ∧ SubA ((cb, o') :: A) D) (hs : SubA ((cb, o) :: A) K0)
    (hA : SubA A'' ((cb, o') :: A)) (hk : K v A'') : CallA P g args K0 K :=
  CallA.useX hc hs [] (SubA.nil _) (fun x hx => absurd rfl hx) fun u D ⟨h1, h2⟩ _ => ⟨A'', SubA.trans hA h2, by rw [List.append_nil, h1]; exact hk⟩
theorem _root_.Go.Vm.SubA.swap {A : AH} {a b : Nat} {o u : Obj} (h : (a = b) = False) : SubA ((a, o) :: (b, u) :: A) ((b, u) :: (a, o) :: A) := fun c v hl => by
  simp only [Vm.look] at hl ⊢
  by_cases h1 : a = c
  · subst h1
    have : ¬ b = a := fun e => by simp [e] at h
    simp only [this, if_false, if_true] at hl ⊢
    exact hl
  · simp only [h1, if_false] at hl ⊢
    exact hl
theorem look_c1 {A : AH} {cb b : Nat} {o : Obj} (h : (cb = b) = False) (ha : Vm.look A b = none) : Vm.look ((cb, o) :: A) b = none := by simp only [Vm.look, h, if_false]; exact ha
theorem peekS_h (A : AH) (cb : Nat) (L : List LR) (lp : Option Addr) (lcap : Nat) (hn : Vm.look A cb = none) (hL : StR LR.cells 4 A lp L) (i : Nat) (x : LR) (hx : L[i]? = some x) : CallA Tryd.prog 43 #[.pointer (some ⟨cb, 0, none⟩)] ((cb, scB lp lcap L i) :: A) (fun u_ A_ => u_ = lexV x ∧ SubA ((cb, scB lp lcap L i) :: A) A_) := by
  refine callA_of_denA ⟨Tryd.prog, 43, Tryd.f43, 28, [0, 2], [], [(1, .q false), (3, .p [(0, 0), (1, 0), (2, 0), (3, 0), (4, 0), (5, 0), (6, 0), (7, 0), (8, 0), (9, 0), (10, 2)])], _⟩ (args := [_]) Tryd.func43 rfl (by kernel_rfl) Tryd.ntmps43 (by simp) (by kernel_rfl) ?_
  intro ν fr; have nuE := fr.nu
  have f0 := fr.2 0
  obtain ⟨m3, m4⟩ := look_ne f0 (show Vm.look ((cb, scB lp lcap L i) :: A) cb = some (scB lp lcap L i) by simp [Vm.look])
  obtain ⟨bk, off, cs, ty, fr0, hp0, hbk, hcr, hcc⟩ := hL.at hx
  have hlt := (List.getElem?_eq_some_iff.1 hx).1
  have lt : ((L.length : Int) ≤ (i : Int)) = False := eq_false (by omega)
  have lt2 : ((i : Int) < (L.length : Int)) = True := eq_true (by omega)
  have li : ((i : Int) < 0) = False := eq_false (by omega)
  obtain ⟨n1, n2⟩ := look_ne hn hbk
  have hbk2 : Vm.look ((cb, scB lp lcap L i) :: A) bk = some (.cells cs ty fr0) := by simp only [Vm.look, n1, if_false]; exact hbk
  obtain ⟨m1, m2⟩ := look_ne f0 hbk2
  simp only [LR.cells] at hcr
  simp only [scB, lexV]
  simp (maxDischargeDepth := 16) only [argE_nil, argE_cons, ↓vmD, vmV, vmStd, Nat.reduceMul, ↓reduceIte, Nat.reduceAdd, Nat.reduceSub, Nat.reduceEqDiff, Nat.reduceLT, Nat.reduceLeDiff, reduceCtorEq, Int.reduceToNat, Int.reduceLT, Int.reduceLE, Int.reduceEq, Int.reduceNeg, Int.reduceBEq, Int.reduceBNe, String.reduceEq, forall_const, ↓vmDA, vmVA, ↓vmQA, vmR, vmRA, ↓vmSA, vmSV, tyS, nuE, SubA.skip, SubA.refl, fr.2, vbScX, lt, lt2, li, hp0, hbk, hcr, n1, n2, m1, m2, m3, m4]
  exact SubA.skip (look_c1 m4 ((SubA.skip hn (SubA.refl A)).none f0)) (SubA.refl _)
theorem peekS_w (A : AH) (cb : Nat) (L : List LR) (lp : Option Addr) (lcap : Nat) (hn : Vm.look A cb = none) (hL : StR LR.cells 4 A lp L) (i : Nat) (x : LR) (hx : L[i]? = some x) (B_ : AH) (hB_ : SubA ((cb, scB lp lcap L i) :: A) B_) : valA Tryd.prog 43 #[.pointer (some ⟨cb, 0, none⟩)] B_ = some (lexV x) := valA_eq (pureA_at (by kernel_rfl) (peekS_h A cb L lp lcap hn hL i x hx) hB_)
theorem peekS_v (A : AH) (cb : Nat) (L : List LR) (lp : Option Addr) (lcap : Nat) (hn : Vm.look A cb = none) (hL : StR LR.cells 4 A lp L) (i : Nat) (x : LR) (hx : L[i]? = some x) : valA Tryd.prog 43 #[.pointer (some ⟨cb, 0, none⟩)] ((cb, scB lp lcap L i) :: A) = some (lexV x) := valA_eq (pureA_at (by kernel_rfl) (peekS_h A cb L lp lcap hn hL i x hx) (SubA.refl _))
def nxS (L : List LR) (i : Nat) : Nat := if i + 1 < L.length then i + 1 else i
theorem nextS_h (A : AH) (cb : Nat) (L : List LR) (lp : Option Addr) (lcap : Nat) (hn : Vm.look A cb = none) (hL : StR LR.cells 4 A lp L) (hl : L.length ≤ 100000) (i : Nat) (x : LR) (hx : L[i]? = some x) : CallA Tryd.prog 59 #[.pointer (some ⟨cb, 0, none⟩)] ((cb, scB lp lcap L i) :: A) (fun u_ A_ => u_ = lexV x ∧ SubA ((cb, scB lp lcap L (nxS L i)) :: A) A_) := by
  refine callA_of_denA ⟨Tryd.prog, 59, Tryd.f59, 29, [0, 2, 3], [], [(2, .q false)], _⟩ (args := [_]) Tryd.func59 rfl (by kernel_rfl) Tryd.ntmps59 (by simp) (by kernel_rfl) ?_
  intro ν fr; have nuE := fr.nu
  have f0 := fr.2 0
  have pk := fun o => peekS_w A cb L lp lcap hn hL i x hx ((ν 0, o) :: (cb, scB lp lcap L i) :: A) (SubA.fresh f0 (SubA.refl _))
  have hlt := (List.getElem?_eq_some_iff.1 hx).1
  have we : IntKind.i64.wrap ((i : Int) + 1) = ((i + 1 : Nat) : Int) := by rw [w_i64 (by omega) (by omega)]; omega
  obtain ⟨m3, m4⟩ := look_ne f0 (show Vm.look ((cb, scB lp lcap L i) :: A) cb = some (scB lp lcap L i) by simp [Vm.look])
  have f1 : Vm.look ((cb, scB lp lcap L i) :: A) (ν 1) = none := fr.2 1
  obtain ⟨m5, m6⟩ := look_ne f1 (show Vm.look ((cb, scB lp lcap L i) :: A) cb = some (scB lp lcap L i) by simp [Vm.look])
  have f2 : Vm.look ((cb, scB lp lcap L i) :: A) (ν 2) = none := fr.2 2
  obtain ⟨m7, m8⟩ := look_ne f2 (show Vm.look ((cb, scB lp lcap L i) :: A) cb = some (scB lp lcap L i) by simp [Vm.look])
  have ha0 : Vm.look A (ν 0) = none := (SubA.skip hn (SubA.refl A)).none f0
  have ha1 : Vm.look A (ν 1) = none := (SubA.skip hn (SubA.refl A)).none f1
  simp only [scB, lexV] at pk ⊢
  by_cases h : i + 1 < L.length
  · have lt : (((i + 1 : Nat) : Int) < (L.length : Int)) = True := eq_true (by omega)
    have hnx : nxS L i = i + 1 := if_pos h
    rw [hnx]
    simp (maxDischargeDepth := 16) only [argE_nil, argE_cons, ↓vmD, vmV, vmStd, Nat.reduceMul, ↓reduceIte, Nat.reduceAdd, Nat.reduceSub, Nat.reduceEqDiff, Nat.reduceLT, Nat.reduceLeDiff, reduceCtorEq, Int.reduceToNat, Int.reduceLT, Int.reduceLE, Int.reduceEq, Int.reduceNeg, Int.reduceBEq, Int.reduceBNe, String.reduceEq, forall_const, ↓vmDA, vmVA, ↓vmQA, vmR, vmRA, ↓vmSA, vmSV, tyS, nuE, SubA.skip, SubA.refl, fr.2, vbScX, pk, we, lt, m3, m4, m5, m6, m7, m8]
    exact SubA.skip (look_c1 m6 ha1) (SubA.skip (look_c1 m4 ha0) (SubA.refl _))
  · have lt : (((i + 1 : Nat) : Int) < (L.length : Int)) = False := eq_false (by omega)
    have hnx : nxS L i = i := if_neg h
    rw [hnx]
    simp (maxDischargeDepth := 16) only [argE_nil, argE_cons, ↓vmD, vmV, vmStd, Nat.reduceMul, ↓reduceIte, Nat.reduceAdd, Nat.reduceSub, Nat.reduceEqDiff, Nat.reduceLT, Nat.reduceLeDiff, reduceCtorEq, Int.reduceToNat, Int.reduceLT, Int.reduceLE, Int.reduceEq, Int.reduceNeg, Int.reduceBEq, Int.reduceBNe, String.reduceEq, forall_const, ↓vmDA, vmVA, ↓vmQA, vmR, vmRA, ↓vmSA, vmSV, tyS, nuE, SubA.skip, SubA.refl, fr.2, vbScX, pk, we, lt, m3, m4, m5, m6, m7, m8]
    exact SubA.skip (look_c1 m6 ha1) (SubA.skip (look_c1 m4 ha0) (SubA.refl _))

def isL (x : LR) (k : Int) (t : ByteArray) : Bool := decide (x.k = k) && decide (x.t.toList = t.toList)
theorem acceptS_h (A : AH) (cb : Nat) (L : List LR) (lp : Option Addr) (lcap : Nat) (hn : Vm.look A cb = none) (hL : StR LR.cells 4 A lp L) (hl : L.length ≤ 100000) (i : Nat) (x : LR) (hx : L[i]? = some x) (k : Int) (t : ByteArray) : CallA Tryd.prog 75 #[.pointer (some ⟨cb, 0, none⟩), .int .i64 k, .string t] ((cb, scB lp lcap L i) :: A) (fun u_ A_ => u_ = .bool (isL x k t) ∧ SubA ((cb, scB lp lcap L (if isL x k t = true then nxS L i else i)) :: A) A_) := by
  refine callA_of_denA ⟨Tryd.prog, 75, Tryd.f75, 22, [0, 1, 2, 6, 7], [59], [], _⟩ (args := [_, _, _]) Tryd.func75 rfl (by kernel_rfl) Tryd.ntmps75 (by simp) (by kernel_rfl) ?_
  intro ν fr; have nuE := fr.nu
  have f0 := fr.2 0
  have pk := peekS_v A cb L lp lcap hn hL i x hx
  obtain ⟨m3, m4⟩ := look_ne f0 (show Vm.look ((cb, scB lp lcap L i) :: A) cb = some (scB lp lcap L i) by simp [Vm.look])
  have ha0 : Vm.look A (ν 0) = none := (SubA.skip hn (SubA.refl A)).none f0
  have s0 : ∀ o, SubA ((cb, scB lp lcap L i) :: A) ((ν 0, o) :: (cb, scB lp lcap L i) :: A) := fun o => SubA.skip f0 (SubA.refl _)
  simp only [lexV] at pk
  by_cases h1 : x.k = k
  · have e1 : (x.k != k) = false := by simp [h1]
    by_cases h2 : x.t.toList = t.toList
    · have hb : isL x k t = true := by simp [isL, h1, h2]
      rw [hb, if_pos rfl]
      simp (maxDischargeDepth := 16) only [argE_nil, argE_cons, ↓vmD, vmV, vmStd, Nat.reduceMul, ↓reduceIte, Nat.reduceAdd, Nat.reduceSub, Nat.reduceEqDiff, Nat.reduceLT, Nat.reduceLeDiff, reduceCtorEq, Int.reduceToNat, Int.reduceLT, Int.reduceLE, Int.reduceEq, Int.reduceNeg, Int.reduceBEq, Int.reduceBNe, String.reduceEq, forall_const, ↓vmDA, vmVA, ↓vmQA, vmR, vmRA, ↓vmSA, vmSV, tyS, nuE, SubA.skip, SubA.refl, fr.2, vbScX, pk, e1, eq_true h1, eq_true h2, m3, m4]
      refine CallA.put (nextS_h A cb L lp lcap hn hL hl i x hx) (s0 _) ?_
      intro ν fr; have nuE := And.intro (fr.mem (b := cb) (by simp)) (fr.nu)
      simp (maxDischargeDepth := 16) only [argE_nil, argE_cons, ↓vmD, vmV, vmStd, Nat.reduceMul, ↓reduceIte, Nat.reduceAdd, Nat.reduceSub, Nat.reduceEqDiff, Nat.reduceLT, Nat.reduceLeDiff, reduceCtorEq, Int.reduceToNat, Int.reduceLT, Int.reduceLE, Int.reduceEq, Int.reduceNeg, Int.reduceBEq, Int.reduceBNe, String.reduceEq, forall_const, ↓vmDA, vmVA, ↓vmQA, vmR, vmRA, ↓vmSA, vmSV, tyS, nuE, SubA.skip, SubA.refl, fr.2, vbScX]
    · have hb : isL x k t = false := by simp [isL, h1, h2]
      rw [hb, if_neg (by simp)]
      simp (maxDischargeDepth := 16) only [argE_nil, argE_cons, ↓vmD, vmV, vmStd, Nat.reduceMul, ↓reduceIte, Nat.reduceAdd, Nat.reduceSub, Nat.reduceEqDiff, Nat.reduceLT, Nat.reduceLeDiff, reduceCtorEq, Int.reduceToNat, Int.reduceLT, Int.reduceLE, Int.reduceEq, Int.reduceNeg, Int.reduceBEq, Int.reduceBNe, String.reduceEq, forall_const, ↓vmDA, vmVA, ↓vmQA, vmR, vmRA, ↓vmSA, vmSV, tyS, nuE, SubA.skip, SubA.refl, fr.2, vbScX, pk, e1, eq_true h1, eq_false h2, m3, m4]
  · have hb : isL x k t = false := by simp [isL, h1]
    rw [hb, if_neg (by simp)]
    have e1 : (x.k != k) = true := by simp [h1]
    simp (maxDischargeDepth := 16) only [argE_nil, argE_cons, ↓vmD, vmV, vmStd, Nat.reduceMul, ↓reduceIte, Nat.reduceAdd, Nat.reduceSub, Nat.reduceEqDiff, Nat.reduceLT, Nat.reduceLeDiff, reduceCtorEq, Int.reduceToNat, Int.reduceLT, Int.reduceLE, Int.reduceEq, Int.reduceNeg, Int.reduceBEq, Int.reduceBNe, String.reduceEq, forall_const, ↓vmDA, vmVA, ↓vmQA, vmR, vmRA, ↓vmSA, vmSV, tyS, nuE, SubA.skip, SubA.refl, fr.2, vbScX, pk, e1, eq_false h1, m3, m4]

theorem wordS_h (A : AH) (cb : Nat) (L : List LR) (lp : Option Addr) (lcap : Nat) (hn : Vm.look A cb = none) (hL : StR LR.cells 4 A lp L) (hl : L.length ≤ 100000) (i : Nat) (x : LR) (hx : L[i]? = some x) (t : ByteArray) : CallA Tryd.prog 58 #[.pointer (some ⟨cb, 0, none⟩), .string t] ((cb, scB lp lcap L i) :: A) (fun u_ A_ => u_ = .bool (isL x 1 t) ∧ SubA ((cb, scB lp lcap L (if isL x 1 t = true then nxS L i else i)) :: A) A_) := by
  refine callA_of_denA ⟨Tryd.prog, 58, Tryd.f58, 8, [0, 1, 4], [75], [], _⟩ (args := [_, _]) Tryd.func58 rfl (by kernel_rfl) Tryd.ntmps58 (by simp) (by kernel_rfl) ?_
  intro ν fr; have nuE := fr.nu
  simp (maxDischargeDepth := 16) only [argE_nil, argE_cons, ↓vmD, vmV, vmStd, Nat.reduceMul, ↓reduceIte, Nat.reduceAdd, Nat.reduceSub, Nat.reduceEqDiff, Nat.reduceLT, Nat.reduceLeDiff, reduceCtorEq, Int.reduceToNat, Int.reduceLT, Int.reduceLE, Int.reduceEq, Int.reduceNeg, Int.reduceBEq, Int.reduceBNe, String.reduceEq, forall_const, ↓vmDA, vmVA, ↓vmQA, vmR, vmRA, ↓vmSA, vmSV, tyS, nuE, SubA.skip, SubA.refl, fr.2, vbScX]
  refine CallA.put (acceptS_h A cb L lp lcap hn hL hl i x hx 1 t) (SubA.refl _) ?_
  intro ν fr; have nuE := And.intro (fr.mem (b := cb) (by simp)) (fr.nu)
  simp (maxDischargeDepth := 16) only [argE_nil, argE_cons, ↓vmD, vmV, vmStd, Nat.reduceMul, ↓reduceIte, Nat.reduceAdd, Nat.reduceSub, Nat.reduceEqDiff, Nat.reduceLT, Nat.reduceLeDiff, reduceCtorEq, Int.reduceToNat, Int.reduceLT, Int.reduceLE, Int.reduceEq, Int.reduceNeg, Int.reduceBEq, Int.reduceBNe, String.reduceEq, forall_const, ↓vmDA, vmVA, ↓vmQA, vmR, vmRA, ↓vmSA, vmSV, tyS, nuE, SubA.skip, SubA.refl, fr.2, vbScX]

theorem markS_h (A : AH) (cb : Nat) (L : List LR) (lp : Option Addr) (lcap : Nat) (hn : Vm.look A cb = none) (hL : StR LR.cells 4 A lp L) (hl : L.length ≤ 100000) (i : Nat) (x : LR) (hx : L[i]? = some x) (t : ByteArray) : CallA Tryd.prog 61 #[.pointer (some ⟨cb, 0, none⟩), .string t] ((cb, scB lp lcap L i) :: A) (fun u_ A_ => u_ = .bool (isL x 4 t) ∧ SubA ((cb, scB lp lcap L (if isL x 4 t = true then nxS L i else i)) :: A) A_) := by
  refine callA_of_denA ⟨Tryd.prog, 61, Tryd.f61, 8, [0, 1, 4], [75], [], _⟩ (args := [_, _]) Tryd.func61 rfl (by kernel_rfl) Tryd.ntmps61 (by simp) (by kernel_rfl) ?_
  intro ν fr; have nuE := fr.nu
  simp (maxDischargeDepth := 16) only [argE_nil, argE_cons, ↓vmD, vmV, vmStd, Nat.reduceMul, ↓reduceIte, Nat.reduceAdd, Nat.reduceSub, Nat.reduceEqDiff, Nat.reduceLT, Nat.reduceLeDiff, reduceCtorEq, Int.reduceToNat, Int.reduceLT, Int.reduceLE, Int.reduceEq, Int.reduceNeg, Int.reduceBEq, Int.reduceBNe, String.reduceEq, forall_const, ↓vmDA, vmVA, ↓vmQA, vmR, vmRA, ↓vmSA, vmSV, tyS, nuE, SubA.skip, SubA.refl, fr.2, vbScX]
  refine CallA.put (acceptS_h A cb L lp lcap hn hL hl i x hx 4 t) (SubA.refl _) ?_
  intro ν fr; have nuE := And.intro (fr.mem (b := cb) (by simp)) (fr.nu)
  simp (maxDischargeDepth := 16) only [argE_nil, argE_cons, ↓vmD, vmV, vmStd, Nat.reduceMul, ↓reduceIte, Nat.reduceAdd, Nat.reduceSub, Nat.reduceEqDiff, Nat.reduceLT, Nat.reduceLeDiff, reduceCtorEq, Int.reduceToNat, Int.reduceLT, Int.reduceLE, Int.reduceEq, Int.reduceNeg, Int.reduceBEq, Int.reduceBNe, String.reduceEq, forall_const, ↓vmDA, vmVA, ↓vmQA, vmR, vmRA, ↓vmSA, vmSV, tyS, nuE, SubA.skip, SubA.refl, fr.2, vbScX]

set_option linter.unusedSimpArgs false
set_option linter.unusedVariables false
set_option maxHeartbeats 2000000
set_option maxRecDepth 20000
theorem own_ha {h' : Heap} {base : Nat} {e : TypeId} {size : Nat} {v : Value} {n : Nat} {xs : List Value} (o : OwnH h' base e size v n xs) : ∃ B, OwnA e size v B n xs ∧ Sat B h' ∧ ∀ b, Vm.look B b ≠ none → base ≤ b := by
  unfold OwnH World.ownsRow at o
  obtain ⟨h1, ⟨h2, h3⟩ | ⟨g, cap, cur, h2, h3, h4, h5⟩⟩ := o
  · exact ⟨[], ⟨h1, .inl ⟨h2, rfl, h3⟩⟩, Sat.nil _, fun b hb => absurd rfl hb⟩
  · refine ⟨[(g, .cells cur e)], ⟨h1, .inr ⟨g, cap, cur, h2, rfl, h5⟩⟩, fun b o hl => ?_, fun b hb => ?_⟩
    · simp only [Vm.look] at hl
      split at hl
      · rename_i e1; subst e1; cases hl; exact h4
      · cases hl
    · simp only [Vm.look] at hb
      split at hb
      · rename_i e1; rw [← e1]; exact h3
      · exact absurd rfl hb
theorem scan_a (A : AH) (s : ByteArray) (hs : s.size ≤ 100000) : CallA Tryd.prog 57 #[.string s] A fun u D => ∃ v B, u = v ∧ (∃ w, v = .tuple #[w, .int .i64 (scanF s).1, .int .i64 ((scanF s).2.1 : Nat)] ∧ OwnL LR.cells 4 70 w B (scanF s).2.2) ∧ Dis B A ∧ SubA (B ++ A) D := by
  intro h hA
  unfold RunC
  rw [if_pos (by kernel_rfl)]
  refine (scan_h s hs h).mono0 ?_
  rintro r h' ⟨v, rfl, o, g⟩
  obtain ⟨B, o2, sB, hb⟩ := own_ha o
  have dB : Dis B A := fun x hx => by
    cases hl : Vm.look A x with
    | none => exact absurd hl hx
    | some ob =>
      have := hA.lt hl
      cases hB : Vm.look B x with
      | none => rfl
      | some o3 => have := hb x (by rw [hB]; simp); omega
  refine ⟨_, B ++ A, rfl, Sat.both sB (hA.grew g), ⟨g.le, fun b hlt hl => ⟨g.old b hlt, look_app_none ?_ hl⟩⟩, _, B, rfl, ⟨v, rfl, .inl o2⟩, dB, SubA.refl _⟩
  cases hB : Vm.look B b with
  | none => rfl
  | some o3 => have := hb b (by rw [hB]; simp); omega
theorem scanG_len (s : ByteArray) : ∀ m i, (scanG s m i).2.2.length ≤ m := by
  intro m
  induction m with
  | zero => intro i; simp [scanG]
  | succ m ih =>
    intro i
    simp only [scanG]
    split
    · simp
    · split
      · simp
      · split
        · simp only [List.length_cons]; have := ih ((lexR s i).nx + skN false (s.toList.drop (lexR s i).nx)); omega
        · simp
def EndL (L : List LR) : Prop := ∀ i x, L[i]? = some x → x.k ≠ 0 → i + 1 < L.length
/-- What scanning gives: good lexemes, and the end. -/
theorem scan_out {s : ByteArray} (h0 : (scanF s).1 = 0) : ∃ K, (scanF s).2.2 = K ++ [endR s] ∧ (∀ x ∈ K, wfX x) ∧ s.size ≤ 4000 ∧ (scanF s).2.2.length ≤ 4001 := by
  have hh := h0
  unfold scanF at hh
  split at hh
  · cases hh
  · rename_i h4
    have sk := skN_end s 0 (by omega)
    simp only [Nat.zero_add, List.drop_zero] at sk
    obtain ⟨K, k1, k2, k3⟩ := scanG_wf s (s.size + 1) (skN false s.toList) (by omega) sk hh
    have hS : (scanF s).2.2 = K ++ [endR s] := by unfold scanF; rw [if_neg h4, k1]
    refine ⟨K, hS, k2, by omega, ?_⟩
    have := scanG_len s (s.size + 1) (skN false s.toList)
    unfold scanF
    rw [if_neg h4]
    omega
theorem scan_end {s : ByteArray} (h0 : (scanF s).1 = 0) : EndL (scanF s).2.2 := by
  obtain ⟨K, hS, _⟩ := scan_out h0
  rw [hS]
  intro i x hx hk
  have hi := (List.getElem?_eq_some_iff.1 hx).1
  simp only [List.length_append, List.length_singleton] at hi ⊢
  by_cases e : i < K.length
  · omega
  · rw [List.getElem?_append_right (by omega), show i - K.length = 0 by omega] at hx
    simp at hx
    subst hx
    exact absurd rfl hk
/-- What NewScanner leaves. -/
def NsP (A : AH) (s : ByteArray) (u : Value) (D : AH) : Prop :=
  ((scanF s).1 ≠ 0 ∧ u = .tuple #[.pointer none, .int .i64 (scanF s).1, .int .i64 ((scanF s).2.1 : Nat)] ∧ SubA A D) ∨ ((scanF s).1 = 0 ∧ ∃ cb lp lcap B, u = .tuple #[.pointer (some ⟨cb, 0, none⟩), .int .i64 0, .int .i64 0] ∧ StR LR.cells 4 B lp (scanF s).2.2 ∧ Sep [[(cb, scB lp lcap (scanF s).2.2 0)], B, A] ∧ SubA (cat [[(cb, scB lp lcap (scanF s).2.2 0)], B, A]) D)
theorem newScS_h (A : AH) (s : ByteArray) (hs : s.size ≤ 100000) : CallA Tryd.prog 42 #[.string s] A (fun u_ A_ => NsP A s u_ A_) := by
  refine callA_of_denA ⟨Tryd.prog, 42, Tryd.f42, 21, [0, 2, 3, 4, 5, 6, 7], [57], [], _⟩ (args := [_]) Tryd.func42 rfl (by kernel_rfl) Tryd.ntmps42 (by simp) (by kernel_rfl) ?_
  intro ν fr; have nuE := fr.nu
  simp (maxDischargeDepth := 16) only [argE_nil, argE_cons, ↓vmD, vmV, vmStd, Nat.reduceMul, ↓reduceIte, Nat.reduceAdd, Nat.reduceSub, Nat.reduceEqDiff, Nat.reduceLT, Nat.reduceLeDiff, reduceCtorEq, Int.reduceToNat, Int.reduceLT, Int.reduceLE, Int.reduceEq, Int.reduceNeg, Int.reduceBEq, Int.reduceBNe, String.reduceEq, forall_const, ↓vmDA, vmVA, ↓vmQA, vmR, vmRA, ↓vmSA, vmSV, tyS, nuE, SubA.skip, SubA.refl, fr.2, vbScX]
  refine CallA.newX (scan_a A s hs) (SubA.refl _) ?_
  rintro v B ⟨w, rfl, ho⟩ hd
  refine ⟨_, SubA.refl _, ?_⟩
  clear nuE fr
  intro ν fr; have nuE := fr.nu
  by_cases h0 : (scanF s).1 = 0
  · obtain ⟨p, cap, rfl, h1, h2⟩ := OwnL.read (f := LR.cells) (n := 4) (fun x => rfl) ho
    have f0 : Vm.look (cat [B, A]) (ν 0) = none := fr.2 0
    simp (maxDischargeDepth := 16) only [argE_nil, argE_cons, ↓vmD, vmV, vmStd, Nat.reduceMul, ↓reduceIte, Nat.reduceAdd, Nat.reduceSub, Nat.reduceEqDiff, Nat.reduceLT, Nat.reduceLeDiff, reduceCtorEq, Int.reduceToNat, Int.reduceLT, Int.reduceLE, Int.reduceEq, Int.reduceNeg, Int.reduceBEq, Int.reduceBNe, String.reduceEq, forall_const, ↓vmDA, vmVA, ↓vmQA, vmR, vmRA, ↓vmSA, vmSV, tyS, nuE, SubA.skip, SubA.refl, fr.2, vbScX, h0]
    have sp : Sep [B, A] := Sep.cons hd (Sep.one A)
    exact ⟨ν 0, p, cap, B, rfl, h2, Sep.fresh f0 _ sp, SubA.refl _⟩
  · simp (maxDischargeDepth := 16) only [argE_nil, argE_cons, ↓vmD, vmV, vmStd, Nat.reduceMul, ↓reduceIte, Nat.reduceAdd, Nat.reduceSub, Nat.reduceEqDiff, Nat.reduceLT, Nat.reduceLeDiff, reduceCtorEq, Int.reduceToNat, Int.reduceLT, Int.reduceLE, Int.reduceEq, Int.reduceNeg, Int.reduceBEq, Int.reduceBNe, String.reduceEq, forall_const, ↓vmDA, vmVA, ↓vmQA, vmR, vmRA, ↓vmSA, vmSV, tyS, nuE, SubA.skip, SubA.refl, fr.2, vbScX, eq_false h0]
    exact hd.right

set_option linter.unusedSimpArgs false
set_option linter.unusedVariables false
set_option maxHeartbeats 2000000
set_option maxRecDepth 20000
def reasonT : Txt := [114, 101, 97, 115, 111, 110]
def stopK (x : LR) : Bool := !(decide (x.k = 1)) || (decide (tx x = claimT) || decide (tx x = defenceT))
def kindsX : List LR → Nat → List Txt → Int × Nat × List Txt
  | [], i, out => (0, i, out)
  | x :: K, i, out => if stopK x = true then (0, i, out) else if 8 ≤ out.length then (3, i, []) else if tx x ∈ out then (7, i, []) else kindsX K (i + 1) (out ++ [tx x])
def lxA (L : List LR) (i : Nat) : LR := L.getD i ⟨0, ⟨#[]⟩, 0, 0, 0, 0⟩
def kindsW (L : List LR) (i : Nat) (w : Txt) : Int × Nat × List Txt := if isL (lxA L i) 1 (bs w) = true then kindsX (L.drop (i + 1)) (i + 1) [] else (2, i, [])
def atK (L : List LR) (e : Int) (i : Nat) : Int := if e = 0 then 0 else ((lxA L i).a : Int)

theorem lxA_of {L : List LR} {i : Nat} {x : LR} (h : L[i]? = some x) : lxA L i = x := by unfold lxA; rw [List.getD_eq_getElem?_getD, h]; rfl
theorem sc_s1 (a : ByteArray) : sliceCells Tryd.prog 25 1 [(0, .string a)] = some (9, #[.string a]) := by kernel_rfl
theorem dis_cons' {B X : AH} {x : Nat} {o : Obj} (h : Vm.look B x = none) (d : Dis B X) : Dis B ((x, o) :: X) := fun b hb => by
  simp only [Vm.look] at hb
  by_cases e : x = b
  · subst e; exact h
  · rw [if_neg e] at hb; exact d b hb
theorem cons_back' {B X : AH} {x : Nat} {o : Obj} (h : Vm.look B x = none) : SubA (B ++ ((x, o) :: X)) ((x, o) :: (B ++ X)) := fun b u hl => by
  rw [look_append] at hl
  simp only [Vm.look]
  by_cases e : x = b
  · subst e
    rw [h] at hl
    simp only [Vm.look, if_true] at hl
    rw [if_pos rfl]; exact hl
  · rw [if_neg e, look_append]
    cases hb : Vm.look B b with
    | some w => rw [hb] at hl; exact hl
    | none => rw [hb] at hl; simp only [Vm.look, e, if_false] at hl; exact hl
theorem pKinds_h (A : AH) (cb : Nat) (L : List LR) (lp : Option Addr) (lcap : Nat) (hn : Vm.look A cb = none) (hL : StR LR.cells 4 A lp L) (hl : L.length ≤ 100000) (hend : EndL L) (i : Nat) (hi : i < L.length) (w : Txt) : CallA Tryd.prog 60 #[.pointer (some ⟨cb, 0, none⟩), .string (bs w)] ((cb, scB lp lcap L i) :: A) (fun u_ A_ => ∃ v B, u_ = .tuple #[v, .int .i64 (kindsW L i w).1, .int .i64 (atK L (kindsW L i w).1 (kindsW L i w).2.1)] ∧ OwnL strC 1 9 v B (kindsW L i w).2.2 ∧ Dis B ((cb, scB lp lcap L (kindsW L i w).2.1) :: A) ∧ SubA (B ++ ((cb, scB lp lcap L (kindsW L i w).2.1) :: A)) A_) := by
  refine callA_of_denA ⟨Tryd.prog, 60, Tryd.f60, 48, [0, 1, 4, 5, 6, 7, 8, 9], [58, 59], [(3, .q false), (9, .q false), (11, .q false)], _⟩ (args := [_, _]) Tryd.func60 rfl (by kernel_rfl) Tryd.ntmps60 (by simp) (by kernel_rfl) ?_
  intro ν fr; have nuE := fr.nu
  obtain ⟨x, hx⟩ : ∃ x, L[i]? = some x := ⟨_, List.getElem?_eq_getElem hi⟩
  have hxa := lxA_of hx
  have f0 := fr.2 0
  have pk := peekS_v A cb L lp lcap hn hL i x hx
  have s0 : ∀ o, SubA ((cb, scB lp lcap L i) :: A) ((ν 0, o) :: (cb, scB lp lcap L i) :: A) := fun o => SubA.skip f0 (SubA.refl _)
  simp only [lexV, ← tx_bs] at pk
  have hW : kindsW L i w = if isL x 1 (bs w) = true then kindsX (L.drop (i + 1)) (i + 1) [] else (2, i, []) := by unfold kindsW; rw [hxa]
  have ha0 : Vm.look A (ν 0) = none := (SubA.skip hn (SubA.refl A)).none f0
  simp (maxDischargeDepth := 16) only [argE_nil, argE_cons, ↓vmD, vmV, vmStd, Nat.reduceMul, ↓reduceIte, Nat.reduceAdd, Nat.reduceSub, Nat.reduceEqDiff, Nat.reduceLT, Nat.reduceLeDiff, reduceCtorEq, Int.reduceToNat, Int.reduceLT, Int.reduceLE, Int.reduceEq, Int.reduceNeg, Int.reduceBEq, Int.reduceBNe, String.reduceEq, forall_const, ↓vmDA, vmVA, ↓vmQA, vmR, vmRA, ↓vmSA, vmSV, tyS, nuE, SubA.skip, SubA.refl, fr.2, vbScX, pk]
  cases h1 : isL x 1 (bs w) with
  | false =>
    rw [h1, if_neg (by simp)] at hW
    have hs := wordS_h A cb L lp lcap hn hL hl i x hx (bs w)
    rw [h1, if_neg (by simp)] at hs
    obtain ⟨ncb, ncb'⟩ := look_ne f0 (show Vm.look ((cb, scB lp lcap L i) :: A) cb = some (scB lp lcap L i) by simp [Vm.look])
    have dst_ : True := (by simp [nuE]); generalize ν 0 = n0 at dst_  f0 ha0 ncb ncb' ⊢
    clear nuE fr s0
    have hs2 := wordS_h ((n0, (Obj.cells #[.int .i64 x.k, .string (bs (tx x)), .int .i64 x.n, .int .i64 x.a] 70)) :: A) cb L lp lcap (look_c1 ncb hn) (hL.mono (SubA.fresh ha0 (SubA.refl A))) hl i x hx (bs w)
    rw [h1, if_neg (by simp)] at hs2
    refine CallA.put hs2 (SubA.swap ncb') ?_
    intro ν fr
    have nuE := And.intro ncb (And.intro ncb' (And.intro (fr.mem (b := n0) (by simp)) (And.intro (fr.mem (b := cb) (by simp)) fr.nu)))
    simp (maxDischargeDepth := 16) only [argE_nil, argE_cons, ↓vmD, vmV, vmStd, Nat.reduceMul, ↓reduceIte, Nat.reduceAdd, Nat.reduceSub, Nat.reduceEqDiff, Nat.reduceLT, Nat.reduceLeDiff, reduceCtorEq, Int.reduceToNat, Int.reduceLT, Int.reduceLE, Int.reduceEq, Int.reduceNeg, Int.reduceBEq, Int.reduceBNe, String.reduceEq, forall_const, ↓vmDA, vmVA, ↓vmQA, vmR, vmRA, ↓vmSA, vmSV, tyS, nuE, SubA.skip, SubA.refl, fr.2, vbScX]
    rw [hW]
    refine ⟨_, [], ?_, OwnL.nil _ _ _, Dis.nil _, cons_in (SubA.fresh ha0 (SubA.refl A))⟩
    simp only [atK, hxa]; rfl
  | true =>
    rw [h1, if_pos rfl] at hW
    have hk : x.k = 1 := by simp only [isL, Bool.and_eq_true, decide_eq_true_eq] at h1; exact h1.1
    have hi1 := hend i x hx (by omega)
    have hs := wordS_h A cb L lp lcap hn hL hl i x hx (bs w)
    rw [h1, if_pos rfl, show nxS L i = i + 1 from if_pos hi1] at hs
    refine CallA.put hs (s0 _) ?_
    rw [hW]
    clear nuE fr s0 ha0 hs pk f0 hW h1 hk
    intro ν fr; have nuE := And.intro (fr.mem (b := cb) (by simp)) (fr.nu)
    simp (maxDischargeDepth := 16) only [argE_nil, argE_cons, ↓vmD, vmV, vmStd, Nat.reduceMul, ↓reduceIte, Nat.reduceAdd, Nat.reduceSub, Nat.reduceEqDiff, Nat.reduceLT, Nat.reduceLeDiff, reduceCtorEq, Int.reduceToNat, Int.reduceLT, Int.reduceLE, Int.reduceEq, Int.reduceNeg, Int.reduceBEq, Int.reduceBNe, String.reduceEq, forall_const, ↓vmDA, vmVA, ↓vmQA, vmR, vmRA, ↓vmSA, vmSV, tyS, nuE, SubA.skip, SubA.refl, fr.2, vbScX]
    clear nuE fr
    obtain ⟨j, K, out, v, B, hj, ho0, hv, hB, hK, hjl, ho, dB, hX⟩ : ∃ (j : Nat) (K : List LR) (out : List Txt) (v : Value) (B : AH), j = i + 1 ∧ out = [] ∧ v = .slice none 0 0 ∧ B = [] ∧ K = L.drop j ∧ j < L.length ∧ OwnL strC 1 9 v B out ∧ Dis B ((cb, scB lp lcap L j) :: A) ∧ kindsX (L.drop (i + 1)) (i + 1) [] = kindsX K j out := ⟨i + 1, _, [], _, [], rfl, rfl, rfl, rfl, rfl, hi1, OwnL.nil _ _ _, Dis.nil _, rfl⟩
    rw [hX, ← hj]
    rw [show (8, some (Value.slice none 0 0)) = (8, some v) by rw [hv]]
    refine LoopA.at (A := (cb, scB lp lcap L j) :: (B ++ A)) (by subst hB; exact SubA.refl _) ?_
    clear hj ho0 hv hB hX hx hxa hi1
    induction K generalizing j out v B with
    | nil =>
      have := drop_nil hK (by omega)
      omega
    | cons x K ih =>
      obtain ⟨hx, hlt, hK', htk⟩ := drop_some hK
      have hxa := lxA_of hx
      have hnB : Vm.look B cb = none := Dis.headn dB
      have dBA : Dis B A := Dis.tailn dB hn
      have hn' : Vm.look (B ++ A) cb = none := look_app_none hnB hn
      have hL' : StR LR.cells 4 (B ++ A) lp L := hL.mono dBA.right
      have pk := peekS_v (B ++ A) cb L lp lcap hn' hL' j x hx
      simp only [lexV, ← tx_bs] at pk
      obtain ⟨qp, qcap, rfl, hqc, hqs⟩ := ho.read strC_len
      have hcap := own_cap ho
      refine LoopA.intro (by kernel_rfl) ?_
      intro ν fr; have nuE := And.intro (fr.mem (b := cb) (by simp)) (fr.nu)
      have f0 := fr.2 0
      have s0 : ∀ o, SubA ((cb, scB lp lcap L j) :: (B ++ A)) ((ν 0, o) :: (cb, scB lp lcap L j) :: (B ++ A)) := fun o => SubA.skip f0 (SubA.refl _)
      have dBc : ∀ o, Dis B ((cb, o) :: A) := fun o => dis_cons' hnB dBA
      have eBc : ∀ o, SubA (B ++ ((cb, o) :: A)) ((cb, o) :: (B ++ A)) := fun o => cons_back' hnB
      by_cases h1 : x.k = 1
      rotate_left
      · have e1 : (x.k != 1) = true := by simp [h1]
        have hS : kindsX (x :: K) j out = (0, j, out) := by simp only [kindsX]; rw [if_pos (by simp [stopK, h1])]
        rw [hS]
        simp (maxDischargeDepth := 16) only [argE_nil, argE_cons, ↓vmD, vmV, vmStd, Nat.reduceMul, ↓reduceIte, Nat.reduceAdd, Nat.reduceSub, Nat.reduceEqDiff, Nat.reduceLT, Nat.reduceLeDiff, reduceCtorEq, Int.reduceToNat, Int.reduceLT, Int.reduceLE, Int.reduceEq, Int.reduceNeg, Int.reduceBEq, Int.reduceBNe, String.reduceEq, forall_const, ↓vmDA, vmVA, ↓vmQA, vmR, vmRA, ↓vmSA, vmSV, tyS, nuE, SubA.skip, SubA.refl, fr.2, vbScX, pk, e1, eq_false h1]
        exact ⟨_, B, rfl, ho, dBc _, SubA.trans (eBc _) (s0 _)⟩
      have e1 : (x.k != 1) = false := by simp [h1]
      have w1 : Vm.look ((cb, scB lp lcap L j) :: (B ++ A)) (ν 1) = none := fr.2 1
      have w1' : (cb = ν 1) = False := (look_ne w1 (show Vm.look ((cb, scB lp lcap L j) :: (B ++ A)) cb = some (scB lp lcap L j) by simp [Vm.look])).2
      have h01 : (ν 0 = ν 1) = False := by simp [nuE]
      have g1 : ∀ o, Vm.look ((ν 0, o) :: (cb, scB lp lcap L j) :: (B ++ A)) (ν 1) = none := fun o => look_c1 h01 w1
      have w2 : Vm.look ((cb, scB lp lcap L j) :: (B ++ A)) (ν 2) = none := fr.2 2
      have h02 : (ν 0 = ν 2) = False := by simp [nuE]
      have h12 : (ν 1 = ν 2) = False := by simp [nuE]
      have g2 : ∀ o o', Vm.look ((ν 1, o') :: (ν 0, o) :: (cb, scB lp lcap L j) :: (B ++ A)) (ν 2) = none := fun o o' => look_c1 h12 (look_c1 h02 w2)
      have iv := isOneOf_w [(ν 1, (Obj.cells #[.string ⟨#[99, 108, 97, 105, 109]⟩, .string ⟨#[100, 101, 102, 101, 110, 99, 101]⟩] 9))] [claimT, defenceT] (some ⟨ν 1, 0, none⟩) 2 (tx x) (TxR.at (ν 1) 9 [claimT, defenceT] (by simp))
      simp only [List.length_cons, List.length_nil, Nat.reduceAdd] at iv
      have iv' := iv ((ν 1, (Obj.cells #[.string ⟨#[99, 108, 97, 105, 109]⟩, .string ⟨#[100, 101, 102, 101, 110, 99, 101]⟩] 9)) :: (ν 0, (Obj.cells #[.int .i64 x.k, .string (bs (tx x)), .int .i64 x.n, .int .i64 x.a] 70)) :: (cb, scB lp lcap L j) :: (B ++ A)) (SubA.left [_] _)
      have hk : decide (tx x ∈ [claimT, defenceT]) = (decide (tx x = claimT) || decide (tx x = defenceT)) := by simp [Bool.decide_or]
      rw [hk] at iv'
      by_cases h2 : tx x = claimT ∨ tx x = defenceT
      · have hS : kindsX (x :: K) j out = (0, j, out) := by simp only [kindsX]; rw [if_pos (by rcases h2 with h2 | h2 <;> simp [stopK, h2])]
        have hd : (decide (tx x = claimT) || decide (tx x = defenceT)) = true := by rcases h2 with h2 | h2 <;> simp [h2]
        rw [hd] at iv'
        rw [hS]
        simp (maxDischargeDepth := 16) only [argE_nil, argE_cons, ↓vmD, vmV, vmStd, Nat.reduceMul, ↓reduceIte, Nat.reduceAdd, Nat.reduceSub, Nat.reduceEqDiff, Nat.reduceLT, Nat.reduceLeDiff, reduceCtorEq, Int.reduceToNat, Int.reduceLT, Int.reduceLE, Int.reduceEq, Int.reduceNeg, Int.reduceBEq, Int.reduceBNe, String.reduceEq, forall_const, ↓vmDA, vmVA, ↓vmQA, vmR, vmRA, ↓vmSA, vmSV, tyS, nuE, SubA.skip, SubA.refl, fr.2, vbScX, pk, e1, eq_true h1, sc_s2, iv']
        exact ⟨_, B, rfl, ho, dBc _, SubA.trans (eBc _) (SubA.trans (s0 _) (SubA.skip (g1 _) (SubA.refl _)))⟩
      have hd : (decide (tx x = claimT) || decide (tx x = defenceT)) = false := by simp only [not_or] at h2; simp [h2]
      have hst : stopK x = false := by simp only [not_or] at h2; simp [stopK, h1, h2]
      rw [hd] at iv'
      by_cases h3 : 8 ≤ out.length
      · have hS : kindsX (x :: K) j out = (3, j, []) := by simp only [kindsX]; rw [if_neg (by simp [hst]), if_pos h3]
        rw [hS]
        have h3' : ((8 : Int) ≤ (out.length : Int)) = True := eq_true (by omega)
        simp (maxDischargeDepth := 16) only [argE_nil, argE_cons, ↓vmD, vmV, vmStd, Nat.reduceMul, ↓reduceIte, Nat.reduceAdd, Nat.reduceSub, Nat.reduceEqDiff, Nat.reduceLT, Nat.reduceLeDiff, reduceCtorEq, Int.reduceToNat, Int.reduceLT, Int.reduceLE, Int.reduceEq, Int.reduceNeg, Int.reduceBEq, Int.reduceBNe, String.reduceEq, forall_const, ↓vmDA, vmVA, ↓vmQA, vmR, vmRA, ↓vmSA, vmSV, tyS, nuE, SubA.skip, SubA.refl, fr.2, vbScX, pk, e1, eq_true h1, sc_s2, iv', h3']
        refine ⟨_, [], ?_, OwnL.nil _ _ _, Dis.nil _, SubA.trans (cons_in dBA.right) (SubA.trans (s0 _) (SubA.skip (g1 _) (SubA.refl _)))⟩
        simp only [atK, hxa]; rfl
      have h3' : ((8 : Int) ≤ (out.length : Int)) = False := eq_false (by omega)
      have i2 := isOneOf_w (B ++ A) out qp qcap (tx x) ⟨hqs.mono (SubA.left B A), hqc, hcap⟩ ((ν 1, (Obj.cells #[.string ⟨#[99, 108, 97, 105, 109]⟩, .string ⟨#[100, 101, 102, 101, 110, 99, 101]⟩] 9)) :: (ν 0, (Obj.cells #[.int .i64 x.k, .string (bs (tx x)), .int .i64 x.n, .int .i64 x.a] 70)) :: (cb, scB lp lcap L j) :: (B ++ A)) (SubA.trans (SubA.skip hn' (SubA.refl _)) (SubA.trans (s0 _) (SubA.skip (g1 _) (SubA.refl _))))
      by_cases h4 : tx x ∈ out
      · have hS : kindsX (x :: K) j out = (7, j, []) := by simp only [kindsX]; rw [if_neg (by simp [hst]), if_neg h3, if_pos h4]
        rw [hS]
        rw [decide_eq_true h4] at i2
        simp (maxDischargeDepth := 16) only [argE_nil, argE_cons, ↓vmD, vmV, vmStd, Nat.reduceMul, ↓reduceIte, Nat.reduceAdd, Nat.reduceSub, Nat.reduceEqDiff, Nat.reduceLT, Nat.reduceLeDiff, reduceCtorEq, Int.reduceToNat, Int.reduceLT, Int.reduceLE, Int.reduceEq, Int.reduceNeg, Int.reduceBEq, Int.reduceBNe, String.reduceEq, forall_const, ↓vmDA, vmVA, ↓vmQA, vmR, vmRA, ↓vmSA, vmSV, tyS, nuE, SubA.skip, SubA.refl, fr.2, vbScX, pk, e1, eq_true h1, sc_s2, iv', h3', i2]
        refine ⟨_, [], ?_, OwnL.nil _ _ _, Dis.nil _, SubA.trans (cons_in dBA.right) (SubA.trans (s0 _) (SubA.skip (g1 _) (SubA.refl _)))⟩
        simp only [atK, hxa]; rfl
      have hS : kindsX (x :: K) j out = kindsX K (j + 1) (out ++ [tx x]) := by simp only [kindsX]; rw [if_neg (by simp [hst]), if_neg h3, if_neg h4]
      rw [hS]
      rw [decide_eq_false h4] at i2
      have hj1 := hend j x hx (by omega)
      simp (maxDischargeDepth := 16) only [argE_nil, argE_cons, ↓vmD, vmV, vmStd, Nat.reduceMul, ↓reduceIte, Nat.reduceAdd, Nat.reduceSub, Nat.reduceEqDiff, Nat.reduceLT, Nat.reduceLeDiff, reduceCtorEq, Int.reduceToNat, Int.reduceLT, Int.reduceLE, Int.reduceEq, Int.reduceNeg, Int.reduceBEq, Int.reduceBNe, String.reduceEq, forall_const, ↓vmDA, vmVA, ↓vmQA, vmR, vmRA, ↓vmSA, vmSV, tyS, nuE, SubA.skip, SubA.refl, fr.2, vbScX, pk, e1, eq_true h1, sc_s2, sc_s1, iv', h3', i2]
      have sBA : SubA (B ++ A) ((cb, scB lp lcap L j) :: (B ++ A)) := SubA.skip hn' (SubA.refl _)
      have sAll : ∀ X o1 o2 o3, SubA X ((cb, scB lp lcap L j) :: (B ++ A)) → SubA X ((ν 2, o3) :: (ν 1, o2) :: (ν 0, o1) :: (cb, scB lp lcap L j) :: (B ++ A)) := fun X o1 o2 o3 h => SubA.trans h (SubA.trans (s0 o1) (SubA.trans (SubA.skip (g1 _) (SubA.refl _)) (SubA.skip (g2 _ _) (SubA.refl _))))
      refine RunA.use ?_
      refine append_src (m := 1) (news := strC (tx x)) (B := B) slc25 zro9 rfl (by decide) ho (sAll B _ _ _ (SubA.trans (SubA.left B A) sBA)) (.inr ⟨ν 2, 0, rfl, by simp (maxDischargeDepth := 16) only [argE_nil, argE_cons, ↓vmD, vmV, vmStd, Nat.reduceMul, ↓reduceIte, Nat.reduceAdd, Nat.reduceSub, Nat.reduceEqDiff, Nat.reduceLT, Nat.reduceLeDiff, reduceCtorEq, Int.reduceToNat, Int.reduceLT, Int.reduceLE, Int.reduceEq, Int.reduceNeg, Int.reduceBEq, Int.reduceBNe, String.reduceEq, forall_const, ↓vmDA, vmVA, ↓vmQA, vmR, vmRA, ↓vmSA, vmSV, tyS, nuE, SubA.skip, SubA.refl, fr.2, vbScX, strC]⟩) (str_one _) (by simp only [maxLen]; omega) (by omega) ?_
      intro v' B' ho' hb'
      have ho2 : OwnL strC 1 9 v' B' (out ++ [tx x]) := by
        unfold OwnL
        rw [List.length_append, List.flatMap_append]
        simpa only [List.map_cons, List.map_nil, List.length_cons, List.length_nil, List.flatMap_cons, List.flatMap_nil, List.append_nil, Nat.zero_add] using ho'
      have sC : SubA ((cb, scB lp lcap L j) :: A) ((cb, scB lp lcap L j) :: (B ++ A)) := cons_in dBA.right
      have dB' : Dis B' ((cb, scB lp lcap L j) :: A) := ap_dis hb' dB (sAll _ _ _ _ sC)
      have hnB' : Vm.look B' cb = none := Dis.headn dB'
      have dBA' : Dis B' A := Dis.tailn dB' hn
      refine ⟨(cb, scB lp lcap L j) :: (B' ++ A), SubA.trans (cons_out hnB') (SubA.app (sAll _ _ _ _ sC)), ?_⟩
      clear nuE fr
      intro ν fr; have nuE := And.intro (fr.mem (b := cb) (by simp)) (fr.nu)
      simp (maxDischargeDepth := 16) only [argE_nil, argE_cons, ↓vmD, vmV, vmStd, Nat.reduceMul, ↓reduceIte, Nat.reduceAdd, Nat.reduceSub, Nat.reduceEqDiff, Nat.reduceLT, Nat.reduceLeDiff, reduceCtorEq, Int.reduceToNat, Int.reduceLT, Int.reduceLE, Int.reduceEq, Int.reduceNeg, Int.reduceBEq, Int.reduceBNe, String.reduceEq, forall_const, ↓vmDA, vmVA, ↓vmQA, vmR, vmRA, ↓vmSA, vmSV, tyS, nuE, SubA.skip, SubA.refl, fr.2, vbScX]
      have hs := nextS_h (B' ++ A) cb L lp lcap (look_app_none hnB' hn) (hL.mono dBA'.right) hl j x hx
      rw [show nxS L j = j + 1 from if_pos hj1] at hs
      refine CallA.put hs (SubA.refl _) ?_
      clear nuE fr
      intro ν fr; have nuE := And.intro (fr.mem (b := cb) (by simp)) (fr.nu)
      simp (maxDischargeDepth := 16) only [argE_nil, argE_cons, ↓vmD, vmV, vmStd, Nat.reduceMul, ↓reduceIte, Nat.reduceAdd, Nat.reduceSub, Nat.reduceEqDiff, Nat.reduceLT, Nat.reduceLeDiff, reduceCtorEq, Int.reduceToNat, Int.reduceLT, Int.reduceLE, Int.reduceEq, Int.reduceNeg, Int.reduceBEq, Int.reduceBNe, String.reduceEq, forall_const, ↓vmDA, vmVA, ↓vmQA, vmR, vmRA, ↓vmSA, vmSV, tyS, nuE, SubA.skip, SubA.refl, fr.2, vbScX]
      exact LoopA.weak (ih (j + 1) (out ++ [tx x]) v' B' hK' hj1 ho2 (dis_cons' hnB' dBA')) (by simp only [subE, get_cons, Nat.reduceEqDiff, ↓reduceIte, reduceCtorEq, Nat.reduceAdd, and_self, and_true]) (SubA.refl _)

set_option linter.unusedSimpArgs false
set_option linter.unusedVariables false
set_option maxHeartbeats 4000000
set_option maxRecDepth 20000
def numE (x : LR) : Int := if x.k ≠ 2 then 2 else if x.n < 1 ∨ 1000 < x.n then 4 else 0
def rC (r : Rs) : Obj := .cells (rsC r).toArray 27
def thrX (L : List LR) (cl : List Txt) (W2 : Int × Nat × List Txt) (c : Txt) (n1 n2 n3 n4 : Int) : Int × Nat × Rn :=
  if W2.1 ≠ 0 then (W2.1, W2.2.1, noRn) else if isL (lxA L W2.2.1) 4 ⟨#[59]⟩ = false then (2, W2.2.1, noRn) else (0, W2.2.1 + 1, ⟨c, n1, n2, n3, n4, cl, W2.2.2⟩)
def twoX (L : List LR) (W1 : Int × Nat × List Txt) (c : Txt) (n1 n2 n3 n4 : Int) : Int × Nat × Rn :=
  if W1.1 ≠ 0 then (W1.1, W1.2.1, noRn) else thrX L W1.2.2 (kindsW L W1.2.1 defenceT) c n1 n2 n3 n4
def oneX (L : List LR) (i : Nat) (F : List Rn) : Int × Nat × Rn :=
  if isL (lxA L i) 1 (bs reasonT) = false then (2, i, noRn) else if 32 ≤ F.length then (3, i, noRn)
  else if (lxA L (i + 1)).k ≠ 1 then (2, i + 1, noRn) else if (findR (tx (lxA L (i + 1))) F).isSome = true then (7, i + 1, noRn)
  else if numE (lxA L (i + 2)) ≠ 0 then (numE (lxA L (i + 2)), i + 2, noRn) else if numE (lxA L (i + 3)) ≠ 0 then (numE (lxA L (i + 3)), i + 3, noRn)
  else if numE (lxA L (i + 4)) ≠ 0 then (numE (lxA L (i + 4)), i + 4, noRn) else if numE (lxA L (i + 5)) ≠ 0 then (numE (lxA L (i + 5)), i + 5, noRn)
  else twoX L (kindsW L (i + 6) claimT) (tx (lxA L (i + 1))) (lxA L (i + 2)).n (lxA L (i + 3)).n (lxA L (i + 4)).n (lxA L (i + 5)).n
/-- What a reading of a reason leaves. -/
def PrP (A : AH) (cb : Nat) (lp : Option Addr) (lcap : Nat) (L : List LR) (u : Value) (D : AH) (q : Int × Nat × Rn) : Prop :=
  (q.1 ≠ 0 ∧ SubA A D ∧ ∃ r : Rs, u = .tuple #[.agg (rsC r).toArray, .int .i64 q.1, .int .i64 ((lxA L q.2.1).a : Int)]) ∨
  (q.1 = 0 ∧ ∃ (r : Rs) (B : AH), u = .tuple #[.agg (rsC r).toArray, .int .i64 0, .int .i64 0] ∧ r.d = q.2.2 ∧ InR B r ∧ q.2.1 < L.length ∧ Dis B ((cb, scB lp lcap L q.2.1) :: A) ∧ SubA (B ++ ((cb, scB lp lcap L q.2.1) :: A)) D)
def rzB : Obj := .cells #[.string ⟨#[]⟩, .int .i64 0, .int .i64 0, .int .i64 0, .int .i64 0, .slice none 0 0, .slice none 0 0] 27
def rB (s : ByteArray) (a b c d : Int) : Obj := .cells #[.string s, .int .i64 a, .int .i64 b, .int .i64 c, .int .i64 d, .slice none 0 0, .slice none 0 0] 27
def lxB (x : LR) : Obj := .cells #[.int .i64 x.k, .string (bs (tx x)), .int .i64 x.n, .int .i64 x.a] 70
theorem _root_.Go.Vm.Sep.hd {b : Nat} {o : Obj} {l : List AH} (h : Sep ([(b, o)] :: l)) : Vm.look (cat l) b = none := (Sep.dis h).symm b (by simp [Vm.look])
theorem scB_set {b : Nat} {o u : Obj} {l : List AH} (h : Sep ([(b, o)] :: l)) : Sep ([(b, u)] :: l) := Sep.fresh (Sep.hd h) _ h.2
theorem isL_k {x : LR} {k : Int} {t : ByteArray} (h : isL x k t = true) : x.k = k := by simp only [isL, Bool.and_eq_true, decide_eq_true_eq] at h; exact h.1
def zRs : Rs := ⟨⟨[], 0, 0, 0, 0, [], []⟩, none, 0, none, 0⟩
theorem sc_p4 (p q r s : Option Addr) : sliceCells Tryd.prog 90 4 [(0, .pointer p), (1, .pointer q), (2, .pointer r), (3, .pointer s)] = some (89, #[.pointer p, .pointer q, .pointer r, .pointer s]) := by kernel_rfl
def ptB (r0 : Nat) : Obj := .cells #[.pointer (some ⟨r0, 1, none⟩), .pointer (some ⟨r0, 2, none⟩), .pointer (some ⟨r0, 3, none⟩), .pointer (some ⟨r0, 4, none⟩)] 89
theorem one_less {b : Nat} {o u : Obj} : ∀ x, Vm.look [(b, o)] x = none → Vm.look [(b, u)] x = none := fun x h => by
  simp only [Vm.look] at h ⊢
  split at h
  · cases h
  · rename_i hne; rw [if_neg hne]
theorem Sep.set : ∀ {l : List AH} (i : Nat) (y : AH), Sep l → (∀ b, Vm.look (at_ l i) b = none → Vm.look y b = none) → Sep (l.set i y)
  | [], _, _, h, _ => h
  | x :: l, 0, y, h, hy => Sep.cons ((Sep.dis h).less hy) h.2
  | x :: l, i + 1, y, h, hy => by
    refine ⟨SepT.of fun z hz => ?_, Sep.set i y h.2 hy⟩
    by_cases hi : i < l.length
    · rcases List.mem_or_eq_of_mem_set hz with e | e
      · exact h.1.all z e
      · subst e
        exact ((h.1.all _ (at_mem hi)).symm.less hy).symm
    · rw [List.set_eq_of_length_le (by omega)] at hz
      exact h.1.all z hz
theorem rset {c p r z n : Nat} {oc op o1 o2 oz : Obj} {A : AH} (h : Vm.look (cat [[(c, oc)], [(p, op)], [(r, o1)], [(z, oz)], A]) n = none) : Vm.look (cat [[(c, oc)], [(p, op)], [(r, o2)], [(z, oz)], A]) n = none := by
  simp only [cat, List.cons_append, List.nil_append, Vm.look] at h ⊢
  by_cases h1 : c = n
  · simp [h1] at h
  · by_cases h2 : p = n
    · simp [h1, h2] at h
    · by_cases h3 : r = n
      · simp [h1, h2, h3] at h
      · simpa only [h1, h2, h3, if_false] using h
theorem seZ {a b A : AH} {z : Nat} {o u : Obj} (h : Sep [a, b, [(z, o)], A]) : Sep [a, b, [(z, u)], A] := Sep.set 2 [(z, u)] h one_less
theorem kindsX_lt {L : List LR} (hend : EndL L) : ∀ (K : List LR) (i : Nat) (out : List Txt), K = L.drop i → i < L.length → (kindsX K i out).2.1 < L.length
  | [], i, out, h, hi => hi
  | x :: K, i, out, h, hi => by
    simp only [kindsX]
    obtain ⟨hx, _, hK, _⟩ := drop_some h
    by_cases h1 : stopK x = true
    · rw [if_pos h1]; exact hi
    · rw [if_neg h1]
      split
      · exact hi
      · split
        · exact hi
        · refine kindsX_lt hend K (i + 1) _ hK (hend i x hx ?_)
          simp only [stopK, Bool.or_eq_true, Bool.not_eq_true', decide_eq_false_iff_not, not_or, Decidable.not_not] at h1
          omega
theorem kindsX_len : ∀ (K : List LR) (i : Nat) (out : List Txt), out.length ≤ 8 → (kindsX K i out).2.2.length ≤ 8
  | [], i, out, h => h
  | x :: K, i, out, h => by
    simp only [kindsX]
    split
    · exact h
    · split
      · simp
      · split
        · simp
        · exact kindsX_len K (i + 1) _ (by simp; omega)
theorem kindsW_lt {L : List LR} (hend : EndL L) {i : Nat} (hi : i < L.length) {w : Txt} : (kindsW L i w).2.1 < L.length := by
  unfold kindsW
  split
  · rename_i h
    obtain ⟨x, hx⟩ : ∃ x, L[i]? = some x := ⟨_, List.getElem?_eq_getElem hi⟩
    rw [lxA_of hx] at h
    exact kindsX_lt hend _ _ _ rfl (hend i x hx (by rw [isL_k h]; decide))
  · exact hi
theorem kindsW_len {L : List LR} {i : Nat} {w : Txt} : (kindsW L i w).2.2.length ≤ 8 := by
  unfold kindsW
  split
  · exact kindsX_len _ _ _ (by simp)
  · simp
theorem pk_use {P : Program} {g : FuncId} {args : Array Value} {A K0 : AH} {cb : Nat} {o o' : Obj} {f : Value → Value} {R : Value → AH → Prop} {K : Value → AH → Prop} (hc : CallA P g args ((cb, o) :: A) fun u D => ∃ v B, u = f v ∧ R v B ∧ Dis B ((cb, o') :: A) ∧ SubA (B ++ ((cb, o') :: A)) D) (hs : SubA ((cb, o) :: A) K0)
    (hk : ∀ v B, R v B → Dis B ((cb, o') :: A) → ∃ A'', SubA A'' (B ++ ((cb, o') :: A)) ∧ K (f v) A'') : CallA P g args K0 K :=
  CallA.useX hc hs [] (SubA.nil _) (fun x hx => absurd rfl hx) fun u D ⟨v, B, h1, h2, h3, h4⟩ _ => by
    obtain ⟨A'', k1, k2⟩ := hk v B h2 h3
    exact ⟨A'', SubA.trans k1 h4, by rw [List.append_nil, h1]; exact k2⟩
theorem sez3 {a b c d : AH} {z : Nat} {o u : Obj} (h : Sep [a, b, [(z, o)], c, d]) : Sep [a, b, [(z, u)], c, d] := Sep.set 2 [(z, u)] h one_less
theorem sez4 {a b c d e : AH} {z : Nat} {o u : Obj} (h : Sep [a, b, [(z, o)], c, d, e]) : Sep [a, b, [(z, u)], c, d, e] := Sep.set 2 [(z, u)] h one_less
theorem rset2 {c r z n : Nat} {oc o1 o2 oz : Obj} {B A A2 : AH} (h : Vm.look (cat [[(c, oc)], [(r, o1)], [(z, oz)], B, A, A2]) n = none) : Vm.look (cat [[(c, oc)], [(r, o2)], [(z, oz)], B, A, A2]) n = none := by
  simp only [cat, List.cons_append, List.nil_append, Vm.look] at h ⊢
  by_cases h1 : c = n
  · simp [h1] at h
  · by_cases h3 : r = n
    · simp [h1, h3] at h
    · simpa only [h1, h3, if_false] using h
theorem PrP.err {A D : AH} {cb : Nat} {lp : Option Addr} {lcap : Nat} {L : List LR} {q : Int × Nat × Rn} {e : Int} {j : Nat} {x : LR} (hq : q = (e, j, noRn)) (he : e ≠ 0) (hx : L[j]? = some x) (hs : SubA A D) (r : Rs) : PrP A cb lp lcap L (.tuple #[.agg (rsC r).toArray, .int .i64 e, .int .i64 (x.a : Int)]) D q := by
  subst hq
  exact .inl ⟨he, hs, r, by simp only [lxA_of hx]⟩
theorem pReason_h (A : AH) (cb : Nat) (L : List LR) (lp : Option Addr) (lcap : Nat) (hn : Vm.look A cb = none) (hL : StR LR.cells 4 A lp L) (hl : L.length ≤ 100000) (hend : EndL L) (i : Nat) (hi : i < L.length) (F : List Rs) (fp : Option Addr) (fcap : Nat) (hF : RsR A fp F) (hb : BigR F) (hFl : F.length ≤ 8000000000000) : CallA Tryd.prog 44 #[.pointer (some ⟨cb, 0, none⟩), .slice fp F.length fcap] ((cb, scB lp lcap L i) :: A) (fun u_ A_ => PrP A cb lp lcap L u_ A_ (oneX L i (F.map Rs.d))) := by
  refine callA_of_denA ⟨Tryd.prog, 44, Tryd.f44, 121, [0, 1, 4, 5, 6, 7, 8, 9, 11, 13, 14, 15, 16, 17, 58, 59, 60], [58, 59, 61, 60, 11], [(4, .p [(0, 0), (1, 0), (2, 0), (3, 1), (4, 0), (5, 0)]), (6, .p [(0, 0), (1, 0), (2, 0), (3, 1), (4, 0), (5, 0)]), (9, .p [(0, 0), (1, 0), (2, 0), (3, 1), (4, 0), (5, 0)]), (12, .p [(0, 0), (1, 0), (2, 0), (3, 1), (4, 0), (5, 0)])], _⟩ (args := [_, _]) Tryd.func44 rfl (by kernel_rfl) Tryd.ntmps44 (by simp) (by kernel_rfl) ?_
  intro ν fr; have nuE := fr.nu
  obtain ⟨x, hx⟩ : ∃ x, L[i]? = some x := ⟨_, List.getElem?_eq_getElem hi⟩
  have hxa := lxA_of hx
  have nuE := And.intro (fr.mem (b := cb) (by simp [Vm.look])) nuE
  have q0 : Vm.look (cat [[(cb, scB lp lcap L i)], A]) (ν 0) = none := fr.2 0
  have q1 : Vm.look (cat [[(ν 0, rzB)], [(cb, scB lp lcap L i)], A]) (ν 1) = none := by
    have := fr.2 1
    simp only [cat, List.cons_append, List.nil_append, Vm.look, nuE, if_false] at this ⊢
    exact this
  have q2 : Vm.look (cat [[(ν 1, rzB)], [(ν 0, rzB)], [(cb, scB lp lcap L i)], A]) (ν 2) = none := by
    have := fr.2 2
    simp only [cat, List.cons_append, List.nil_append, Vm.look, nuE, if_false] at this ⊢
    exact this
  have spA : Sep [[(cb, scB lp lcap L i)], A] := Sep.fresh (l := [A]) (show Vm.look (cat [A]) cb = none from hn) _ (Sep.one A)
  have pk := peekS_w A cb L lp lcap hn hL i x hx ((ν 1, rzB) :: (ν 0, rzB) :: (cb, scB lp lcap L i) :: A) (SubA.fresh q1 (SubA.fresh q0 (SubA.refl _)))
  simp only [lexV, ← tx_bs, rzB] at pk
  simp (maxDischargeDepth := 16) only [argE_nil, argE_cons, ↓vmD, vmV, vmStd, Nat.reduceMul, ↓reduceIte, Nat.reduceAdd, Nat.reduceSub, Nat.reduceEqDiff, Nat.reduceLT, Nat.reduceLeDiff, reduceCtorEq, Int.reduceToNat, Int.reduceLT, Int.reduceLE, Int.reduceEq, Int.reduceNeg, Int.reduceBEq, Int.reduceBNe, String.reduceEq, forall_const, ↓vmDA, vmVA, ↓vmQA, vmR, vmRA, ↓vmSA, vmSV, tyS, nuE, SubA.skip, SubA.refl, fr.2, vbScX, pk]
  have dst_ : ((ν 0 = ν 1) = False) ∧ ((ν 0 = ν 2) = False) ∧ ((ν 0 = cb) = False) ∧ ((ν 1 = ν 0) = False) ∧ ((ν 1 = ν 2) = False) ∧ ((ν 1 = cb) = False) ∧ ((ν 2 = ν 0) = False) ∧ ((ν 2 = ν 1) = False) ∧ ((ν 2 = cb) = False) ∧ ((cb = ν 0) = False) ∧ ((cb = ν 1) = False) ∧ ((cb = ν 2) = False) := (by simp [nuE]); generalize ν 0 = z0 at dst_  q0 q1 q2 ⊢; generalize ν 1 = r0 at dst_  q0 q1 q2 ⊢; generalize ν 2 = n2 at dst_  q0 q1 q2 ⊢
  clear nuE fr pk
  have sp : Sep [[(n2, lxB x)], [(r0, rzB)], [(z0, rzB)], [(cb, scB lp lcap L i)], A] := Sep.fresh q2 _ (Sep.fresh q1 _ (Sep.fresh q0 _ spA))
  have sp1 : Sep [[(cb, scB lp lcap L i)], [(n2, lxB x)], [(r0, rzB)], [(z0, rzB)], A] := Sep.pick sp [3, 0, 1, 2, 4] rfl rfl
  have hw := wordS_h (cat [[(n2, lxB x)], [(r0, rzB)], [(z0, rzB)], A]) cb L lp lcap (Sep.hd sp1) (hL.mono (Sep.subs sp1.2 [3] rfl)) hl i x hx (bs reasonT)
  refine CallA.put hw (Sep.subs sp [3, 0, 1, 2, 4] rfl) ?_
  simp only [cat, List.cons_append, List.nil_append, lxB, rzB, scB]
  intro ν fr; have nuE := And.intro (fr.mem (b := cb) (by simp)) (And.intro (fr.mem (b := n2) (by simp)) (And.intro (fr.mem (b := r0) (by simp)) (And.intro (fr.mem (b := z0) (by simp)) (And.intro dst_ fr.nu))))
  cases h1 : isL x 1 (bs reasonT) with
  | false =>
    simp (maxDischargeDepth := 16) only [argE_nil, argE_cons, ↓vmD, vmV, vmStd, Nat.reduceMul, ↓reduceIte, Nat.reduceAdd, Nat.reduceSub, Nat.reduceEqDiff, Nat.reduceLT, Nat.reduceLeDiff, reduceCtorEq, Int.reduceToNat, Int.reduceLT, Int.reduceLE, Int.reduceEq, Int.reduceNeg, Int.reduceBEq, Int.reduceBNe, String.reduceEq, forall_const, ↓vmDA, vmVA, ↓vmQA, vmR, vmRA, ↓vmSA, vmSV, tyS, nuE, SubA.skip, SubA.refl, fr.2, vbScX]
    refine PrP.err (e := 2) (by unfold oneX; rw [hxa, if_pos h1]) (by decide) hx ?_ zRs
    exact Sep.subs (scB_set sp1) [4] rfl
  | true =>
  have hk1 := isL_k h1
  have hi1 := hend i x hx (by omega)
  have hq : ∀ {α : Type} (a b : α), (if isL (lxA L i) 1 (bs reasonT) = false then a else b) = b := fun a b => if_neg (by rw [hxa, h1]; simp)
  have hnx : nxS L i = i + 1 := if_pos hi1
  simp only [if_true, hnx]
  by_cases h32 : 32 ≤ F.length
  · have h32' : ((32 : Int) ≤ (F.length : Int)) = True := eq_true (by omega)
    simp (maxDischargeDepth := 16) only [argE_nil, argE_cons, ↓vmD, vmV, vmStd, Nat.reduceMul, ↓reduceIte, Nat.reduceAdd, Nat.reduceSub, Nat.reduceEqDiff, Nat.reduceLT, Nat.reduceLeDiff, reduceCtorEq, Int.reduceToNat, Int.reduceLT, Int.reduceLE, Int.reduceEq, Int.reduceNeg, Int.reduceBEq, Int.reduceBNe, String.reduceEq, forall_const, ↓vmDA, vmVA, ↓vmQA, vmR, vmRA, ↓vmSA, vmSV, tyS, nuE, SubA.skip, SubA.refl, fr.2, vbScX, h32']
    refine PrP.err (e := 3) (by unfold oneX; rw [hq, if_pos (by simpa using h32)]) (by decide) hx ?_ zRs
    exact Sep.subs (scB_set sp1) [4] rfl
  have h32' : ((32 : Int) ≤ (F.length : Int)) = False := eq_false (by omega)
  simp (maxDischargeDepth := 16) only [argE_nil, argE_cons, ↓vmD, vmV, vmStd, Nat.reduceMul, ↓reduceIte, Nat.reduceAdd, Nat.reduceSub, Nat.reduceEqDiff, Nat.reduceLT, Nat.reduceLeDiff, reduceCtorEq, Int.reduceToNat, Int.reduceLT, Int.reduceLE, Int.reduceEq, Int.reduceNeg, Int.reduceBEq, Int.reduceBNe, String.reduceEq, forall_const, ↓vmDA, vmVA, ↓vmQA, vmR, vmRA, ↓vmSA, vmSV, tyS, nuE, SubA.skip, SubA.refl, fr.2, vbScX, h32']
  clear nuE fr
  obtain ⟨x1, hx1⟩ : ∃ x, L[i + 1]? = some x := ⟨_, List.getElem?_eq_getElem hi1⟩
  have hxa1 := lxA_of hx1
  have sp2 : Sep [[(cb, scB lp lcap L (i + 1))], [(n2, lxB x)], [(r0, rzB)], [(z0, rzB)], A] := scB_set sp1
  refine CallA.put (nextS_h (cat [[(r0, rzB)], [(z0, rzB)], A]) cb L lp lcap (Sep.hd (Sep.pick sp2 [0, 2, 3, 4] rfl rfl)) (hL.mono (Sep.subs (Sep.pick sp2 [2, 3, 4] rfl rfl) [2] rfl)) hl (i + 1) x1 hx1) (Sep.subs sp2 [0, 2, 3, 4] rfl) ?_
  have sp3 : Sep [[(cb, scB lp lcap L (nxS L (i + 1)))], [(r0, rzB)], [(z0, rzB)], A] := scB_set (Sep.pick sp2 [0, 2, 3, 4] rfl rfl)
  simp only [cat, List.cons_append, List.nil_append, lxB, rzB, scB, lexV, ← tx_bs]
  intro ν fr; have nuE := And.intro (fr.mem (b := cb) (by simp)) (And.intro (fr.mem (b := r0) (by simp)) (And.intro (fr.mem (b := z0) (by simp)) (And.intro dst_ fr.nu)))
  have q3 : Vm.look (cat [[(cb, scB lp lcap L (nxS L (i + 1)))], [(r0, rzB)], [(z0, rzB)], A]) (ν 0) = none := fr.2 0
  by_cases hk2 : x1.k = 1
  rotate_left
  · have e1 : (x1.k != 1) = true := by simp [hk2]
    simp (maxDischargeDepth := 16) only [argE_nil, argE_cons, ↓vmD, vmV, vmStd, Nat.reduceMul, ↓reduceIte, Nat.reduceAdd, Nat.reduceSub, Nat.reduceEqDiff, Nat.reduceLT, Nat.reduceLeDiff, reduceCtorEq, Int.reduceToNat, Int.reduceLT, Int.reduceLE, Int.reduceEq, Int.reduceNeg, Int.reduceBEq, Int.reduceBNe, String.reduceEq, forall_const, ↓vmDA, vmVA, ↓vmQA, vmR, vmRA, ↓vmSA, vmSV, tyS, nuE, SubA.skip, SubA.refl, fr.2, vbScX, e1, eq_false hk2]
    refine PrP.err (e := 2) (by unfold oneX; rw [hq, if_neg (by simpa using h32), hxa1, if_pos hk2]) (by decide) hx1 ?_ zRs
    exact SubA.fresh q3 (Sep.subs sp3 [3] rfl)
  have e1 : (x1.k != 1) = false := by simp [hk2]
  simp (maxDischargeDepth := 16) only [argE_nil, argE_cons, ↓vmD, vmV, vmStd, Nat.reduceMul, ↓reduceIte, Nat.reduceAdd, Nat.reduceSub, Nat.reduceEqDiff, Nat.reduceLT, Nat.reduceLeDiff, reduceCtorEq, Int.reduceToNat, Int.reduceLT, Int.reduceLE, Int.reduceEq, Int.reduceNeg, Int.reduceBEq, Int.reduceBNe, String.reduceEq, forall_const, ↓vmDA, vmVA, ↓vmQA, vmR, vmRA, ↓vmSA, vmSV, tyS, nuE, SubA.skip, SubA.refl, fr.2, vbScX, e1, eq_true hk2]
  have hq1 : ∀ {α : Type} (a b : α), (if 32 ≤ (F.map Rs.d).length then a else b) = b := fun a b => if_neg (by simpa using h32)
  have hq2 : ∀ {α : Type} (a b : α), (if (lxA L (i + 1)).k ≠ 1 then a else b) = b := fun a b => if_neg (by rw [hxa1]; simp [hk2])
  have hi2 := hend (i + 1) x1 hx1 (by omega)
  have hnx1 : nxS L (i + 1) = i + 2 := if_pos hi2
  have dstA := dst_
  have dst_ : ((ν 0 = cb) = False) ∧ ((ν 0 = r0) = False) ∧ ((ν 0 = z0) = False) ∧ ((cb = ν 0) = False) ∧ ((r0 = ν 0) = False) ∧ ((z0 = ν 0) = False) := (by simp [nuE]); generalize ν 0 = n3 at dst_  q3 ⊢
  have dst_ := And.intro dstA dst_
  clear nuE fr dstA
  rw [hnx1] at sp3 q3 ⊢
  have sp4 : Sep [[(n3, lxB x1)], [(cb, scB lp lcap L (i + 2))], [(r0, rzB)], [(z0, rzB)], A] := Sep.fresh q3 _ sp3
  refine CallA.newX (find_n A F fp fcap (tx x1) hF hb hFl) (Sep.subs sp4 [4] rfl) ?_
  rintro v B ⟨w, rfl, hrd, hin⟩ hd
  refine ⟨_, hd.right, ?_⟩
  intro ν fr; have nuE := And.intro (fr.mem (b := n3) (by simp)) (And.intro (fr.mem (b := cb) (by simp)) (And.intro (fr.mem (b := r0) (by simp)) (And.intro (fr.mem (b := z0) (by simp)) (And.intro dst_ fr.nu))))
  have q4 : Vm.look (cat [[(n3, lxB x1)], [(cb, scB lp lcap L (i + 2))], [(r0, rzB)], [(z0, rzB)], A]) (ν 0) = none := fr.2 0
  cases hf : (findR (tx x1) (F.map Rs.d)).isSome with
  | true =>
    simp (maxDischargeDepth := 16) only [argE_nil, argE_cons, ↓vmD, vmV, vmStd, Nat.reduceMul, ↓reduceIte, Nat.reduceAdd, Nat.reduceSub, Nat.reduceEqDiff, Nat.reduceLT, Nat.reduceLeDiff, reduceCtorEq, Int.reduceToNat, Int.reduceLT, Int.reduceLE, Int.reduceEq, Int.reduceNeg, Int.reduceBEq, Int.reduceBNe, String.reduceEq, forall_const, ↓vmDA, vmVA, ↓vmQA, vmR, vmRA, ↓vmSA, vmSV, tyS, nuE, SubA.skip, SubA.refl, fr.2, vbScX, rsC]
    refine PrP.err (e := 7) (by unfold oneX; rw [hq, hq1, hq2, hxa1, if_pos hf]) (by decide) hx1 ?_ zRs
    exact SubA.fresh q4 (Sep.subs sp4 [4] rfl)
  | false =>
  have hq3 : ∀ {α : Type} (a b : α), (if (findR (tx (lxA L (i + 1))) (F.map Rs.d)).isSome = true then a else b) = b := fun a b => if_neg (by rw [hxa1, hf]; simp)
  simp (maxDischargeDepth := 16) only [argE_nil, argE_cons, ↓vmD, vmV, vmStd, Nat.reduceMul, ↓reduceIte, Nat.reduceAdd, Nat.reduceSub, Nat.reduceEqDiff, Nat.reduceLT, Nat.reduceLeDiff, reduceCtorEq, Int.reduceToNat, Int.reduceLT, Int.reduceLE, Int.reduceEq, Int.reduceNeg, Int.reduceBEq, Int.reduceBNe, String.reduceEq, forall_const, ↓vmDA, vmVA, ↓vmQA, vmR, vmRA, ↓vmSA, vmSV, tyS, nuE, SubA.skip, SubA.refl, fr.2, vbScX, rsC, sc_p4]
  have q5 : Vm.look (cat [[(n3, lxB x1)], [(cb, scB lp lcap L (i + 2))], [(r0, rzB)], [(z0, rzB)], A]) (ν 1) = none := by
    have := fr.2 1
    simp only [cat, List.cons_append, List.nil_append, Vm.look, nuE, if_false] at this ⊢
    exact this
  have dstA := dst_
  have dst_ : ((ν 0 = ν 1) = False) ∧ ((ν 0 = n3) = False) ∧ ((ν 0 = cb) = False) ∧ ((ν 0 = r0) = False) ∧ ((ν 0 = z0) = False) ∧ ((ν 1 = ν 0) = False) ∧ ((ν 1 = n3) = False) ∧ ((ν 1 = cb) = False) ∧ ((ν 1 = r0) = False) ∧ ((ν 1 = z0) = False) ∧ ((n3 = ν 0) = False) ∧ ((n3 = ν 1) = False) ∧ ((cb = ν 0) = False) ∧ ((cb = ν 1) = False) ∧ ((r0 = ν 0) = False) ∧ ((r0 = ν 1) = False) ∧ ((z0 = ν 0) = False) ∧ ((z0 = ν 1) = False) := (by simp [nuE]); generalize ν 0 = n5 at dst_  q4 q5 ⊢; generalize ν 1 = pb at dst_  q4 q5 ⊢
  have dst_ := And.intro dstA dst_
  clear nuE fr dstA
  have sp5 : Sep [[(pb, ptB r0)], [(n3, lxB x1)], [(cb, scB lp lcap L (i + 2))], [(r0, rzB)], [(z0, rzB)], A] := Sep.fresh q5 _ sp4
  have sp6 : Sep [[(pb, ptB r0)], [(n3, lxB x1)], [(cb, scB lp lcap L (i + 2))], [(r0, rB (bs (tx x1)) 0 0 0 0)], [(z0, rzB)], A] := Sep.set (l := [[(pb, ptB r0)], [(n3, lxB x1)], [(cb, scB lp lcap L (i + 2))], [(r0, rzB)], [(z0, rzB)], A]) 3 [(r0, rB (bs (tx x1)) 0 0 0 0)] sp5 one_less
  have sl2 : Sep [[(cb, scB lp lcap L (i + 2))], [(pb, ptB r0)], [(r0, rB (bs (tx x1)) 0 0 0 0)], [(z0, rzB)], A] := Sep.pick sp6 [2, 0, 3, 4, 5] rfl rfl
  have fx : ∀ o, Vm.look ((n3, lxB x1) :: (cb, scB lp lcap L (i + 2)) :: (r0, o) :: (z0, rzB) :: A) n5 = none := fun o => by
    have := q4
    simp only [cat, List.cons_append, List.nil_append, Vm.look] at this ⊢
    repeat' split at this
    all_goals first
      | cases this
      | (simp_all)
  refine LoopA.at (A := cat [[(cb, scB lp lcap L (i + 2))], [(pb, ptB r0)], [(r0, rB (bs (tx x1)) 0 0 0 0)], [(z0, rzB)], A]) ?_ ?_
  · refine SubA.trans (Sep.subs sp6 [2, 0, 3, 4, 5] rfl) ?_
    refine cons_in (SubA.fresh (fx _) (SubA.refl _))
  clear fx sp4 sp5 sp6 q4 q5 hd hin
  obtain ⟨x2, hx2⟩ : ∃ x, L[i + 2]? = some x := ⟨_, List.getElem?_eq_getElem (by omega)⟩
  have hxa2 := lxA_of hx2
  refine LoopA.intro (by kernel_rfl) ?_
  simp only [cat, List.cons_append, List.nil_append, ptB, rB, rzB]
  intro ν fr; have nuE := And.intro (fr.mem (b := cb) (by simp)) (And.intro (fr.mem (b := pb) (by simp)) (And.intro (fr.mem (b := r0) (by simp)) (And.intro (fr.mem (b := z0) (by simp)) (And.intro dst_ fr.nu))))
  simp (maxDischargeDepth := 16) only [argE_nil, argE_cons, ↓vmD, vmV, vmStd, Nat.reduceMul, ↓reduceIte, Nat.reduceAdd, Nat.reduceSub, Nat.reduceEqDiff, Nat.reduceLT, Nat.reduceLeDiff, reduceCtorEq, Int.reduceToNat, Int.reduceLT, Int.reduceLE, Int.reduceEq, Int.reduceNeg, Int.reduceBEq, Int.reduceBNe, String.reduceEq, forall_const, ↓vmDA, vmVA, ↓vmQA, vmR, vmRA, ↓vmSA, vmSV, tyS, nuE, SubA.skip, SubA.refl, fr.2, vbScX]
  clear nuE fr
  refine CallA.put (nextS_h (cat [[(pb, ptB r0)], [(r0, rB (bs (tx x1)) 0 0 0 0)], [(z0, rzB)], A]) cb L lp lcap (Sep.hd sl2) (hL.mono (Sep.subs sl2.2 [3] rfl)) hl (i + 2) x2 hx2) (SubA.refl _) ?_
  have sm2 : Sep [[(cb, scB lp lcap L (nxS L (i + 2)))], [(pb, ptB r0)], [(r0, rB (bs (tx x1)) 0 0 0 0)], [(z0, rzB)], A] := scB_set sl2
  simp only [cat, List.cons_append, List.nil_append, ptB, rB, rzB, lexV, ← tx_bs]
  intro ν fr; have nuE := And.intro (fr.mem (b := cb) (by simp)) (And.intro (fr.mem (b := pb) (by simp)) (And.intro (fr.mem (b := r0) (by simp)) (And.intro (fr.mem (b := z0) (by simp)) (And.intro dst_ fr.nu))))
  have u2 : Vm.look (cat [[(cb, scB lp lcap L (nxS L (i + 2)))], [(pb, ptB r0)], [(r0, rB (bs (tx x1)) 0 0 0 0)], [(z0, rzB)], A]) (ν 0) = none := fr.2 0
  by_cases k2 : x2.k = 2
  rotate_left
  · have e1 : (x2.k != 2) = true := by simp [k2]
    have hnE : numE x2 = 2 := if_pos k2
    simp (maxDischargeDepth := 16) only [argE_nil, argE_cons, ↓vmD, vmV, vmStd, Nat.reduceMul, ↓reduceIte, Nat.reduceAdd, Nat.reduceSub, Nat.reduceEqDiff, Nat.reduceLT, Nat.reduceLeDiff, reduceCtorEq, Int.reduceToNat, Int.reduceLT, Int.reduceLE, Int.reduceEq, Int.reduceNeg, Int.reduceBEq, Int.reduceBNe, String.reduceEq, forall_const, ↓vmDA, vmVA, ↓vmQA, vmR, vmRA, ↓vmSA, vmSV, tyS, nuE, SubA.skip, SubA.refl, fr.2, vbScX, e1, eq_false k2]
    have dstB := dst_
    have dst_ : ((ν 0 = cb) = False) ∧ ((ν 0 = pb) = False) ∧ ((ν 0 = r0) = False) ∧ ((ν 0 = z0) = False) ∧ ((cb = ν 0) = False) ∧ ((pb = ν 0) = False) ∧ ((r0 = ν 0) = False) ∧ ((z0 = ν 0) = False) := (by simp [nuE]); generalize ν 0 = nn at dst_  u2 ⊢
    have dst_ := And.intro dstB dst_
    clear nuE fr dstB
    have se := Sep.fresh u2 (lxB x2) sm2
    refine MeantA.at (A := cat [[(nn, lxB x2)], [(r0, rB (bs (tx x1)) 0 0 0 0)], [(z0, rzB)], A]) (Sep.subs se [0, 3, 4, 5] rfl) ?_
    simp only [cat, List.cons_append, List.nil_append, lxB, rB, rzB]
    refine MeantA.tree [] (.one 0 0 (.one 1 0 (.one 2 0 (.one 3 1 (.one 4 0 (.one 5 0 .nil)))))) [(nn, lxB x2), (r0, rB (bs (tx x1)) 0 0 0 0)] (SubA.left [_, _] _) (by kernel_rfl) (by kernel_rfl) (by kernel_rfl) (by kernel_rfl) (by kernel_rfl) ?_
    intro ν fr; have nuE := And.intro (fr.mem (b := nn) (by simp)) (And.intro (fr.mem (b := r0) (by simp)) (And.intro (fr.mem (b := z0) (by simp)) (And.intro dst_ fr.nu)))
    simp (maxDischargeDepth := 16) only [argE_nil, argE_cons, ↓vmD, vmV, vmStd, Nat.reduceMul, ↓reduceIte, Nat.reduceAdd, Nat.reduceSub, Nat.reduceEqDiff, Nat.reduceLT, Nat.reduceLeDiff, reduceCtorEq, Int.reduceToNat, Int.reduceLT, Int.reduceLE, Int.reduceEq, Int.reduceNeg, Int.reduceBEq, Int.reduceBNe, String.reduceEq, forall_const, ↓vmDA, vmVA, ↓vmQA, vmR, vmRA, ↓vmSA, vmSV, tyS, nuE, SubA.skip, SubA.refl, fr.2, vbScX, tA_nil, tA_one, tA_two, lxB, rB]
    refine PrP.err (e := 2) (by unfold oneX; rw [hq, hq1, hq2, hq3, hxa2, hnE]; rfl) (by decide) hx2 ?_ ⟨⟨tx x1, 0, 0, 0, 0, [], []⟩, none, 0, none, 0⟩
    exact Sep.subs (seZ (Sep.pick se [0, 3, 4, 5] rfl rfl)) [3] rfl
  have e1 : (x2.k != 2) = false := by simp [k2]
  by_cases l2 : x2.n < 1
  · have hnE : numE x2 = 4 := by unfold numE; rw [if_neg (by simp [k2]), if_pos (.inl l2)]
    simp (maxDischargeDepth := 16) only [argE_nil, argE_cons, ↓vmD, vmV, vmStd, Nat.reduceMul, ↓reduceIte, Nat.reduceAdd, Nat.reduceSub, Nat.reduceEqDiff, Nat.reduceLT, Nat.reduceLeDiff, reduceCtorEq, Int.reduceToNat, Int.reduceLT, Int.reduceLE, Int.reduceEq, Int.reduceNeg, Int.reduceBEq, Int.reduceBNe, String.reduceEq, forall_const, ↓vmDA, vmVA, ↓vmQA, vmR, vmRA, ↓vmSA, vmSV, tyS, nuE, SubA.skip, SubA.refl, fr.2, vbScX, e1, eq_true k2, eq_true l2]
    have dstB := dst_
    have dst_ : ((ν 0 = cb) = False) ∧ ((ν 0 = pb) = False) ∧ ((ν 0 = r0) = False) ∧ ((ν 0 = z0) = False) ∧ ((cb = ν 0) = False) ∧ ((pb = ν 0) = False) ∧ ((r0 = ν 0) = False) ∧ ((z0 = ν 0) = False) := (by simp [nuE]); generalize ν 0 = nn at dst_  u2 ⊢
    have dst_ := And.intro dstB dst_
    clear nuE fr dstB
    have se := Sep.fresh u2 (lxB x2) sm2
    refine MeantA.at (A := cat [[(nn, lxB x2)], [(r0, rB (bs (tx x1)) 0 0 0 0)], [(z0, rzB)], A]) (Sep.subs se [0, 3, 4, 5] rfl) ?_
    simp only [cat, List.cons_append, List.nil_append, lxB, rB, rzB]
    refine MeantA.tree [] (.one 0 0 (.one 1 0 (.one 2 0 (.one 3 1 (.one 4 0 (.one 5 0 .nil)))))) [(nn, lxB x2), (r0, rB (bs (tx x1)) 0 0 0 0)] (SubA.left [_, _] _) (by kernel_rfl) (by kernel_rfl) (by kernel_rfl) (by kernel_rfl) (by kernel_rfl) ?_
    intro ν fr; have nuE := And.intro (fr.mem (b := nn) (by simp)) (And.intro (fr.mem (b := r0) (by simp)) (And.intro (fr.mem (b := z0) (by simp)) (And.intro dst_ fr.nu)))
    simp (maxDischargeDepth := 16) only [argE_nil, argE_cons, ↓vmD, vmV, vmStd, Nat.reduceMul, ↓reduceIte, Nat.reduceAdd, Nat.reduceSub, Nat.reduceEqDiff, Nat.reduceLT, Nat.reduceLeDiff, reduceCtorEq, Int.reduceToNat, Int.reduceLT, Int.reduceLE, Int.reduceEq, Int.reduceNeg, Int.reduceBEq, Int.reduceBNe, String.reduceEq, forall_const, ↓vmDA, vmVA, ↓vmQA, vmR, vmRA, ↓vmSA, vmSV, tyS, nuE, SubA.skip, SubA.refl, fr.2, vbScX, tA_nil, tA_one, tA_two, lxB, rB]
    refine PrP.err (e := 4) (by unfold oneX; rw [hq, hq1, hq2, hq3, hxa2, hnE]; rfl) (by decide) hx2 ?_ ⟨⟨tx x1, 0, 0, 0, 0, [], []⟩, none, 0, none, 0⟩
    exact Sep.subs (seZ (Sep.pick se [0, 3, 4, 5] rfl rfl)) [3] rfl
  by_cases m2 : 1000 < x2.n
  · have hnE : numE x2 = 4 := by unfold numE; rw [if_neg (by simp [k2]), if_pos (.inr m2)]
    simp (maxDischargeDepth := 16) only [argE_nil, argE_cons, ↓vmD, vmV, vmStd, Nat.reduceMul, ↓reduceIte, Nat.reduceAdd, Nat.reduceSub, Nat.reduceEqDiff, Nat.reduceLT, Nat.reduceLeDiff, reduceCtorEq, Int.reduceToNat, Int.reduceLT, Int.reduceLE, Int.reduceEq, Int.reduceNeg, Int.reduceBEq, Int.reduceBNe, String.reduceEq, forall_const, ↓vmDA, vmVA, ↓vmQA, vmR, vmRA, ↓vmSA, vmSV, tyS, nuE, SubA.skip, SubA.refl, fr.2, vbScX, e1, eq_true k2, eq_false l2, eq_true m2]
    have dstB := dst_
    have dst_ : ((ν 0 = cb) = False) ∧ ((ν 0 = pb) = False) ∧ ((ν 0 = r0) = False) ∧ ((ν 0 = z0) = False) ∧ ((cb = ν 0) = False) ∧ ((pb = ν 0) = False) ∧ ((r0 = ν 0) = False) ∧ ((z0 = ν 0) = False) := (by simp [nuE]); generalize ν 0 = nn at dst_  u2 ⊢
    have dst_ := And.intro dstB dst_
    clear nuE fr dstB
    have se := Sep.fresh u2 (lxB x2) sm2
    refine MeantA.at (A := cat [[(nn, lxB x2)], [(r0, rB (bs (tx x1)) 0 0 0 0)], [(z0, rzB)], A]) (Sep.subs se [0, 3, 4, 5] rfl) ?_
    simp only [cat, List.cons_append, List.nil_append, lxB, rB, rzB]
    refine MeantA.tree [] (.one 0 0 (.one 1 0 (.one 2 0 (.one 3 1 (.one 4 0 (.one 5 0 .nil)))))) [(nn, lxB x2), (r0, rB (bs (tx x1)) 0 0 0 0)] (SubA.left [_, _] _) (by kernel_rfl) (by kernel_rfl) (by kernel_rfl) (by kernel_rfl) (by kernel_rfl) ?_
    intro ν fr; have nuE := And.intro (fr.mem (b := nn) (by simp)) (And.intro (fr.mem (b := r0) (by simp)) (And.intro (fr.mem (b := z0) (by simp)) (And.intro dst_ fr.nu)))
    simp (maxDischargeDepth := 16) only [argE_nil, argE_cons, ↓vmD, vmV, vmStd, Nat.reduceMul, ↓reduceIte, Nat.reduceAdd, Nat.reduceSub, Nat.reduceEqDiff, Nat.reduceLT, Nat.reduceLeDiff, reduceCtorEq, Int.reduceToNat, Int.reduceLT, Int.reduceLE, Int.reduceEq, Int.reduceNeg, Int.reduceBEq, Int.reduceBNe, String.reduceEq, forall_const, ↓vmDA, vmVA, ↓vmQA, vmR, vmRA, ↓vmSA, vmSV, tyS, nuE, SubA.skip, SubA.refl, fr.2, vbScX, tA_nil, tA_one, tA_two, lxB, rB]
    refine PrP.err (e := 4) (by unfold oneX; rw [hq, hq1, hq2, hq3, hxa2, hnE]; rfl) (by decide) hx2 ?_ ⟨⟨tx x1, 0, 0, 0, 0, [], []⟩, none, 0, none, 0⟩
    exact Sep.subs (seZ (Sep.pick se [0, 3, 4, 5] rfl rfl)) [3] rfl
  have hnE2 : numE x2 = 0 := by unfold numE; rw [if_neg (by simp [k2]), if_neg (by omega)]
  have hq4 : ∀ {α : Type} (a b : α), (if numE (lxA L (i + 2)) ≠ 0 then a else b) = b := fun a b => if_neg (by rw [hxa2, hnE2]; simp)
  have hi3 := hend (i + 2) x2 hx2 (by omega)
  have hnx2 : nxS L (i + 2) = i + 3 := if_pos hi3
  rw [hnx2] at sm2 u2
  have w2 : IntKind.i64.wrap (0 + 1) = 1 := by decide
  simp (maxDischargeDepth := 16) only [argE_nil, argE_cons, ↓vmD, vmV, vmStd, Nat.reduceMul, ↓reduceIte, Nat.reduceAdd, Nat.reduceSub, Nat.reduceEqDiff, Nat.reduceLT, Nat.reduceLeDiff, reduceCtorEq, Int.reduceToNat, Int.reduceLT, Int.reduceLE, Int.reduceEq, Int.reduceNeg, Int.reduceBEq, Int.reduceBNe, String.reduceEq, forall_const, ↓vmDA, vmVA, ↓vmQA, vmR, vmRA, ↓vmSA, vmSV, tyS, nuE, SubA.skip, SubA.refl, fr.2, vbScX, e1, eq_true k2, eq_false l2, eq_false m2, hnx2, w2]
  have sl3 : Sep [[(cb, scB lp lcap L (i + 3))], [(pb, ptB r0)], [(r0, rB (bs (tx x1)) x2.n 0 0 0)], [(z0, rzB)], A] := Sep.set (l := [[(cb, scB lp lcap L (i + 3))], [(pb, ptB r0)], [(r0, rB (bs (tx x1)) 0 0 0 0)], [(z0, rzB)], A]) 2 [(r0, rB (bs (tx x1)) x2.n 0 0 0)] sm2 one_less
  refine LoopA.at (A := cat [[(cb, scB lp lcap L (i + 3))], [(pb, ptB r0)], [(r0, rB (bs (tx x1)) x2.n 0 0 0)], [(z0, rzB)], A]) (SubA.fresh (rset u2) (SubA.refl _)) ?_
  clear nuE fr
  obtain ⟨x3, hx3⟩ : ∃ x, L[i + 3]? = some x := ⟨_, List.getElem?_eq_getElem (by omega)⟩
  have hxa3 := lxA_of hx3
  refine LoopA.intro (by kernel_rfl) ?_
  simp only [cat, List.cons_append, List.nil_append, ptB, rB, rzB]
  intro ν fr; have nuE := And.intro (fr.mem (b := cb) (by simp)) (And.intro (fr.mem (b := pb) (by simp)) (And.intro (fr.mem (b := r0) (by simp)) (And.intro (fr.mem (b := z0) (by simp)) (And.intro dst_ fr.nu))))
  simp (maxDischargeDepth := 16) only [argE_nil, argE_cons, ↓vmD, vmV, vmStd, Nat.reduceMul, ↓reduceIte, Nat.reduceAdd, Nat.reduceSub, Nat.reduceEqDiff, Nat.reduceLT, Nat.reduceLeDiff, reduceCtorEq, Int.reduceToNat, Int.reduceLT, Int.reduceLE, Int.reduceEq, Int.reduceNeg, Int.reduceBEq, Int.reduceBNe, String.reduceEq, forall_const, ↓vmDA, vmVA, ↓vmQA, vmR, vmRA, ↓vmSA, vmSV, tyS, nuE, SubA.skip, SubA.refl, fr.2, vbScX]
  clear nuE fr
  refine CallA.put (nextS_h (cat [[(pb, ptB r0)], [(r0, rB (bs (tx x1)) x2.n 0 0 0)], [(z0, rzB)], A]) cb L lp lcap (Sep.hd sl3) (hL.mono (Sep.subs sl3.2 [3] rfl)) hl (i + 3) x3 hx3) (SubA.refl _) ?_
  have sm3 : Sep [[(cb, scB lp lcap L (nxS L (i + 3)))], [(pb, ptB r0)], [(r0, rB (bs (tx x1)) x2.n 0 0 0)], [(z0, rzB)], A] := scB_set sl3
  simp only [cat, List.cons_append, List.nil_append, ptB, rB, rzB, lexV, ← tx_bs]
  intro ν fr; have nuE := And.intro (fr.mem (b := cb) (by simp)) (And.intro (fr.mem (b := pb) (by simp)) (And.intro (fr.mem (b := r0) (by simp)) (And.intro (fr.mem (b := z0) (by simp)) (And.intro dst_ fr.nu))))
  have u3 : Vm.look (cat [[(cb, scB lp lcap L (nxS L (i + 3)))], [(pb, ptB r0)], [(r0, rB (bs (tx x1)) x2.n 0 0 0)], [(z0, rzB)], A]) (ν 0) = none := fr.2 0
  by_cases k3 : x3.k = 2
  rotate_left
  · have e1 : (x3.k != 2) = true := by simp [k3]
    have hnE : numE x3 = 2 := if_pos k3
    simp (maxDischargeDepth := 16) only [argE_nil, argE_cons, ↓vmD, vmV, vmStd, Nat.reduceMul, ↓reduceIte, Nat.reduceAdd, Nat.reduceSub, Nat.reduceEqDiff, Nat.reduceLT, Nat.reduceLeDiff, reduceCtorEq, Int.reduceToNat, Int.reduceLT, Int.reduceLE, Int.reduceEq, Int.reduceNeg, Int.reduceBEq, Int.reduceBNe, String.reduceEq, forall_const, ↓vmDA, vmVA, ↓vmQA, vmR, vmRA, ↓vmSA, vmSV, tyS, nuE, SubA.skip, SubA.refl, fr.2, vbScX, e1, eq_false k3]
    have dstB := dst_
    have dst_ : ((ν 0 = cb) = False) ∧ ((ν 0 = pb) = False) ∧ ((ν 0 = r0) = False) ∧ ((ν 0 = z0) = False) ∧ ((cb = ν 0) = False) ∧ ((pb = ν 0) = False) ∧ ((r0 = ν 0) = False) ∧ ((z0 = ν 0) = False) := (by simp [nuE]); generalize ν 0 = nn at dst_  u3 ⊢
    have dst_ := And.intro dstB dst_
    clear nuE fr dstB
    have se := Sep.fresh u3 (lxB x3) sm3
    refine MeantA.at (A := cat [[(nn, lxB x3)], [(r0, rB (bs (tx x1)) x2.n 0 0 0)], [(z0, rzB)], A]) (Sep.subs se [0, 3, 4, 5] rfl) ?_
    simp only [cat, List.cons_append, List.nil_append, lxB, rB, rzB]
    refine MeantA.tree [] (.one 0 0 (.one 1 0 (.one 2 0 (.one 3 1 (.one 4 0 (.one 5 0 .nil)))))) [(nn, lxB x3), (r0, rB (bs (tx x1)) x2.n 0 0 0)] (SubA.left [_, _] _) (by kernel_rfl) (by kernel_rfl) (by kernel_rfl) (by kernel_rfl) (by kernel_rfl) ?_
    intro ν fr; have nuE := And.intro (fr.mem (b := nn) (by simp)) (And.intro (fr.mem (b := r0) (by simp)) (And.intro (fr.mem (b := z0) (by simp)) (And.intro dst_ fr.nu)))
    simp (maxDischargeDepth := 16) only [argE_nil, argE_cons, ↓vmD, vmV, vmStd, Nat.reduceMul, ↓reduceIte, Nat.reduceAdd, Nat.reduceSub, Nat.reduceEqDiff, Nat.reduceLT, Nat.reduceLeDiff, reduceCtorEq, Int.reduceToNat, Int.reduceLT, Int.reduceLE, Int.reduceEq, Int.reduceNeg, Int.reduceBEq, Int.reduceBNe, String.reduceEq, forall_const, ↓vmDA, vmVA, ↓vmQA, vmR, vmRA, ↓vmSA, vmSV, tyS, nuE, SubA.skip, SubA.refl, fr.2, vbScX, tA_nil, tA_one, tA_two, lxB, rB]
    refine PrP.err (e := 2) (by unfold oneX; rw [hq, hq1, hq2, hq3, hq4, hxa3, hnE]; rfl) (by decide) hx3 ?_ ⟨⟨tx x1, x2.n, 0, 0, 0, [], []⟩, none, 0, none, 0⟩
    exact Sep.subs (seZ (Sep.pick se [0, 3, 4, 5] rfl rfl)) [3] rfl
  have e1 : (x3.k != 2) = false := by simp [k3]
  by_cases l3 : x3.n < 1
  · have hnE : numE x3 = 4 := by unfold numE; rw [if_neg (by simp [k3]), if_pos (.inl l3)]
    simp (maxDischargeDepth := 16) only [argE_nil, argE_cons, ↓vmD, vmV, vmStd, Nat.reduceMul, ↓reduceIte, Nat.reduceAdd, Nat.reduceSub, Nat.reduceEqDiff, Nat.reduceLT, Nat.reduceLeDiff, reduceCtorEq, Int.reduceToNat, Int.reduceLT, Int.reduceLE, Int.reduceEq, Int.reduceNeg, Int.reduceBEq, Int.reduceBNe, String.reduceEq, forall_const, ↓vmDA, vmVA, ↓vmQA, vmR, vmRA, ↓vmSA, vmSV, tyS, nuE, SubA.skip, SubA.refl, fr.2, vbScX, e1, eq_true k3, eq_true l3]
    have dstB := dst_
    have dst_ : ((ν 0 = cb) = False) ∧ ((ν 0 = pb) = False) ∧ ((ν 0 = r0) = False) ∧ ((ν 0 = z0) = False) ∧ ((cb = ν 0) = False) ∧ ((pb = ν 0) = False) ∧ ((r0 = ν 0) = False) ∧ ((z0 = ν 0) = False) := (by simp [nuE]); generalize ν 0 = nn at dst_  u3 ⊢
    have dst_ := And.intro dstB dst_
    clear nuE fr dstB
    have se := Sep.fresh u3 (lxB x3) sm3
    refine MeantA.at (A := cat [[(nn, lxB x3)], [(r0, rB (bs (tx x1)) x2.n 0 0 0)], [(z0, rzB)], A]) (Sep.subs se [0, 3, 4, 5] rfl) ?_
    simp only [cat, List.cons_append, List.nil_append, lxB, rB, rzB]
    refine MeantA.tree [] (.one 0 0 (.one 1 0 (.one 2 0 (.one 3 1 (.one 4 0 (.one 5 0 .nil)))))) [(nn, lxB x3), (r0, rB (bs (tx x1)) x2.n 0 0 0)] (SubA.left [_, _] _) (by kernel_rfl) (by kernel_rfl) (by kernel_rfl) (by kernel_rfl) (by kernel_rfl) ?_
    intro ν fr; have nuE := And.intro (fr.mem (b := nn) (by simp)) (And.intro (fr.mem (b := r0) (by simp)) (And.intro (fr.mem (b := z0) (by simp)) (And.intro dst_ fr.nu)))
    simp (maxDischargeDepth := 16) only [argE_nil, argE_cons, ↓vmD, vmV, vmStd, Nat.reduceMul, ↓reduceIte, Nat.reduceAdd, Nat.reduceSub, Nat.reduceEqDiff, Nat.reduceLT, Nat.reduceLeDiff, reduceCtorEq, Int.reduceToNat, Int.reduceLT, Int.reduceLE, Int.reduceEq, Int.reduceNeg, Int.reduceBEq, Int.reduceBNe, String.reduceEq, forall_const, ↓vmDA, vmVA, ↓vmQA, vmR, vmRA, ↓vmSA, vmSV, tyS, nuE, SubA.skip, SubA.refl, fr.2, vbScX, tA_nil, tA_one, tA_two, lxB, rB]
    refine PrP.err (e := 4) (by unfold oneX; rw [hq, hq1, hq2, hq3, hq4, hxa3, hnE]; rfl) (by decide) hx3 ?_ ⟨⟨tx x1, x2.n, 0, 0, 0, [], []⟩, none, 0, none, 0⟩
    exact Sep.subs (seZ (Sep.pick se [0, 3, 4, 5] rfl rfl)) [3] rfl
  by_cases m3 : 1000 < x3.n
  · have hnE : numE x3 = 4 := by unfold numE; rw [if_neg (by simp [k3]), if_pos (.inr m3)]
    simp (maxDischargeDepth := 16) only [argE_nil, argE_cons, ↓vmD, vmV, vmStd, Nat.reduceMul, ↓reduceIte, Nat.reduceAdd, Nat.reduceSub, Nat.reduceEqDiff, Nat.reduceLT, Nat.reduceLeDiff, reduceCtorEq, Int.reduceToNat, Int.reduceLT, Int.reduceLE, Int.reduceEq, Int.reduceNeg, Int.reduceBEq, Int.reduceBNe, String.reduceEq, forall_const, ↓vmDA, vmVA, ↓vmQA, vmR, vmRA, ↓vmSA, vmSV, tyS, nuE, SubA.skip, SubA.refl, fr.2, vbScX, e1, eq_true k3, eq_false l3, eq_true m3]
    have dstB := dst_
    have dst_ : ((ν 0 = cb) = False) ∧ ((ν 0 = pb) = False) ∧ ((ν 0 = r0) = False) ∧ ((ν 0 = z0) = False) ∧ ((cb = ν 0) = False) ∧ ((pb = ν 0) = False) ∧ ((r0 = ν 0) = False) ∧ ((z0 = ν 0) = False) := (by simp [nuE]); generalize ν 0 = nn at dst_  u3 ⊢
    have dst_ := And.intro dstB dst_
    clear nuE fr dstB
    have se := Sep.fresh u3 (lxB x3) sm3
    refine MeantA.at (A := cat [[(nn, lxB x3)], [(r0, rB (bs (tx x1)) x2.n 0 0 0)], [(z0, rzB)], A]) (Sep.subs se [0, 3, 4, 5] rfl) ?_
    simp only [cat, List.cons_append, List.nil_append, lxB, rB, rzB]
    refine MeantA.tree [] (.one 0 0 (.one 1 0 (.one 2 0 (.one 3 1 (.one 4 0 (.one 5 0 .nil)))))) [(nn, lxB x3), (r0, rB (bs (tx x1)) x2.n 0 0 0)] (SubA.left [_, _] _) (by kernel_rfl) (by kernel_rfl) (by kernel_rfl) (by kernel_rfl) (by kernel_rfl) ?_
    intro ν fr; have nuE := And.intro (fr.mem (b := nn) (by simp)) (And.intro (fr.mem (b := r0) (by simp)) (And.intro (fr.mem (b := z0) (by simp)) (And.intro dst_ fr.nu)))
    simp (maxDischargeDepth := 16) only [argE_nil, argE_cons, ↓vmD, vmV, vmStd, Nat.reduceMul, ↓reduceIte, Nat.reduceAdd, Nat.reduceSub, Nat.reduceEqDiff, Nat.reduceLT, Nat.reduceLeDiff, reduceCtorEq, Int.reduceToNat, Int.reduceLT, Int.reduceLE, Int.reduceEq, Int.reduceNeg, Int.reduceBEq, Int.reduceBNe, String.reduceEq, forall_const, ↓vmDA, vmVA, ↓vmQA, vmR, vmRA, ↓vmSA, vmSV, tyS, nuE, SubA.skip, SubA.refl, fr.2, vbScX, tA_nil, tA_one, tA_two, lxB, rB]
    refine PrP.err (e := 4) (by unfold oneX; rw [hq, hq1, hq2, hq3, hq4, hxa3, hnE]; rfl) (by decide) hx3 ?_ ⟨⟨tx x1, x2.n, 0, 0, 0, [], []⟩, none, 0, none, 0⟩
    exact Sep.subs (seZ (Sep.pick se [0, 3, 4, 5] rfl rfl)) [3] rfl
  have hnE3 : numE x3 = 0 := by unfold numE; rw [if_neg (by simp [k3]), if_neg (by omega)]
  have hq5 : ∀ {α : Type} (a b : α), (if numE (lxA L (i + 3)) ≠ 0 then a else b) = b := fun a b => if_neg (by rw [hxa3, hnE3]; simp)
  have hi4 := hend (i + 3) x3 hx3 (by omega)
  have hnx3 : nxS L (i + 3) = i + 4 := if_pos hi4
  rw [hnx3] at sm3 u3
  have w3 : IntKind.i64.wrap (1 + 1) = 2 := by decide
  simp (maxDischargeDepth := 16) only [argE_nil, argE_cons, ↓vmD, vmV, vmStd, Nat.reduceMul, ↓reduceIte, Nat.reduceAdd, Nat.reduceSub, Nat.reduceEqDiff, Nat.reduceLT, Nat.reduceLeDiff, reduceCtorEq, Int.reduceToNat, Int.reduceLT, Int.reduceLE, Int.reduceEq, Int.reduceNeg, Int.reduceBEq, Int.reduceBNe, String.reduceEq, forall_const, ↓vmDA, vmVA, ↓vmQA, vmR, vmRA, ↓vmSA, vmSV, tyS, nuE, SubA.skip, SubA.refl, fr.2, vbScX, e1, eq_true k3, eq_false l3, eq_false m3, hnx3, w3]
  have sl4 : Sep [[(cb, scB lp lcap L (i + 4))], [(pb, ptB r0)], [(r0, rB (bs (tx x1)) x2.n x3.n 0 0)], [(z0, rzB)], A] := Sep.set (l := [[(cb, scB lp lcap L (i + 4))], [(pb, ptB r0)], [(r0, rB (bs (tx x1)) x2.n 0 0 0)], [(z0, rzB)], A]) 2 [(r0, rB (bs (tx x1)) x2.n x3.n 0 0)] sm3 one_less
  refine LoopA.at (A := cat [[(cb, scB lp lcap L (i + 4))], [(pb, ptB r0)], [(r0, rB (bs (tx x1)) x2.n x3.n 0 0)], [(z0, rzB)], A]) (SubA.fresh (rset u3) (SubA.refl _)) ?_
  clear nuE fr
  obtain ⟨x4, hx4⟩ : ∃ x, L[i + 4]? = some x := ⟨_, List.getElem?_eq_getElem (by omega)⟩
  have hxa4 := lxA_of hx4
  refine LoopA.intro (by kernel_rfl) ?_
  simp only [cat, List.cons_append, List.nil_append, ptB, rB, rzB]
  intro ν fr; have nuE := And.intro (fr.mem (b := cb) (by simp)) (And.intro (fr.mem (b := pb) (by simp)) (And.intro (fr.mem (b := r0) (by simp)) (And.intro (fr.mem (b := z0) (by simp)) (And.intro dst_ fr.nu))))
  simp (maxDischargeDepth := 16) only [argE_nil, argE_cons, ↓vmD, vmV, vmStd, Nat.reduceMul, ↓reduceIte, Nat.reduceAdd, Nat.reduceSub, Nat.reduceEqDiff, Nat.reduceLT, Nat.reduceLeDiff, reduceCtorEq, Int.reduceToNat, Int.reduceLT, Int.reduceLE, Int.reduceEq, Int.reduceNeg, Int.reduceBEq, Int.reduceBNe, String.reduceEq, forall_const, ↓vmDA, vmVA, ↓vmQA, vmR, vmRA, ↓vmSA, vmSV, tyS, nuE, SubA.skip, SubA.refl, fr.2, vbScX]
  clear nuE fr
  refine CallA.put (nextS_h (cat [[(pb, ptB r0)], [(r0, rB (bs (tx x1)) x2.n x3.n 0 0)], [(z0, rzB)], A]) cb L lp lcap (Sep.hd sl4) (hL.mono (Sep.subs sl4.2 [3] rfl)) hl (i + 4) x4 hx4) (SubA.refl _) ?_
  have sm4 : Sep [[(cb, scB lp lcap L (nxS L (i + 4)))], [(pb, ptB r0)], [(r0, rB (bs (tx x1)) x2.n x3.n 0 0)], [(z0, rzB)], A] := scB_set sl4
  simp only [cat, List.cons_append, List.nil_append, ptB, rB, rzB, lexV, ← tx_bs]
  intro ν fr; have nuE := And.intro (fr.mem (b := cb) (by simp)) (And.intro (fr.mem (b := pb) (by simp)) (And.intro (fr.mem (b := r0) (by simp)) (And.intro (fr.mem (b := z0) (by simp)) (And.intro dst_ fr.nu))))
  have u4 : Vm.look (cat [[(cb, scB lp lcap L (nxS L (i + 4)))], [(pb, ptB r0)], [(r0, rB (bs (tx x1)) x2.n x3.n 0 0)], [(z0, rzB)], A]) (ν 0) = none := fr.2 0
  by_cases k4 : x4.k = 2
  rotate_left
  · have e1 : (x4.k != 2) = true := by simp [k4]
    have hnE : numE x4 = 2 := if_pos k4
    simp (maxDischargeDepth := 16) only [argE_nil, argE_cons, ↓vmD, vmV, vmStd, Nat.reduceMul, ↓reduceIte, Nat.reduceAdd, Nat.reduceSub, Nat.reduceEqDiff, Nat.reduceLT, Nat.reduceLeDiff, reduceCtorEq, Int.reduceToNat, Int.reduceLT, Int.reduceLE, Int.reduceEq, Int.reduceNeg, Int.reduceBEq, Int.reduceBNe, String.reduceEq, forall_const, ↓vmDA, vmVA, ↓vmQA, vmR, vmRA, ↓vmSA, vmSV, tyS, nuE, SubA.skip, SubA.refl, fr.2, vbScX, e1, eq_false k4]
    have dstB := dst_
    have dst_ : ((ν 0 = cb) = False) ∧ ((ν 0 = pb) = False) ∧ ((ν 0 = r0) = False) ∧ ((ν 0 = z0) = False) ∧ ((cb = ν 0) = False) ∧ ((pb = ν 0) = False) ∧ ((r0 = ν 0) = False) ∧ ((z0 = ν 0) = False) := (by simp [nuE]); generalize ν 0 = nn at dst_  u4 ⊢
    have dst_ := And.intro dstB dst_
    clear nuE fr dstB
    have se := Sep.fresh u4 (lxB x4) sm4
    refine MeantA.at (A := cat [[(nn, lxB x4)], [(r0, rB (bs (tx x1)) x2.n x3.n 0 0)], [(z0, rzB)], A]) (Sep.subs se [0, 3, 4, 5] rfl) ?_
    simp only [cat, List.cons_append, List.nil_append, lxB, rB, rzB]
    refine MeantA.tree [] (.one 0 0 (.one 1 0 (.one 2 0 (.one 3 1 (.one 4 0 (.one 5 0 .nil)))))) [(nn, lxB x4), (r0, rB (bs (tx x1)) x2.n x3.n 0 0)] (SubA.left [_, _] _) (by kernel_rfl) (by kernel_rfl) (by kernel_rfl) (by kernel_rfl) (by kernel_rfl) ?_
    intro ν fr; have nuE := And.intro (fr.mem (b := nn) (by simp)) (And.intro (fr.mem (b := r0) (by simp)) (And.intro (fr.mem (b := z0) (by simp)) (And.intro dst_ fr.nu)))
    simp (maxDischargeDepth := 16) only [argE_nil, argE_cons, ↓vmD, vmV, vmStd, Nat.reduceMul, ↓reduceIte, Nat.reduceAdd, Nat.reduceSub, Nat.reduceEqDiff, Nat.reduceLT, Nat.reduceLeDiff, reduceCtorEq, Int.reduceToNat, Int.reduceLT, Int.reduceLE, Int.reduceEq, Int.reduceNeg, Int.reduceBEq, Int.reduceBNe, String.reduceEq, forall_const, ↓vmDA, vmVA, ↓vmQA, vmR, vmRA, ↓vmSA, vmSV, tyS, nuE, SubA.skip, SubA.refl, fr.2, vbScX, tA_nil, tA_one, tA_two, lxB, rB]
    refine PrP.err (e := 2) (by unfold oneX; rw [hq, hq1, hq2, hq3, hq4, hq5, hxa4, hnE]; rfl) (by decide) hx4 ?_ ⟨⟨tx x1, x2.n, x3.n, 0, 0, [], []⟩, none, 0, none, 0⟩
    exact Sep.subs (seZ (Sep.pick se [0, 3, 4, 5] rfl rfl)) [3] rfl
  have e1 : (x4.k != 2) = false := by simp [k4]
  by_cases l4 : x4.n < 1
  · have hnE : numE x4 = 4 := by unfold numE; rw [if_neg (by simp [k4]), if_pos (.inl l4)]
    simp (maxDischargeDepth := 16) only [argE_nil, argE_cons, ↓vmD, vmV, vmStd, Nat.reduceMul, ↓reduceIte, Nat.reduceAdd, Nat.reduceSub, Nat.reduceEqDiff, Nat.reduceLT, Nat.reduceLeDiff, reduceCtorEq, Int.reduceToNat, Int.reduceLT, Int.reduceLE, Int.reduceEq, Int.reduceNeg, Int.reduceBEq, Int.reduceBNe, String.reduceEq, forall_const, ↓vmDA, vmVA, ↓vmQA, vmR, vmRA, ↓vmSA, vmSV, tyS, nuE, SubA.skip, SubA.refl, fr.2, vbScX, e1, eq_true k4, eq_true l4]
    have dstB := dst_
    have dst_ : ((ν 0 = cb) = False) ∧ ((ν 0 = pb) = False) ∧ ((ν 0 = r0) = False) ∧ ((ν 0 = z0) = False) ∧ ((cb = ν 0) = False) ∧ ((pb = ν 0) = False) ∧ ((r0 = ν 0) = False) ∧ ((z0 = ν 0) = False) := (by simp [nuE]); generalize ν 0 = nn at dst_  u4 ⊢
    have dst_ := And.intro dstB dst_
    clear nuE fr dstB
    have se := Sep.fresh u4 (lxB x4) sm4
    refine MeantA.at (A := cat [[(nn, lxB x4)], [(r0, rB (bs (tx x1)) x2.n x3.n 0 0)], [(z0, rzB)], A]) (Sep.subs se [0, 3, 4, 5] rfl) ?_
    simp only [cat, List.cons_append, List.nil_append, lxB, rB, rzB]
    refine MeantA.tree [] (.one 0 0 (.one 1 0 (.one 2 0 (.one 3 1 (.one 4 0 (.one 5 0 .nil)))))) [(nn, lxB x4), (r0, rB (bs (tx x1)) x2.n x3.n 0 0)] (SubA.left [_, _] _) (by kernel_rfl) (by kernel_rfl) (by kernel_rfl) (by kernel_rfl) (by kernel_rfl) ?_
    intro ν fr; have nuE := And.intro (fr.mem (b := nn) (by simp)) (And.intro (fr.mem (b := r0) (by simp)) (And.intro (fr.mem (b := z0) (by simp)) (And.intro dst_ fr.nu)))
    simp (maxDischargeDepth := 16) only [argE_nil, argE_cons, ↓vmD, vmV, vmStd, Nat.reduceMul, ↓reduceIte, Nat.reduceAdd, Nat.reduceSub, Nat.reduceEqDiff, Nat.reduceLT, Nat.reduceLeDiff, reduceCtorEq, Int.reduceToNat, Int.reduceLT, Int.reduceLE, Int.reduceEq, Int.reduceNeg, Int.reduceBEq, Int.reduceBNe, String.reduceEq, forall_const, ↓vmDA, vmVA, ↓vmQA, vmR, vmRA, ↓vmSA, vmSV, tyS, nuE, SubA.skip, SubA.refl, fr.2, vbScX, tA_nil, tA_one, tA_two, lxB, rB]
    refine PrP.err (e := 4) (by unfold oneX; rw [hq, hq1, hq2, hq3, hq4, hq5, hxa4, hnE]; rfl) (by decide) hx4 ?_ ⟨⟨tx x1, x2.n, x3.n, 0, 0, [], []⟩, none, 0, none, 0⟩
    exact Sep.subs (seZ (Sep.pick se [0, 3, 4, 5] rfl rfl)) [3] rfl
  by_cases m4 : 1000 < x4.n
  · have hnE : numE x4 = 4 := by unfold numE; rw [if_neg (by simp [k4]), if_pos (.inr m4)]
    simp (maxDischargeDepth := 16) only [argE_nil, argE_cons, ↓vmD, vmV, vmStd, Nat.reduceMul, ↓reduceIte, Nat.reduceAdd, Nat.reduceSub, Nat.reduceEqDiff, Nat.reduceLT, Nat.reduceLeDiff, reduceCtorEq, Int.reduceToNat, Int.reduceLT, Int.reduceLE, Int.reduceEq, Int.reduceNeg, Int.reduceBEq, Int.reduceBNe, String.reduceEq, forall_const, ↓vmDA, vmVA, ↓vmQA, vmR, vmRA, ↓vmSA, vmSV, tyS, nuE, SubA.skip, SubA.refl, fr.2, vbScX, e1, eq_true k4, eq_false l4, eq_true m4]
    have dstB := dst_
    have dst_ : ((ν 0 = cb) = False) ∧ ((ν 0 = pb) = False) ∧ ((ν 0 = r0) = False) ∧ ((ν 0 = z0) = False) ∧ ((cb = ν 0) = False) ∧ ((pb = ν 0) = False) ∧ ((r0 = ν 0) = False) ∧ ((z0 = ν 0) = False) := (by simp [nuE]); generalize ν 0 = nn at dst_  u4 ⊢
    have dst_ := And.intro dstB dst_
    clear nuE fr dstB
    have se := Sep.fresh u4 (lxB x4) sm4
    refine MeantA.at (A := cat [[(nn, lxB x4)], [(r0, rB (bs (tx x1)) x2.n x3.n 0 0)], [(z0, rzB)], A]) (Sep.subs se [0, 3, 4, 5] rfl) ?_
    simp only [cat, List.cons_append, List.nil_append, lxB, rB, rzB]
    refine MeantA.tree [] (.one 0 0 (.one 1 0 (.one 2 0 (.one 3 1 (.one 4 0 (.one 5 0 .nil)))))) [(nn, lxB x4), (r0, rB (bs (tx x1)) x2.n x3.n 0 0)] (SubA.left [_, _] _) (by kernel_rfl) (by kernel_rfl) (by kernel_rfl) (by kernel_rfl) (by kernel_rfl) ?_
    intro ν fr; have nuE := And.intro (fr.mem (b := nn) (by simp)) (And.intro (fr.mem (b := r0) (by simp)) (And.intro (fr.mem (b := z0) (by simp)) (And.intro dst_ fr.nu)))
    simp (maxDischargeDepth := 16) only [argE_nil, argE_cons, ↓vmD, vmV, vmStd, Nat.reduceMul, ↓reduceIte, Nat.reduceAdd, Nat.reduceSub, Nat.reduceEqDiff, Nat.reduceLT, Nat.reduceLeDiff, reduceCtorEq, Int.reduceToNat, Int.reduceLT, Int.reduceLE, Int.reduceEq, Int.reduceNeg, Int.reduceBEq, Int.reduceBNe, String.reduceEq, forall_const, ↓vmDA, vmVA, ↓vmQA, vmR, vmRA, ↓vmSA, vmSV, tyS, nuE, SubA.skip, SubA.refl, fr.2, vbScX, tA_nil, tA_one, tA_two, lxB, rB]
    refine PrP.err (e := 4) (by unfold oneX; rw [hq, hq1, hq2, hq3, hq4, hq5, hxa4, hnE]; rfl) (by decide) hx4 ?_ ⟨⟨tx x1, x2.n, x3.n, 0, 0, [], []⟩, none, 0, none, 0⟩
    exact Sep.subs (seZ (Sep.pick se [0, 3, 4, 5] rfl rfl)) [3] rfl
  have hnE4 : numE x4 = 0 := by unfold numE; rw [if_neg (by simp [k4]), if_neg (by omega)]
  have hq6 : ∀ {α : Type} (a b : α), (if numE (lxA L (i + 4)) ≠ 0 then a else b) = b := fun a b => if_neg (by rw [hxa4, hnE4]; simp)
  have hi5 := hend (i + 4) x4 hx4 (by omega)
  have hnx4 : nxS L (i + 4) = i + 5 := if_pos hi5
  rw [hnx4] at sm4 u4
  have w4 : IntKind.i64.wrap (2 + 1) = 3 := by decide
  simp (maxDischargeDepth := 16) only [argE_nil, argE_cons, ↓vmD, vmV, vmStd, Nat.reduceMul, ↓reduceIte, Nat.reduceAdd, Nat.reduceSub, Nat.reduceEqDiff, Nat.reduceLT, Nat.reduceLeDiff, reduceCtorEq, Int.reduceToNat, Int.reduceLT, Int.reduceLE, Int.reduceEq, Int.reduceNeg, Int.reduceBEq, Int.reduceBNe, String.reduceEq, forall_const, ↓vmDA, vmVA, ↓vmQA, vmR, vmRA, ↓vmSA, vmSV, tyS, nuE, SubA.skip, SubA.refl, fr.2, vbScX, e1, eq_true k4, eq_false l4, eq_false m4, hnx4, w4]
  have sl5 : Sep [[(cb, scB lp lcap L (i + 5))], [(pb, ptB r0)], [(r0, rB (bs (tx x1)) x2.n x3.n x4.n 0)], [(z0, rzB)], A] := Sep.set (l := [[(cb, scB lp lcap L (i + 5))], [(pb, ptB r0)], [(r0, rB (bs (tx x1)) x2.n x3.n 0 0)], [(z0, rzB)], A]) 2 [(r0, rB (bs (tx x1)) x2.n x3.n x4.n 0)] sm4 one_less
  refine LoopA.at (A := cat [[(cb, scB lp lcap L (i + 5))], [(pb, ptB r0)], [(r0, rB (bs (tx x1)) x2.n x3.n x4.n 0)], [(z0, rzB)], A]) (SubA.fresh (rset u4) (SubA.refl _)) ?_
  clear nuE fr
  obtain ⟨x5, hx5⟩ : ∃ x, L[i + 5]? = some x := ⟨_, List.getElem?_eq_getElem (by omega)⟩
  have hxa5 := lxA_of hx5
  refine LoopA.intro (by kernel_rfl) ?_
  simp only [cat, List.cons_append, List.nil_append, ptB, rB, rzB]
  intro ν fr; have nuE := And.intro (fr.mem (b := cb) (by simp)) (And.intro (fr.mem (b := pb) (by simp)) (And.intro (fr.mem (b := r0) (by simp)) (And.intro (fr.mem (b := z0) (by simp)) (And.intro dst_ fr.nu))))
  simp (maxDischargeDepth := 16) only [argE_nil, argE_cons, ↓vmD, vmV, vmStd, Nat.reduceMul, ↓reduceIte, Nat.reduceAdd, Nat.reduceSub, Nat.reduceEqDiff, Nat.reduceLT, Nat.reduceLeDiff, reduceCtorEq, Int.reduceToNat, Int.reduceLT, Int.reduceLE, Int.reduceEq, Int.reduceNeg, Int.reduceBEq, Int.reduceBNe, String.reduceEq, forall_const, ↓vmDA, vmVA, ↓vmQA, vmR, vmRA, ↓vmSA, vmSV, tyS, nuE, SubA.skip, SubA.refl, fr.2, vbScX]
  clear nuE fr
  refine CallA.put (nextS_h (cat [[(pb, ptB r0)], [(r0, rB (bs (tx x1)) x2.n x3.n x4.n 0)], [(z0, rzB)], A]) cb L lp lcap (Sep.hd sl5) (hL.mono (Sep.subs sl5.2 [3] rfl)) hl (i + 5) x5 hx5) (SubA.refl _) ?_
  have sm5 : Sep [[(cb, scB lp lcap L (nxS L (i + 5)))], [(pb, ptB r0)], [(r0, rB (bs (tx x1)) x2.n x3.n x4.n 0)], [(z0, rzB)], A] := scB_set sl5
  simp only [cat, List.cons_append, List.nil_append, ptB, rB, rzB, lexV, ← tx_bs]
  intro ν fr; have nuE := And.intro (fr.mem (b := cb) (by simp)) (And.intro (fr.mem (b := pb) (by simp)) (And.intro (fr.mem (b := r0) (by simp)) (And.intro (fr.mem (b := z0) (by simp)) (And.intro dst_ fr.nu))))
  have u5 : Vm.look (cat [[(cb, scB lp lcap L (nxS L (i + 5)))], [(pb, ptB r0)], [(r0, rB (bs (tx x1)) x2.n x3.n x4.n 0)], [(z0, rzB)], A]) (ν 0) = none := fr.2 0
  by_cases k5 : x5.k = 2
  rotate_left
  · have e1 : (x5.k != 2) = true := by simp [k5]
    have hnE : numE x5 = 2 := if_pos k5
    simp (maxDischargeDepth := 16) only [argE_nil, argE_cons, ↓vmD, vmV, vmStd, Nat.reduceMul, ↓reduceIte, Nat.reduceAdd, Nat.reduceSub, Nat.reduceEqDiff, Nat.reduceLT, Nat.reduceLeDiff, reduceCtorEq, Int.reduceToNat, Int.reduceLT, Int.reduceLE, Int.reduceEq, Int.reduceNeg, Int.reduceBEq, Int.reduceBNe, String.reduceEq, forall_const, ↓vmDA, vmVA, ↓vmQA, vmR, vmRA, ↓vmSA, vmSV, tyS, nuE, SubA.skip, SubA.refl, fr.2, vbScX, e1, eq_false k5]
    have dstB := dst_
    have dst_ : ((ν 0 = cb) = False) ∧ ((ν 0 = pb) = False) ∧ ((ν 0 = r0) = False) ∧ ((ν 0 = z0) = False) ∧ ((cb = ν 0) = False) ∧ ((pb = ν 0) = False) ∧ ((r0 = ν 0) = False) ∧ ((z0 = ν 0) = False) := (by simp [nuE]); generalize ν 0 = nn at dst_  u5 ⊢
    have dst_ := And.intro dstB dst_
    clear nuE fr dstB
    have se := Sep.fresh u5 (lxB x5) sm5
    refine MeantA.at (A := cat [[(nn, lxB x5)], [(r0, rB (bs (tx x1)) x2.n x3.n x4.n 0)], [(z0, rzB)], A]) (Sep.subs se [0, 3, 4, 5] rfl) ?_
    simp only [cat, List.cons_append, List.nil_append, lxB, rB, rzB]
    refine MeantA.tree [] (.one 0 0 (.one 1 0 (.one 2 0 (.one 3 1 (.one 4 0 (.one 5 0 .nil)))))) [(nn, lxB x5), (r0, rB (bs (tx x1)) x2.n x3.n x4.n 0)] (SubA.left [_, _] _) (by kernel_rfl) (by kernel_rfl) (by kernel_rfl) (by kernel_rfl) (by kernel_rfl) ?_
    intro ν fr; have nuE := And.intro (fr.mem (b := nn) (by simp)) (And.intro (fr.mem (b := r0) (by simp)) (And.intro (fr.mem (b := z0) (by simp)) (And.intro dst_ fr.nu)))
    simp (maxDischargeDepth := 16) only [argE_nil, argE_cons, ↓vmD, vmV, vmStd, Nat.reduceMul, ↓reduceIte, Nat.reduceAdd, Nat.reduceSub, Nat.reduceEqDiff, Nat.reduceLT, Nat.reduceLeDiff, reduceCtorEq, Int.reduceToNat, Int.reduceLT, Int.reduceLE, Int.reduceEq, Int.reduceNeg, Int.reduceBEq, Int.reduceBNe, String.reduceEq, forall_const, ↓vmDA, vmVA, ↓vmQA, vmR, vmRA, ↓vmSA, vmSV, tyS, nuE, SubA.skip, SubA.refl, fr.2, vbScX, tA_nil, tA_one, tA_two, lxB, rB]
    refine PrP.err (e := 2) (by unfold oneX; rw [hq, hq1, hq2, hq3, hq4, hq5, hq6, hxa5, hnE]; rfl) (by decide) hx5 ?_ ⟨⟨tx x1, x2.n, x3.n, x4.n, 0, [], []⟩, none, 0, none, 0⟩
    exact Sep.subs (seZ (Sep.pick se [0, 3, 4, 5] rfl rfl)) [3] rfl
  have e1 : (x5.k != 2) = false := by simp [k5]
  by_cases l5 : x5.n < 1
  · have hnE : numE x5 = 4 := by unfold numE; rw [if_neg (by simp [k5]), if_pos (.inl l5)]
    simp (maxDischargeDepth := 16) only [argE_nil, argE_cons, ↓vmD, vmV, vmStd, Nat.reduceMul, ↓reduceIte, Nat.reduceAdd, Nat.reduceSub, Nat.reduceEqDiff, Nat.reduceLT, Nat.reduceLeDiff, reduceCtorEq, Int.reduceToNat, Int.reduceLT, Int.reduceLE, Int.reduceEq, Int.reduceNeg, Int.reduceBEq, Int.reduceBNe, String.reduceEq, forall_const, ↓vmDA, vmVA, ↓vmQA, vmR, vmRA, ↓vmSA, vmSV, tyS, nuE, SubA.skip, SubA.refl, fr.2, vbScX, e1, eq_true k5, eq_true l5]
    have dstB := dst_
    have dst_ : ((ν 0 = cb) = False) ∧ ((ν 0 = pb) = False) ∧ ((ν 0 = r0) = False) ∧ ((ν 0 = z0) = False) ∧ ((cb = ν 0) = False) ∧ ((pb = ν 0) = False) ∧ ((r0 = ν 0) = False) ∧ ((z0 = ν 0) = False) := (by simp [nuE]); generalize ν 0 = nn at dst_  u5 ⊢
    have dst_ := And.intro dstB dst_
    clear nuE fr dstB
    have se := Sep.fresh u5 (lxB x5) sm5
    refine MeantA.at (A := cat [[(nn, lxB x5)], [(r0, rB (bs (tx x1)) x2.n x3.n x4.n 0)], [(z0, rzB)], A]) (Sep.subs se [0, 3, 4, 5] rfl) ?_
    simp only [cat, List.cons_append, List.nil_append, lxB, rB, rzB]
    refine MeantA.tree [] (.one 0 0 (.one 1 0 (.one 2 0 (.one 3 1 (.one 4 0 (.one 5 0 .nil)))))) [(nn, lxB x5), (r0, rB (bs (tx x1)) x2.n x3.n x4.n 0)] (SubA.left [_, _] _) (by kernel_rfl) (by kernel_rfl) (by kernel_rfl) (by kernel_rfl) (by kernel_rfl) ?_
    intro ν fr; have nuE := And.intro (fr.mem (b := nn) (by simp)) (And.intro (fr.mem (b := r0) (by simp)) (And.intro (fr.mem (b := z0) (by simp)) (And.intro dst_ fr.nu)))
    simp (maxDischargeDepth := 16) only [argE_nil, argE_cons, ↓vmD, vmV, vmStd, Nat.reduceMul, ↓reduceIte, Nat.reduceAdd, Nat.reduceSub, Nat.reduceEqDiff, Nat.reduceLT, Nat.reduceLeDiff, reduceCtorEq, Int.reduceToNat, Int.reduceLT, Int.reduceLE, Int.reduceEq, Int.reduceNeg, Int.reduceBEq, Int.reduceBNe, String.reduceEq, forall_const, ↓vmDA, vmVA, ↓vmQA, vmR, vmRA, ↓vmSA, vmSV, tyS, nuE, SubA.skip, SubA.refl, fr.2, vbScX, tA_nil, tA_one, tA_two, lxB, rB]
    refine PrP.err (e := 4) (by unfold oneX; rw [hq, hq1, hq2, hq3, hq4, hq5, hq6, hxa5, hnE]; rfl) (by decide) hx5 ?_ ⟨⟨tx x1, x2.n, x3.n, x4.n, 0, [], []⟩, none, 0, none, 0⟩
    exact Sep.subs (seZ (Sep.pick se [0, 3, 4, 5] rfl rfl)) [3] rfl
  by_cases m5 : 1000 < x5.n
  · have hnE : numE x5 = 4 := by unfold numE; rw [if_neg (by simp [k5]), if_pos (.inr m5)]
    simp (maxDischargeDepth := 16) only [argE_nil, argE_cons, ↓vmD, vmV, vmStd, Nat.reduceMul, ↓reduceIte, Nat.reduceAdd, Nat.reduceSub, Nat.reduceEqDiff, Nat.reduceLT, Nat.reduceLeDiff, reduceCtorEq, Int.reduceToNat, Int.reduceLT, Int.reduceLE, Int.reduceEq, Int.reduceNeg, Int.reduceBEq, Int.reduceBNe, String.reduceEq, forall_const, ↓vmDA, vmVA, ↓vmQA, vmR, vmRA, ↓vmSA, vmSV, tyS, nuE, SubA.skip, SubA.refl, fr.2, vbScX, e1, eq_true k5, eq_false l5, eq_true m5]
    have dstB := dst_
    have dst_ : ((ν 0 = cb) = False) ∧ ((ν 0 = pb) = False) ∧ ((ν 0 = r0) = False) ∧ ((ν 0 = z0) = False) ∧ ((cb = ν 0) = False) ∧ ((pb = ν 0) = False) ∧ ((r0 = ν 0) = False) ∧ ((z0 = ν 0) = False) := (by simp [nuE]); generalize ν 0 = nn at dst_  u5 ⊢
    have dst_ := And.intro dstB dst_
    clear nuE fr dstB
    have se := Sep.fresh u5 (lxB x5) sm5
    refine MeantA.at (A := cat [[(nn, lxB x5)], [(r0, rB (bs (tx x1)) x2.n x3.n x4.n 0)], [(z0, rzB)], A]) (Sep.subs se [0, 3, 4, 5] rfl) ?_
    simp only [cat, List.cons_append, List.nil_append, lxB, rB, rzB]
    refine MeantA.tree [] (.one 0 0 (.one 1 0 (.one 2 0 (.one 3 1 (.one 4 0 (.one 5 0 .nil)))))) [(nn, lxB x5), (r0, rB (bs (tx x1)) x2.n x3.n x4.n 0)] (SubA.left [_, _] _) (by kernel_rfl) (by kernel_rfl) (by kernel_rfl) (by kernel_rfl) (by kernel_rfl) ?_
    intro ν fr; have nuE := And.intro (fr.mem (b := nn) (by simp)) (And.intro (fr.mem (b := r0) (by simp)) (And.intro (fr.mem (b := z0) (by simp)) (And.intro dst_ fr.nu)))
    simp (maxDischargeDepth := 16) only [argE_nil, argE_cons, ↓vmD, vmV, vmStd, Nat.reduceMul, ↓reduceIte, Nat.reduceAdd, Nat.reduceSub, Nat.reduceEqDiff, Nat.reduceLT, Nat.reduceLeDiff, reduceCtorEq, Int.reduceToNat, Int.reduceLT, Int.reduceLE, Int.reduceEq, Int.reduceNeg, Int.reduceBEq, Int.reduceBNe, String.reduceEq, forall_const, ↓vmDA, vmVA, ↓vmQA, vmR, vmRA, ↓vmSA, vmSV, tyS, nuE, SubA.skip, SubA.refl, fr.2, vbScX, tA_nil, tA_one, tA_two, lxB, rB]
    refine PrP.err (e := 4) (by unfold oneX; rw [hq, hq1, hq2, hq3, hq4, hq5, hq6, hxa5, hnE]; rfl) (by decide) hx5 ?_ ⟨⟨tx x1, x2.n, x3.n, x4.n, 0, [], []⟩, none, 0, none, 0⟩
    exact Sep.subs (seZ (Sep.pick se [0, 3, 4, 5] rfl rfl)) [3] rfl
  have hnE5 : numE x5 = 0 := by unfold numE; rw [if_neg (by simp [k5]), if_neg (by omega)]
  have hq7 : ∀ {α : Type} (a b : α), (if numE (lxA L (i + 5)) ≠ 0 then a else b) = b := fun a b => if_neg (by rw [hxa5, hnE5]; simp)
  have hi6 := hend (i + 5) x5 hx5 (by omega)
  have hnx5 : nxS L (i + 5) = i + 6 := if_pos hi6
  rw [hnx5] at sm5 u5
  have w5 : IntKind.i64.wrap (3 + 1) = 4 := by decide
  simp (maxDischargeDepth := 16) only [argE_nil, argE_cons, ↓vmD, vmV, vmStd, Nat.reduceMul, ↓reduceIte, Nat.reduceAdd, Nat.reduceSub, Nat.reduceEqDiff, Nat.reduceLT, Nat.reduceLeDiff, reduceCtorEq, Int.reduceToNat, Int.reduceLT, Int.reduceLE, Int.reduceEq, Int.reduceNeg, Int.reduceBEq, Int.reduceBNe, String.reduceEq, forall_const, ↓vmDA, vmVA, ↓vmQA, vmR, vmRA, ↓vmSA, vmSV, tyS, nuE, SubA.skip, SubA.refl, fr.2, vbScX, e1, eq_true k5, eq_false l5, eq_false m5, hnx5, w5]
  have sl6 : Sep [[(cb, scB lp lcap L (i + 6))], [(pb, ptB r0)], [(r0, rB (bs (tx x1)) x2.n x3.n x4.n x5.n)], [(z0, rzB)], A] := Sep.set (l := [[(cb, scB lp lcap L (i + 6))], [(pb, ptB r0)], [(r0, rB (bs (tx x1)) x2.n x3.n x4.n 0)], [(z0, rzB)], A]) 2 [(r0, rB (bs (tx x1)) x2.n x3.n x4.n x5.n)] sm5 one_less
  refine LoopA.at (A := cat [[(cb, scB lp lcap L (i + 6))], [(pb, ptB r0)], [(r0, rB (bs (tx x1)) x2.n x3.n x4.n x5.n)], [(z0, rzB)], A]) (SubA.fresh (rset u5) (SubA.refl _)) ?_
  clear nuE fr
  refine LoopA.intro (by kernel_rfl) ?_
  simp only [cat, List.cons_append, List.nil_append, ptB, rB, rzB]
  intro ν fr; have nuE := And.intro (fr.mem (b := cb) (by simp)) (And.intro (fr.mem (b := pb) (by simp)) (And.intro (fr.mem (b := r0) (by simp)) (And.intro (fr.mem (b := z0) (by simp)) (And.intro dst_ fr.nu))))
  simp (maxDischargeDepth := 16) only [argE_nil, argE_cons, ↓vmD, vmV, vmStd, Nat.reduceMul, ↓reduceIte, Nat.reduceAdd, Nat.reduceSub, Nat.reduceEqDiff, Nat.reduceLT, Nat.reduceLeDiff, reduceCtorEq, Int.reduceToNat, Int.reduceLT, Int.reduceLE, Int.reduceEq, Int.reduceNeg, Int.reduceBEq, Int.reduceBNe, String.reduceEq, forall_const, ↓vmDA, vmVA, ↓vmQA, vmR, vmRA, ↓vmSA, vmSV, tyS, nuE, SubA.skip, SubA.refl, fr.2, vbScX]
  clear nuE fr
  have sk0 : Sep [[(cb, scB lp lcap L (i + 6))], [(r0, rC (⟨⟨tx x1, x2.n, x3.n, x4.n, x5.n, [], []⟩, none, 0, none, 0⟩ : Rs))], [(z0, rzB)], A] := Sep.pick sl6 [0, 2, 3, 4] rfl rfl
  refine pk_use (pKinds_h (cat [[(r0, rC (⟨⟨tx x1, x2.n, x3.n, x4.n, x5.n, [], []⟩, none, 0, none, 0⟩ : Rs))], [(z0, rzB)], A]) cb L lp lcap (Sep.hd sk0) (hL.mono (Sep.subs sk0.2 [2] rfl)) hl hend (i + 6) hi6 claimT) (Sep.subs sl6 [0, 2, 3, 4] rfl) ?_
  have hO : oneX L i (F.map Rs.d) = twoX L (kindsW L (i + 6) claimT) (tx x1) x2.n x3.n x4.n x5.n := by
    unfold oneX
    rw [hq, hq1, hq2, hq3, hq4, hq5, hq6, hq7, hxa1, hxa2, hxa3, hxa4, hxa5]
  rw [hO]
  have j1lt := kindsW_lt hend hi6 (w := claimT)
  generalize kindsW L (i + 6) claimT = W1 at j1lt ⊢
  clear hO hq hq1 hq2 hq3 hq4 hq5 hq6 hq7
  intro v1 B1 ho1 hd1
  obtain ⟨p1, c1, rfl, hr1⟩ := own_tx ho1
  have st1 : Sep [B1, [(cb, scB lp lcap L W1.2.1)], [(r0, rC (⟨⟨tx x1, x2.n, x3.n, x4.n, x5.n, [], []⟩, none, 0, none, 0⟩ : Rs))], [(z0, rzB)], A] := Sep.cons hd1 (scB_set sk0)
  refine ⟨cat [[(cb, scB lp lcap L W1.2.1)], [(r0, rC (⟨⟨tx x1, x2.n, x3.n, x4.n, x5.n, [], []⟩, none, 0, none, 0⟩ : Rs))], [(z0, rzB)], B1, A], Sep.subs st1 [1, 2, 3, 0, 4] rfl, ?_⟩
  have st2 : Sep [[(cb, scB lp lcap L W1.2.1)], [(r0, rC (⟨⟨tx x1, x2.n, x3.n, x4.n, x5.n, [], []⟩, none, 0, none, 0⟩ : Rs))], [(z0, rzB)], B1, A] := Sep.pick st1 [1, 2, 3, 0, 4] rfl rfl
  have sk1 : Sep [[(cb, scB lp lcap L W1.2.1)], [(r0, rC (⟨⟨tx x1, x2.n, x3.n, x4.n, x5.n, W1.2.2, []⟩, p1, c1, none, 0⟩ : Rs))], [(z0, rzB)], B1, A] := Sep.set (l := [[(cb, scB lp lcap L W1.2.1)], [(r0, rC (⟨⟨tx x1, x2.n, x3.n, x4.n, x5.n, [], []⟩, none, 0, none, 0⟩ : Rs))], [(z0, rzB)], B1, A]) 1 [(r0, rC (⟨⟨tx x1, x2.n, x3.n, x4.n, x5.n, W1.2.2, []⟩, p1, c1, none, 0⟩ : Rs))] st2 one_less
  simp only [cat, List.cons_append, List.nil_append, rC, rsC, rzB]
  intro ν fr; have nuE := And.intro (fr.mem (b := cb) (by simp)) (And.intro (fr.mem (b := r0) (by simp)) (And.intro (fr.mem (b := z0) (by simp)) (And.intro dst_ fr.nu)))
  by_cases e1 : W1.1 = 0
  rotate_left
  · simp (maxDischargeDepth := 16) only [argE_nil, argE_cons, ↓vmD, vmV, vmStd, Nat.reduceMul, ↓reduceIte, Nat.reduceAdd, Nat.reduceSub, Nat.reduceEqDiff, Nat.reduceLT, Nat.reduceLeDiff, reduceCtorEq, Int.reduceToNat, Int.reduceLT, Int.reduceLE, Int.reduceEq, Int.reduceNeg, Int.reduceBEq, Int.reduceBNe, String.reduceEq, forall_const, ↓vmDA, vmVA, ↓vmQA, vmR, vmRA, ↓vmSA, vmSV, tyS, nuE, SubA.skip, SubA.refl, fr.2, vbScX, eq_false e1]
    rw [show twoX L W1 (tx x1) x2.n x3.n x4.n x5.n = (W1.1, W1.2.1, noRn) from if_pos e1]
    refine .inl ⟨e1, ?_, (⟨⟨tx x1, x2.n, x3.n, x4.n, x5.n, W1.2.2, []⟩, p1, c1, none, 0⟩ : Rs), by simp only [atK, if_neg e1]; rfl⟩
    exact Sep.subs (sez3 sk1) [4] rfl
  simp (maxDischargeDepth := 16) only [argE_nil, argE_cons, ↓vmD, vmV, vmStd, Nat.reduceMul, ↓reduceIte, Nat.reduceAdd, Nat.reduceSub, Nat.reduceEqDiff, Nat.reduceLT, Nat.reduceLeDiff, reduceCtorEq, Int.reduceToNat, Int.reduceLT, Int.reduceLE, Int.reduceEq, Int.reduceNeg, Int.reduceBEq, Int.reduceBNe, String.reduceEq, forall_const, ↓vmDA, vmVA, ↓vmQA, vmR, vmRA, ↓vmSA, vmSV, tyS, nuE, SubA.skip, SubA.refl, fr.2, vbScX, e1]
  clear nuE fr
  rw [show twoX L W1 (tx x1) x2.n x3.n x4.n x5.n = thrX L W1.2.2 (kindsW L W1.2.1 defenceT) (tx x1) x2.n x3.n x4.n x5.n from if_neg (by simp [e1])]
  refine pk_use (pKinds_h (cat [[(r0, rC (⟨⟨tx x1, x2.n, x3.n, x4.n, x5.n, W1.2.2, []⟩, p1, c1, none, 0⟩ : Rs))], [(z0, rzB)], B1, A]) cb L lp lcap (Sep.hd sk1) (hL.mono (Sep.subs sk1.2 [3] rfl)) hl hend W1.2.1 j1lt defenceT) (SubA.refl _) ?_
  have j2lt := kindsW_lt hend j1lt (w := defenceT)
  generalize kindsW L W1.2.1 defenceT = W2 at j2lt ⊢
  intro v2 B2 ho2 hd2
  obtain ⟨p2, c2, rfl, hr2⟩ := own_tx ho2
  have st3 : Sep [B2, [(cb, scB lp lcap L W2.2.1)], [(r0, rC (⟨⟨tx x1, x2.n, x3.n, x4.n, x5.n, W1.2.2, []⟩, p1, c1, none, 0⟩ : Rs))], [(z0, rzB)], B1, A] := Sep.cons hd2 (scB_set sk1)
  refine ⟨cat [[(cb, scB lp lcap L W2.2.1)], [(r0, rC (⟨⟨tx x1, x2.n, x3.n, x4.n, x5.n, W1.2.2, []⟩, p1, c1, none, 0⟩ : Rs))], [(z0, rzB)], B2, B1, A], Sep.subs st3 [1, 2, 3, 0, 4, 5] rfl, ?_⟩
  have st4 : Sep [[(cb, scB lp lcap L W2.2.1)], [(r0, rC (⟨⟨tx x1, x2.n, x3.n, x4.n, x5.n, W1.2.2, []⟩, p1, c1, none, 0⟩ : Rs))], [(z0, rzB)], B2, B1, A] := Sep.pick st3 [1, 2, 3, 0, 4, 5] rfl rfl
  have sk2 : Sep [[(cb, scB lp lcap L W2.2.1)], [(r0, rC (⟨⟨tx x1, x2.n, x3.n, x4.n, x5.n, W1.2.2, W2.2.2⟩, p1, c1, p2, c2⟩ : Rs))], [(z0, rzB)], B2, B1, A] := Sep.set (l := [[(cb, scB lp lcap L W2.2.1)], [(r0, rC (⟨⟨tx x1, x2.n, x3.n, x4.n, x5.n, W1.2.2, []⟩, p1, c1, none, 0⟩ : Rs))], [(z0, rzB)], B2, B1, A]) 1 [(r0, rC (⟨⟨tx x1, x2.n, x3.n, x4.n, x5.n, W1.2.2, W2.2.2⟩, p1, c1, p2, c2⟩ : Rs))] st4 one_less
  obtain ⟨x6, hx6⟩ : ∃ x, L[W2.2.1]? = some x := ⟨_, List.getElem?_eq_getElem j2lt⟩
  have hxa6 := lxA_of hx6
  have pk := peekS_v (cat [[(r0, rC (⟨⟨tx x1, x2.n, x3.n, x4.n, x5.n, W1.2.2, W2.2.2⟩, p1, c1, p2, c2⟩ : Rs))], [(z0, rzB)], B2, B1, A]) cb L lp lcap (Sep.hd sk2) (hL.mono (Sep.subs sk2.2 [4] rfl)) W2.2.1 x6 hx6
  simp only [cat, List.cons_append, List.nil_append, rC, rsC, rzB, lexV, ← tx_bs] at pk
  simp only [cat, List.cons_append, List.nil_append, rC, rsC, rzB]
  intro ν fr; have nuE := And.intro (fr.mem (b := cb) (by simp)) (And.intro (fr.mem (b := r0) (by simp)) (And.intro (fr.mem (b := z0) (by simp)) (And.intro dst_ fr.nu)))
  by_cases e2 : W2.1 = 0
  rotate_left
  · simp (maxDischargeDepth := 16) only [argE_nil, argE_cons, ↓vmD, vmV, vmStd, Nat.reduceMul, ↓reduceIte, Nat.reduceAdd, Nat.reduceSub, Nat.reduceEqDiff, Nat.reduceLT, Nat.reduceLeDiff, reduceCtorEq, Int.reduceToNat, Int.reduceLT, Int.reduceLE, Int.reduceEq, Int.reduceNeg, Int.reduceBEq, Int.reduceBNe, String.reduceEq, forall_const, ↓vmDA, vmVA, ↓vmQA, vmR, vmRA, ↓vmSA, vmSV, tyS, nuE, SubA.skip, SubA.refl, fr.2, vbScX, eq_false e2]
    rw [show thrX L W1.2.2 W2 (tx x1) x2.n x3.n x4.n x5.n = (W2.1, W2.2.1, noRn) from if_pos e2]
    refine .inl ⟨e2, ?_, (⟨⟨tx x1, x2.n, x3.n, x4.n, x5.n, W1.2.2, W2.2.2⟩, p1, c1, p2, c2⟩ : Rs), by simp only [atK, if_neg e2]⟩
    exact Sep.subs (sez4 sk2) [5] rfl
  have u6 : Vm.look (cat [[(cb, scB lp lcap L W2.2.1)], [(r0, rC (⟨⟨tx x1, x2.n, x3.n, x4.n, x5.n, W1.2.2, []⟩, p1, c1, none, 0⟩ : Rs))], [(z0, rzB)], B2, B1, A]) (ν 0) = none := fr.2 0
  have u6' : Vm.look (cat [[(cb, scB lp lcap L W2.2.1)], [(r0, rC (⟨⟨tx x1, x2.n, x3.n, x4.n, x5.n, W1.2.2, W2.2.2⟩, p1, c1, p2, c2⟩ : Rs))], [(z0, rzB)], B2, B1, A]) (ν 0) = none := rset2 u6
  simp (maxDischargeDepth := 16) only [argE_nil, argE_cons, ↓vmD, vmV, vmStd, Nat.reduceMul, ↓reduceIte, Nat.reduceAdd, Nat.reduceSub, Nat.reduceEqDiff, Nat.reduceLT, Nat.reduceLeDiff, reduceCtorEq, Int.reduceToNat, Int.reduceLT, Int.reduceLE, Int.reduceEq, Int.reduceNeg, Int.reduceBEq, Int.reduceBNe, String.reduceEq, forall_const, ↓vmDA, vmVA, ↓vmQA, vmR, vmRA, ↓vmSA, vmSV, tyS, nuE, SubA.skip, SubA.refl, fr.2, vbScX, e2, pk]
  have dstB := dst_
  have dst_ : ((ν 0 = cb) = False) ∧ ((ν 0 = r0) = False) ∧ ((ν 0 = z0) = False) ∧ ((cb = ν 0) = False) ∧ ((r0 = ν 0) = False) ∧ ((z0 = ν 0) = False) := (by simp [nuE]); generalize ν 0 = nn at dst_  u6 u6' ⊢
  have dst_ := And.intro dstB dst_
  clear nuE fr dstB u6
  have sn : Sep [[(nn, lxB x6)], [(cb, scB lp lcap L W2.2.1)], [(r0, rC (⟨⟨tx x1, x2.n, x3.n, x4.n, x5.n, W1.2.2, W2.2.2⟩, p1, c1, p2, c2⟩ : Rs))], [(z0, rzB)], B2, B1, A] := Sep.fresh u6' _ sk2
  have sn2 : Sep [[(cb, scB lp lcap L W2.2.1)], [(nn, lxB x6)], [(r0, rC (⟨⟨tx x1, x2.n, x3.n, x4.n, x5.n, W1.2.2, W2.2.2⟩, p1, c1, p2, c2⟩ : Rs))], [(z0, rzB)], B2, B1, A] := Sep.pick sn [1, 0, 2, 3, 4, 5, 6] rfl rfl
  have hm := markS_h (cat [[(nn, lxB x6)], [(r0, rC (⟨⟨tx x1, x2.n, x3.n, x4.n, x5.n, W1.2.2, W2.2.2⟩, p1, c1, p2, c2⟩ : Rs))], [(z0, rzB)], B2, B1, A]) cb L lp lcap (Sep.hd sn2) (hL.mono (Sep.subs sn2.2 [5] rfl)) hl W2.2.1 x6 hx6 ⟨#[59]⟩
  refine CallA.put hm (Sep.subs sn [1, 0, 2, 3, 4, 5, 6] rfl) ?_
  cases h6 : isL x6 4 ⟨#[59]⟩ with
  | false =>
    rw [h6] at hm
    simp only [cat, List.cons_append, List.nil_append, lxB, rC, rsC, rzB, Bool.false_eq_true, if_false]
    intro ν fr; have nuE := And.intro (fr.mem (b := cb) (by simp)) (And.intro (fr.mem (b := nn) (by simp)) (And.intro (fr.mem (b := r0) (by simp)) (And.intro (fr.mem (b := z0) (by simp)) (And.intro dst_ fr.nu))))
    simp (maxDischargeDepth := 16) only [argE_nil, argE_cons, ↓vmD, vmV, vmStd, Nat.reduceMul, ↓reduceIte, Nat.reduceAdd, Nat.reduceSub, Nat.reduceEqDiff, Nat.reduceLT, Nat.reduceLeDiff, reduceCtorEq, Int.reduceToNat, Int.reduceLT, Int.reduceLE, Int.reduceEq, Int.reduceNeg, Int.reduceBEq, Int.reduceBNe, String.reduceEq, forall_const, ↓vmDA, vmVA, ↓vmQA, vmR, vmRA, ↓vmSA, vmSV, tyS, nuE, SubA.skip, SubA.refl, fr.2, vbScX]
    clear nuE fr
    refine MeantA.at (A := cat [[(nn, lxB x6)], [(r0, rC (⟨⟨tx x1, x2.n, x3.n, x4.n, x5.n, W1.2.2, W2.2.2⟩, p1, c1, p2, c2⟩ : Rs))], [(z0, rzB)], A]) (Sep.subs sn2 [1, 2, 3, 6] rfl) ?_
    simp only [cat, List.cons_append, List.nil_append, lxB, rC, rsC, rzB]
    refine MeantA.tree [] (.one 0 0 (.one 1 0 (.one 2 0 (.one 3 1 (.one 4 0 (.one 5 0 .nil)))))) [(nn, lxB x6), (r0, rC (⟨⟨tx x1, x2.n, x3.n, x4.n, x5.n, W1.2.2, W2.2.2⟩, p1, c1, p2, c2⟩ : Rs))] (SubA.left [_, _] _) (by kernel_rfl) (by kernel_rfl) (by kernel_rfl) (by kernel_rfl) (by kernel_rfl) ?_
    intro ν fr; have nuE := And.intro (fr.mem (b := nn) (by simp)) (And.intro (fr.mem (b := r0) (by simp)) (And.intro (fr.mem (b := z0) (by simp)) (And.intro dst_ fr.nu)))
    simp (maxDischargeDepth := 16) only [argE_nil, argE_cons, ↓vmD, vmV, vmStd, Nat.reduceMul, ↓reduceIte, Nat.reduceAdd, Nat.reduceSub, Nat.reduceEqDiff, Nat.reduceLT, Nat.reduceLeDiff, reduceCtorEq, Int.reduceToNat, Int.reduceLT, Int.reduceLE, Int.reduceEq, Int.reduceNeg, Int.reduceBEq, Int.reduceBNe, String.reduceEq, forall_const, ↓vmDA, vmVA, ↓vmQA, vmR, vmRA, ↓vmSA, vmSV, tyS, nuE, SubA.skip, SubA.refl, fr.2, vbScX, tA_nil, tA_one, tA_two, lxB, rC, rsC]
    refine PrP.err (e := 2) (by unfold thrX; rw [if_neg (by simp [e2]), hxa6, if_pos h6]) (by decide) hx6 ?_ (⟨⟨tx x1, x2.n, x3.n, x4.n, x5.n, W1.2.2, W2.2.2⟩, p1, c1, p2, c2⟩ : Rs)
    exact Sep.subs (seZ (Sep.pick sn2 [1, 2, 3, 6] rfl rfl)) [3] rfl
  | true =>
    have hj2 := hend W2.2.1 x6 hx6 (by rw [isL_k h6]; decide)
    rw [show nxS L W2.2.1 = W2.2.1 + 1 from if_pos hj2]
    simp only [cat, List.cons_append, List.nil_append, lxB, rC, rsC, rzB, if_true]
    intro ν fr; have nuE := And.intro (fr.mem (b := cb) (by simp)) (And.intro (fr.mem (b := nn) (by simp)) (And.intro (fr.mem (b := r0) (by simp)) (And.intro (fr.mem (b := z0) (by simp)) (And.intro dst_ fr.nu))))
    simp (maxDischargeDepth := 16) only [argE_nil, argE_cons, ↓vmD, vmV, vmStd, Nat.reduceMul, ↓reduceIte, Nat.reduceAdd, Nat.reduceSub, Nat.reduceEqDiff, Nat.reduceLT, Nat.reduceLeDiff, reduceCtorEq, Int.reduceToNat, Int.reduceLT, Int.reduceLE, Int.reduceEq, Int.reduceNeg, Int.reduceBEq, Int.reduceBNe, String.reduceEq, forall_const, ↓vmDA, vmVA, ↓vmQA, vmR, vmRA, ↓vmSA, vmSV, tyS, nuE, SubA.skip, SubA.refl, fr.2, vbScX]
    have hT : thrX L W1.2.2 W2 (tx x1) x2.n x3.n x4.n x5.n = (0, W2.2.1 + 1, ⟨tx x1, x2.n, x3.n, x4.n, x5.n, W1.2.2, W2.2.2⟩) := by unfold thrX; rw [if_neg (by simp [e2]), hxa6, if_neg (by rw [h6]; simp)]
    rw [hT]
    have sz : Sep [[(cb, scB lp lcap L (W2.2.1 + 1))], [(nn, lxB x6)], [(r0, rC (⟨⟨tx x1, x2.n, x3.n, x4.n, x5.n, W1.2.2, W2.2.2⟩, p1, c1, p2, c2⟩ : Rs))], [(z0, rC (⟨⟨tx x1, x2.n, x3.n, x4.n, x5.n, W1.2.2, W2.2.2⟩, p1, c1, p2, c2⟩ : Rs))], B2, B1, A] := Sep.set (l := [[(cb, scB lp lcap L (W2.2.1 + 1))], [(nn, lxB x6)], [(r0, rC (⟨⟨tx x1, x2.n, x3.n, x4.n, x5.n, W1.2.2, W2.2.2⟩, p1, c1, p2, c2⟩ : Rs))], [(z0, rzB)], B2, B1, A]) 3 [(z0, rC (⟨⟨tx x1, x2.n, x3.n, x4.n, x5.n, W1.2.2, W2.2.2⟩, p1, c1, p2, c2⟩ : Rs))] (scB_set sn2) one_less
    have sy : Sep [B2, B1, [(cb, scB lp lcap L (W2.2.1 + 1))], A] := Sep.pick sz [4, 5, 0, 6] rfl rfl
    refine .inr ⟨rfl, (⟨⟨tx x1, x2.n, x3.n, x4.n, x5.n, W1.2.2, W2.2.2⟩, p1, c1, p2, c2⟩ : Rs), B2 ++ B1, rfl, rfl, ⟨hr1.mono (sy.1.1.symm |> fun h => h.symm.right), hr2.mono (SubA.left _ _)⟩, hj2, ?_, ?_⟩
    · exact Dis.app (Dis.appr (sy.1.2.1) sy.1.2.2.1) (Dis.appr sy.2.1.1 sy.2.1.2.1)
    · have := Sep.subs sz [4, 5, 0, 6] rfl
      simp only [cat, pick, at_, List.cons_append, List.nil_append, List.append_assoc] at this ⊢
      exact this

set_option linter.unusedSimpArgs false
set_option linter.unusedVariables false
set_option maxHeartbeats 4000000
set_option maxRecDepth 20000
def parsG (L : List LR) : Nat → Nat → List Rn → Int × Int × List Rn
  | 0, _, out => (0, 0, out)
  | f + 1, i, out => if (lxA L i).k = 0 then (0, 0, out) else if (oneX L i out).1 ≠ 0 then ((oneX L i out).1, ((lxA L (oneX L i out).2.1).a : Int), []) else parsG L f (oneX L i out).2.1 (out ++ [(oneX L i out).2.2])
def parseF (s : ByteArray) : Int × Int × List Rn := if (scanF s).1 ≠ 0 then ((scanF s).1, (((scanF s).2.1 : Nat) : Int), []) else parsG (scanF s).2.2 33 0 []
theorem oneX_facts {L : List LR} {i : Nat} {F : List Rn} (h : (oneX L i F).1 = 0) : F.length < 32 ∧ (oneX L i F).2.2.cl.length ≤ 8 ∧ (oneX L i F).2.2.df.length ≤ 8 := by
  revert h
  unfold oneX
  split
  · intro h; cases h
  split
  · intro h; cases h
  rename_i h32
  split
  · intro h; cases h
  split
  · intro h; cases h
  split
  · rename_i q; intro h; exact absurd h q
  split
  · rename_i q; intro h; exact absurd h q
  split
  · rename_i q; intro h; exact absurd h q
  split
  · rename_i q; intro h; exact absurd h q
  unfold twoX
  split
  · rename_i q; intro h; exact absurd h q
  unfold thrX
  split
  · rename_i q; intro h; exact absurd h q
  split
  · intro h; cases h
  intro _
  exact ⟨by omega, kindsW_len, kindsW_len⟩
theorem look_cat_app : ∀ (a m : List AH) (b : Nat), Vm.look (cat (a ++ m)) b = Vm.look (cat (a ++ [cat m])) b
  | [], m, b => rfl
  | x :: a, m, b => by
    rw [List.cons_append, List.cons_append, cat_cons, cat_cons, look_append, look_append, look_cat_app a m b]
theorem Sep.coarse : ∀ {a m : List AH}, Sep (a ++ m) → Sep (a ++ [cat m])
  | [], m, _ => Sep.one _
  | x :: a, m, h => by
    refine Sep.cons ?_ (Sep.coarse (a := a) h.2)
    intro y hy
    refine Sep.dis h y ?_
    have := look_cat_app a m y
    intro hn
    exact hy (this.symm.trans hn)
theorem rs_app {v' : Value} {B' : AH} {T : List Rs} {t : Rs} (ho' : OwnZ 27 7 v' B' (T.length + 1) (T.flatMap rsC ++ rsC t)) : OwnL rsC 7 27 v' B' (T ++ [t]) := by
  unfold OwnL
  rw [List.length_append, List.flatMap_append]
  simpa using ho'
theorem sc_rs (a : ByteArray) (b c d e : Int) (p q : Option Addr) (n1 n2 c1 c2 : Nat) : sliceCells Tryd.prog 22 1 [(0, .agg #[.string a, .int .i64 b, .int .i64 c, .int .i64 d, .int .i64 e, .slice p n1 c1, .slice q n2 c2])] = some (27, #[.string a, .int .i64 b, .int .i64 c, .int .i64 d, .int .i64 e, .slice p n1 c1, .slice q n2 c2]) := by kernel_rfl
/-- What Parse leaves. -/
def PaP (A : AH) (u : Value) (D : AH) (q : Int × Int × List Rn) : Prop := ∃ (v : Value) (F : List Rs) (VB Y : AH), u = .tuple #[v, .int .i64 q.1, .int .i64 q.2.1] ∧ OwnL rsC 7 27 v VB F ∧ (∀ r ∈ F, InR Y r ∧ r.d.cl.length ≤ 8 ∧ r.d.df.length ≤ 8) ∧ F.map Rs.d = q.2.2 ∧ Sep [VB, Y, A] ∧ SubA (cat [VB, Y, A]) D
theorem parseP_h (A : AH) (s : ByteArray) (hs : s.size ≤ 100000) : CallA Tryd.prog 25 #[.string s] A (fun u_ A_ => PaP A u_ A_ (parseF s)) := by
  refine callA_of_denA ⟨Tryd.prog, 25, Tryd.f25, 42, [0, 2, 3, 4, 5, 6, 7, 8, 9, 10, 11], [42, 44], [], _⟩ (args := [_]) Tryd.func25 rfl (by kernel_rfl) Tryd.ntmps25 (by simp) (by kernel_rfl) ?_
  intro ν fr; have nuE := fr.nu
  have bad : ∀ {D : AH} {e a : Int}, SubA A D → parseF s = (e, a, []) → PaP A (.tuple #[.slice none 0 0, .int .i64 e, .int .i64 a]) D (parseF s) := fun hD hq => by
    rw [hq]
    exact ⟨_, [], [], [], rfl, OwnL.nil _ _ _, (fun r hr => by cases hr), rfl, ⟨⟨Dis.nil _, Dis.nil _, trivial⟩, ⟨Dis.nil _, trivial⟩, Sep.one _⟩, hD⟩
  simp (maxDischargeDepth := 16) only [argE_nil, argE_cons, ↓vmD, vmV, vmStd, Nat.reduceMul, ↓reduceIte, Nat.reduceAdd, Nat.reduceSub, Nat.reduceEqDiff, Nat.reduceLT, Nat.reduceLeDiff, reduceCtorEq, Int.reduceToNat, Int.reduceLT, Int.reduceLE, Int.reduceEq, Int.reduceNeg, Int.reduceBEq, Int.reduceBNe, String.reduceEq, forall_const, ↓vmDA, vmVA, ↓vmQA, vmR, vmRA, ↓vmSA, vmSV, tyS, nuE, SubA.skip, SubA.refl, fr.2, vbScX]
  clear nuE fr
  refine CallA.useX (newScS_h A s hs) (SubA.refl _) [] (SubA.nil _) (fun x hx => absurd rfl hx) ?_
  rintro u D (⟨h0, rfl, hD⟩ | ⟨h0, cb, lp, lcap, LB, rfl, hL, sp0, hD⟩) _
  · refine ⟨A, hD, ?_⟩
    rw [List.append_nil]
    intro ν fr; have nuE := fr.nu
    simp (maxDischargeDepth := 16) only [argE_nil, argE_cons, ↓vmD, vmV, vmStd, Nat.reduceMul, ↓reduceIte, Nat.reduceAdd, Nat.reduceSub, Nat.reduceEqDiff, Nat.reduceLT, Nat.reduceLeDiff, reduceCtorEq, Int.reduceToNat, Int.reduceLT, Int.reduceLE, Int.reduceEq, Int.reduceNeg, Int.reduceBEq, Int.reduceBNe, String.reduceEq, forall_const, ↓vmDA, vmVA, ↓vmQA, vmR, vmRA, ↓vmSA, vmSV, tyS, nuE, SubA.skip, SubA.refl, fr.2, vbScX, eq_false h0]
    exact bad (SubA.refl _) (by unfold parseF; rw [if_pos h0])
  have hP : parseF s = parsG (scanF s).2.2 33 0 [] := by unfold parseF; rw [if_neg (by simp [h0])]
  obtain ⟨K, hS, _, _, hlen⟩ := scan_out h0
  have hend := scan_end h0
  have hpos : 0 < (scanF s).2.2.length := by rw [hS]; simp
  generalize (scanF s).2.2 = L at hP hL sp0 hlen hend hpos hD ⊢
  clear hS
  refine ⟨cat [[(cb, scB lp lcap L 0)], LB, A], hD, ?_⟩
  rw [List.append_nil]
  simp only [cat, List.cons_append, List.nil_append]
  intro ν fr; have nuE := And.intro (fr.mem (b := cb) (by simp)) (fr.nu)
  simp (maxDischargeDepth := 16) only [argE_nil, argE_cons, ↓vmD, vmV, vmStd, Nat.reduceMul, ↓reduceIte, Nat.reduceAdd, Nat.reduceSub, Nat.reduceEqDiff, Nat.reduceLT, Nat.reduceLeDiff, reduceCtorEq, Int.reduceToNat, Int.reduceLT, Int.reduceLE, Int.reduceEq, Int.reduceNeg, Int.reduceBEq, Int.reduceBNe, String.reduceEq, forall_const, ↓vmDA, vmVA, ↓vmQA, vmR, vmRA, ↓vmSA, vmSV, tyS, nuE, SubA.skip, SubA.refl, fr.2, vbScX]
  clear nuE fr hD
  obtain ⟨i, n, v, F, VB, Y, hi0, hv, hF0, hVB, hY0, hn, h32, ho, hY, hi, sp, hG⟩ : ∃ (i n : Nat) (v : Value) (F : List Rs) (VB Y : AH), i = 0 ∧ v = .slice none 0 0 ∧ F = [] ∧ VB = [] ∧ Y = [] ∧ n + F.length = 33 ∧ F.length ≤ 32 ∧ OwnL rsC 7 27 v VB F ∧ (∀ r ∈ F, InR Y r ∧ r.d.cl.length ≤ 8 ∧ r.d.df.length ≤ 8) ∧ i < L.length ∧ Sep [[(cb, scB lp lcap L i)], VB, Y, LB, A] ∧ parseF s = parsG L n i (F.map Rs.d) :=
    ⟨0, 33, _, [], [], [], rfl, rfl, rfl, rfl, rfl, rfl, by simp, OwnL.nil _ _ _, (fun r hr => by cases hr), hpos, ⟨⟨(fun x hx => absurd rfl hx), (fun x hx => absurd rfl hx), sp0.1.1, sp0.1.2.1, trivial⟩, ⟨Dis.nil _, Dis.nil _, Dis.nil _, trivial⟩, ⟨Dis.nil _, Dis.nil _, trivial⟩, sp0.2⟩, hP⟩
  rw [show (8, some (Value.slice none 0 0)) = (8, some v) by rw [hv]]
  refine LoopA.at (A := cat [[(cb, scB lp lcap L i)], VB, Y, LB, A]) (by subst hVB; subst hY0; subst hi0; exact SubA.refl _) ?_
  clear hi0 hv hF0 hVB hY0 hP hpos sp0
  induction n generalizing i v F VB Y with
  | zero => omega
  | succ n ih =>
    obtain ⟨x, hx⟩ : ∃ x, L[i]? = some x := ⟨_, List.getElem?_eq_getElem hi⟩
    have hxa := lxA_of hx
    have hL' : StR LR.cells 4 (cat [VB, Y, LB, A]) lp L := hL.mono (Sep.subs sp.2 [2] rfl)
    have pk := peekS_v (cat [VB, Y, LB, A]) cb L lp lcap (Sep.hd sp) hL' i x hx
    simp only [lexV, ← tx_bs, cat] at pk
    refine LoopA.intro (by kernel_rfl) ?_
    simp only [cat, List.cons_append, List.nil_append]
    intro ν fr; have nuE := And.intro (fr.mem (b := cb) (by simp)) (fr.nu)
    by_cases hk : x.k = 0
    · have hR : parseF s = (0, 0, F.map Rs.d) := by rw [hG]; simp only [parsG]; rw [hxa, if_pos hk]
      rw [hR]
      simp (maxDischargeDepth := 16) only [argE_nil, argE_cons, ↓vmD, vmV, vmStd, Nat.reduceMul, ↓reduceIte, Nat.reduceAdd, Nat.reduceSub, Nat.reduceEqDiff, Nat.reduceLT, Nat.reduceLeDiff, reduceCtorEq, Int.reduceToNat, Int.reduceLT, Int.reduceLE, Int.reduceEq, Int.reduceNeg, Int.reduceBEq, Int.reduceBNe, String.reduceEq, forall_const, ↓vmDA, vmVA, ↓vmQA, vmR, vmRA, ↓vmSA, vmSV, tyS, nuE, SubA.skip, SubA.refl, fr.2, vbScX, pk, eq_true hk]
      exact ⟨v, F, VB, Y, rfl, ho, hY, rfl, Sep.pick sp [1, 2, 4] rfl rfl, Sep.subs sp [1, 2, 4] rfl⟩
    obtain ⟨qp, qcap, rfl, hqc, hqs⟩ := ho.read rsC_len
    have hRs : RsR (cat [VB, Y, LB, A]) qp F := ⟨hqs.mono (Sep.subs sp.2 [0] rfl), fun r hr => (hY r hr).1.mono (Sep.subs sp.2 [1] rfl)⟩
    simp (maxDischargeDepth := 16) only [argE_nil, argE_cons, ↓vmD, vmV, vmStd, Nat.reduceMul, ↓reduceIte, Nat.reduceAdd, Nat.reduceSub, Nat.reduceEqDiff, Nat.reduceLT, Nat.reduceLeDiff, reduceCtorEq, Int.reduceToNat, Int.reduceLT, Int.reduceLE, Int.reduceEq, Int.reduceNeg, Int.reduceBEq, Int.reduceBNe, String.reduceEq, forall_const, ↓vmDA, vmVA, ↓vmQA, vmR, vmRA, ↓vmSA, vmSV, tyS, nuE, SubA.skip, SubA.refl, fr.2, vbScX, pk, eq_false hk]
    clear nuE fr
    refine CallA.useX (pReason_h (cat [VB, Y, LB, A]) cb L lp lcap (Sep.hd sp) hL' (by omega) hend i hi F qp qcap hRs (fun r hr => ⟨by have := (hY r hr).2.1; omega, by have := (hY r hr).2.2; omega⟩) (by omega)) (SubA.refl _) [] (SubA.nil _) (fun x hx => absurd rfl hx) ?_
    rintro u D (⟨h1, hD, r, rfl⟩ | ⟨h1, r, B, rfl, hrd, hrB, hj, hdB, hD⟩) _
    · refine ⟨cat [VB, Y, LB, A], hD, ?_⟩
      rw [List.append_nil]
      simp only [cat, List.cons_append, List.nil_append]
      intro ν fr; have nuE := fr.nu
      simp (maxDischargeDepth := 16) only [argE_nil, argE_cons, ↓vmD, vmV, vmStd, Nat.reduceMul, ↓reduceIte, Nat.reduceAdd, Nat.reduceSub, Nat.reduceEqDiff, Nat.reduceLT, Nat.reduceLeDiff, reduceCtorEq, Int.reduceToNat, Int.reduceLT, Int.reduceLE, Int.reduceEq, Int.reduceNeg, Int.reduceBEq, Int.reduceBNe, String.reduceEq, forall_const, ↓vmDA, vmVA, ↓vmQA, vmR, vmRA, ↓vmSA, vmSV, tyS, nuE, SubA.skip, SubA.refl, fr.2, vbScX, rsC, eq_false h1]
      have hR : parseF s = ((oneX L i (F.map Rs.d)).1, ((lxA L (oneX L i (F.map Rs.d)).2.1).a : Int), []) := by rw [hG]; simp only [parsG]; rw [hxa, if_neg hk, if_pos h1]
      refine bad ?_ hR
      exact SubA.skip (show Vm.look A (ν 0) = none from (Sep.subs sp.2 [3] rfl).none (fr.2 0)) (Sep.subs sp.2 [3] rfl)
    obtain ⟨f32, b8, c8⟩ := oneX_facts h1
    rw [List.length_map] at f32
    have hR : parseF s = parsG L n (oneX L i (F.map Rs.d)).2.1 ((F ++ [r]).map Rs.d) := by rw [hG]; simp only [parsG]; rw [hxa, if_neg hk, if_neg (by simp [h1]), List.map_append, ← hrd]; rfl
    generalize hq : oneX L i (F.map Rs.d) = q at *
    have st1 : Sep [B, [(cb, scB lp lcap L q.2.1)], VB, Y, LB, A] := Sep.cons hdB (scB_set sp)
    refine ⟨cat [[(cb, scB lp lcap L q.2.1)], VB, B, Y, LB, A], ?_, ?_⟩
    · exact SubA.trans (Sep.subs st1 [1, 2, 0, 3, 4, 5] rfl) hD
    rw [List.append_nil]
    have st2 : Sep [[(cb, scB lp lcap L q.2.1)], VB, B, Y, LB, A] := Sep.pick st1 [1, 2, 0, 3, 4, 5] rfl rfl
    simp only [cat, List.cons_append, List.nil_append]
    intro ν fr; have nuE := And.intro (fr.mem (b := cb) (by simp)) (fr.nu)
    simp (maxDischargeDepth := 16) only [argE_nil, argE_cons, ↓vmD, vmV, vmStd, Nat.reduceMul, ↓reduceIte, Nat.reduceAdd, Nat.reduceSub, Nat.reduceEqDiff, Nat.reduceLT, Nat.reduceLeDiff, reduceCtorEq, Int.reduceToNat, Int.reduceLT, Int.reduceLE, Int.reduceEq, Int.reduceNeg, Int.reduceBEq, Int.reduceBNe, String.reduceEq, forall_const, ↓vmDA, vmVA, ↓vmQA, vmR, vmRA, ↓vmSA, vmSV, tyS, nuE, SubA.skip, SubA.refl, fr.2, vbScX, rsC, sc_rs]
    have w0 : Vm.look (cat [[(cb, scB lp lcap L q.2.1)], VB, B, Y, LB, A]) (ν 0) = none := fr.2 0
    have w1 : Vm.look (cat [[(cb, scB lp lcap L q.2.1)], VB, B, Y, LB, A]) (ν 1) = none := fr.2 1
    have h01 : (ν 0 = ν 1) = False := by simp [nuE]
    have sF : ∀ X o1 o2, SubA X (cat [[(cb, scB lp lcap L q.2.1)], VB, B, Y, LB, A]) → SubA X ((ν 1, o2) :: (ν 0, o1) :: cat [[(cb, scB lp lcap L q.2.1)], VB, B, Y, LB, A]) := fun X o1 o2 h => SubA.trans h (SubA.trans (SubA.fresh w0 (SubA.refl _)) (SubA.fresh (look_c1 h01 w1) (SubA.refl _)))
    refine RunA.use ?_
    refine append_src (m := 1) (news := rsC r) (B := VB) slc22 zro27 rfl (by decide) ho (sF VB _ _ (Sep.subs st2 [1] rfl)) (.inr ⟨ν 1, 0, rfl, by simp (maxDischargeDepth := 16) only [argE_nil, argE_cons, ↓vmD, vmV, vmStd, Nat.reduceMul, ↓reduceIte, Nat.reduceAdd, Nat.reduceSub, Nat.reduceEqDiff, Nat.reduceLT, Nat.reduceLeDiff, reduceCtorEq, Int.reduceToNat, Int.reduceLT, Int.reduceLE, Int.reduceEq, Int.reduceNeg, Int.reduceBEq, Int.reduceBNe, String.reduceEq, forall_const, ↓vmDA, vmVA, ↓vmQA, vmR, vmRA, ↓vmSA, vmSV, tyS, nuE, SubA.skip, SubA.refl, fr.2, vbScX, rsC]⟩) (by simp [rsC, Value.oneCell']) (by simp only [maxLen]; omega) (by omega) ?_
    intro v' VB' ho' hb'
    have ho2 := rs_app ho'
    have dO : Dis VB' (cat [[(cb, scB lp lcap L q.2.1)], B, Y, LB, A]) := ap_dis hb' (Sep.dis (Sep.pick st2 [1, 0, 2, 3, 4, 5] rfl rfl)) (sF _ _ _ (Sep.subs st2 [0, 2, 3, 4, 5] rfl))
    have st3 : Sep [VB', [(cb, scB lp lcap L q.2.1)], B, Y, LB, A] := Sep.cons dO (Sep.pick st2 [0, 2, 3, 4, 5] rfl rfl)
    refine ⟨cat [[(cb, scB lp lcap L q.2.1)], VB', B, Y, LB, A], SubA.trans (Sep.subs st3 [1, 0, 2, 3, 4, 5] rfl) (SubA.app (sF _ _ _ (Sep.subs st2 [0, 2, 3, 4, 5] rfl))), ?_⟩
    clear nuE fr w0 w1 h01 sF
    simp only [cat, List.cons_append, List.nil_append]
    intro ν fr; have nuE := And.intro (fr.mem (b := cb) (by simp)) (fr.nu)
    simp (maxDischargeDepth := 16) only [argE_nil, argE_cons, ↓vmD, vmV, vmStd, Nat.reduceMul, ↓reduceIte, Nat.reduceAdd, Nat.reduceSub, Nat.reduceEqDiff, Nat.reduceLT, Nat.reduceLeDiff, reduceCtorEq, Int.reduceToNat, Int.reduceLT, Int.reduceLE, Int.reduceEq, Int.reduceNeg, Int.reduceBEq, Int.reduceBNe, String.reduceEq, forall_const, ↓vmDA, vmVA, ↓vmQA, vmR, vmRA, ↓vmSA, vmSV, tyS, nuE, SubA.skip, SubA.refl, fr.2, vbScX]
    have dBY : Dis B Y := st3.2.2.1.1
    have st4 : Sep [[(cb, scB lp lcap L q.2.1)], VB', B ++ Y, LB, A] := by
      have h5 : Sep ([[(cb, scB lp lcap L q.2.1)], VB', LB, A] ++ [cat [B, Y]]) := Sep.coarse (a := [_, _, _, _]) (m := [B, Y]) (Sep.pick st3 [1, 0, 4, 5, 2, 3] rfl rfl)
      exact Sep.pick h5 [0, 1, 4, 2, 3] rfl rfl
    refine LoopA.at (A := cat [[(cb, scB lp lcap L q.2.1)], VB', B ++ Y, LB, A]) ?_ ?_
    · simp only [cat, List.cons_append, List.nil_append, List.append_assoc]
      exact SubA.refl _
    refine LoopA.weak (ih q.2.1 v' (F ++ [r]) VB' (B ++ Y) (by simp; omega) (by simp; omega) ho2 (fun z hz => ?_) hj st4 hR) (by simp only [subE, get_cons, Nat.reduceEqDiff, ↓reduceIte, reduceCtorEq, Nat.reduceAdd, and_self, and_true]) (SubA.refl _)
    rcases List.mem_append.1 hz with h | h
    · exact ⟨(hY z h).1.mono dBY.right, (hY z h).2⟩
    · simp at h
      subst h
      exact ⟨hrB.mono (SubA.left _ _), by rw [hrd]; exact b8, by rw [hrd]; exact c8⟩

end Go.Proofs.YtamiclgnehfhpaaDoor
