/-
The parser of fee tables: small functions, percentages, expressions, rules.
Conditions: none.
-/
import Derived.Test.YtfphceknmgadgaaDoorQi
import Derived.Test.YtfphceknmgadgaaDoorQh
set_option linter.unusedSimpArgs false
set_option linter.unusedVariables false
namespace Go.Proofs.YtfphceknmgadgaaDoor
open Go.Vm
set_option maxHeartbeats 2000000
set_option maxRecDepth 20000
theorem vbQj : type_of% (An @slIndexByte_v (An @indexByte_v (An @indexRune_v (An @containsRune_v (An @slHasPrefix_v (An @hasPrefix_v (An @classOf_v (An @isWordByte_v (An @wordAt_v (An @skip_v (An @number_v (An @literal_v (An @lexemeAt_v (An @isName_v (An @resV_v (An @fDigit_v (An @fInWord_v (An @aDig_v (An @aftV_v (An @fracV_v (An @frn_v (An @fallD_v (An @hund_v (An @hasS_v (An @cutL_v (An @cutS_v (An @idxP_v (An @cutI_v (An @cutV_v @ppV_v))))))))))))))))))))))))))))) := ⟨@slIndexByte_v, @indexByte_v, @indexRune_v, @containsRune_v, @slHasPrefix_v, @hasPrefix_v, @classOf_v, @isWordByte_v, @wordAt_v, @skip_v, @number_v, @literal_v, @lexemeAt_v, @isName_v, @resV_v, @fDigit_v, @fInWord_v, @aDig_v, @aftV_v, @fracV_v, @frn_v, @fallD_v, @hund_v, @hasS_v, @cutL_v, @cutS_v, @idxP_v, @cutI_v, @cutV_v, @ppV_v⟩
def fB (s pl : ByteArray) (lp : Option Addr) (n lcap i : Nat) (rv : Value) : Obj := .cells #[.string s, .string pl, .slice lp n lcap, .int .i64 (i : Int), rv] 47
def ffl (e at_ : Int) : List PanicEntry := [{ v := .iface 39 (.agg #[.int .i64 e, .int .i64 at_]), recovered := false }]
def FsT (pb : Nat) (s pl : ByteArray) (lp : Option Addr) (lcap : Nat) (L : List LR) (rv : Value) (i : Nat) (A : AH) : AH := (pb, fB s pl lp L.length lcap i rv) :: A
structure FsOk (pb : Nat) (s pl : ByteArray) (lp : Option Addr) (L : List LR) (A : AH) : Prop where
  np : Vm.look A pb = none
  hL : StR LR.cells 4 A lp L
  hl : L.length ≤ 100000
  he : EndL L
  sz : s.size = pl.size
  s4 : s.size ≤ 4000
  wf : ∀ (i : Nat) (x : LR), L[i]? = some x → x.k = 1 → nameF x.t = true
  po : ∀ (i j : Nat) (x y : LR), i ≤ j → L[i]? = some x → L[j]? = some y → x.a ≤ y.a ∧ y.a ≤ s.size ∧ (y.k ≠ 0 → y.a + 1 ≤ s.size)
theorem cc_ff : Tryd.prog.concrete 39 = true := by kernel_rfl
theorem FsOk.far {pb : Nat} {s pl : ByteArray} {lp : Option Addr} {lcap i : Nat} {L : List LR} {rv : Value} {A : AH} {n : Nat} (h : Vm.look (FsT pb s pl lp lcap L rv i A) n = none) : ((n = pb) = False) ∧ ((pb = n) = False) :=
  look_ne h (show Vm.look (FsT pb s pl lp lcap L rv i A) pb = some (fB s pl lp L.length lcap i rv) by simp [FsT, Vm.look])
theorem FsOk.mono {pb : Nat} {s pl : ByteArray} {lp : Option Addr} {L : List LR} {A B : AH} (h : FsOk pb s pl lp L A) (hs : SubA A B) (hn : Vm.look B pb = none) : FsOk pb s pl lp L B := ⟨hn, h.hL.mono hs, h.hl, h.he, h.sz, h.s4, h.wf, h.po⟩
theorem fpeek_h (pb : Nat) (s pl : ByteArray) (lp : Option Addr) (lcap : Nat) (L : List LR) (rv : Value) (A : AH) (hp : FsOk pb s pl lp L A) (i : Nat) (x : LR) (hx : L[i]? = some x) : CallA Tryd.prog 12 #[.pointer (some ⟨pb, 0, none⟩)] (FsT pb s pl lp lcap L rv i A) (fun u_ A_ => u_ = lexV x ∧ SubA (FsT pb s pl lp lcap L rv i A) A_) := by
  refine callA_of_denA ⟨Tryd.prog, 12, Tryd.f12, 13, [0, 2], ⟨[], none⟩, [(1, .p [(0, 0), (1, 0), (2, 0), (3, 0), (4, 0), (5, 0), (6, 0), (7, 0), (8, 0), (9, 0), (10, 2)])], _⟩ rfl (args := [_]) Tryd.func12 rfl (by kernel_rfl) Tryd.ntmps12 (by simp) (by kernel_rfl) ?_
  intro ν fr; have nuE := fr.nu
  have f0 := fr.2 0
  have hn := hp.np
  obtain ⟨m3, m4⟩ := FsOk.far f0
  obtain ⟨bk, off, cs, ty, fr0, hp0, hbk, hcr, hcc⟩ := hp.hL.at hx
  have hlt := (List.getElem?_eq_some_iff.1 hx).1
  have lt : ((L.length : Int) ≤ (i : Int)) = False := eq_false (by omega)
  have lt2 : ((i : Int) < (L.length : Int)) = True := eq_true (by omega)
  have li : ((i : Int) < 0) = False := eq_false (by omega)
  obtain ⟨n1, n2⟩ := look_ne hn hbk
  have hbk2 : Vm.look (FsT pb s pl lp lcap L rv i A) bk = some (.cells cs ty fr0) := by simp only [FsT, Vm.look, n1, if_false]; exact hbk
  obtain ⟨m1, m2⟩ := look_ne f0 hbk2
  simp only [LR.cells] at hcr
  simp only [FsT, fB, lexV]
  simp (maxDischargeDepth := 16) only [evN, ↓evP, simprocAttr, forall_const, nuE, fr.2, vbQj, lt, lt2, li, hp0, hbk, hcr, n1, n2, m1, m2, m3, m4]
  exact SubA.skip (look_c1 m4 ((SubA.skip hn (SubA.refl A)).none f0)) (SubA.refl _)
theorem fpeek_w (pb : Nat) (s pl : ByteArray) (lp : Option Addr) (lcap : Nat) (L : List LR) (rv : Value) (A : AH) (hp : FsOk pb s pl lp L A) (i : Nat) (x : LR) (hx : L[i]? = some x) (B_ : AH) (hB_ : SubA (FsT pb s pl lp lcap L rv i A) B_) : valA Tryd.prog 12 #[.pointer (some ⟨pb, 0, none⟩)] B_ = some (lexV x) := valA_eq (pureA_at (by kernel_rfl) (fpeek_h pb s pl lp lcap L rv A hp i x hx) hB_)
theorem fpeek_v (pb : Nat) (s pl : ByteArray) (lp : Option Addr) (lcap : Nat) (L : List LR) (rv : Value) (A : AH) (hp : FsOk pb s pl lp L A) (i : Nat) (x : LR) (hx : L[i]? = some x) : valA Tryd.prog 12 #[.pointer (some ⟨pb, 0, none⟩)] (FsT pb s pl lp lcap L rv i A) = some (lexV x) := valA_eq (pureA_at (by kernel_rfl) (fpeek_h pb s pl lp lcap L rv A hp i x hx) (SubA.refl _))
theorem ffail_h (pb : Nat) (s pl : ByteArray) (lp : Option Addr) (lcap : Nat) (L : List LR) (rv : Value) (A : AH) (hp : FsOk pb s pl lp L A) (i : Nat) (x : LR) (hx : L[i]? = some x) (e : Int) : CallE Tryd.prog 27 #[.pointer (some ⟨pb, 0, none⟩), .int .i64 e] (FsT pb s pl lp lcap L rv i A) (fun ch D => ch = ffl e (x.a : Int) ∧ SubA (FsT pb s pl lp lcap L rv i A) D) (fun u_ A_ => False) := by
  refine callE_of_denA ⟨Tryd.prog, 27, Tryd.f27, 10, [0, 1], ⟨[], some (fun ch D => ch = ffl e (x.a : Int) ∧ SubA (FsT pb s pl lp lcap L rv i A) D)⟩, [], _⟩ rfl (args := [_, _]) Tryd.func27 rfl (by kernel_rfl) Tryd.ntmps27 (by simp) (by kernel_rfl) ?_
  intro ν fr; have nuE := fr.nu
  have pk := fpeek_v pb s pl lp lcap L rv A hp i x hx
  simp only [FsT, fB, lexV, ffl] at pk ⊢
  simp (maxDischargeDepth := 16) only [evN, ↓evP, simprocAttr, forall_const, nuE, fr.2, vbQj, pk, cc_ff]
theorem fis_h (pb : Nat) (s pl : ByteArray) (lp : Option Addr) (lcap : Nat) (L : List LR) (rv : Value) (A : AH) (hp : FsOk pb s pl lp L A) (i : Nat) (x : LR) (hx : L[i]? = some x) (k : Int) (t : ByteArray) : CallA Tryd.prog 26 #[.pointer (some ⟨pb, 0, none⟩), .int .i64 k, .string t] (FsT pb s pl lp lcap L rv i A) (fun u_ A_ => u_ = .bool (isL x k t) ∧ SubA (FsT pb s pl lp lcap L rv i A) A_) := by
  refine callA_of_denA ⟨Tryd.prog, 26, Tryd.f26, 20, [0, 1, 2, 6, 7], ⟨[], none⟩, [], _⟩ rfl (args := [_, _, _]) Tryd.func26 rfl (by kernel_rfl) Tryd.ntmps26 (by simp) (by kernel_rfl) ?_
  intro ν fr; have nuE := fr.nu
  have f0 := fr.2 0
  have pk := fpeek_v pb s pl lp lcap L rv A hp i x hx
  obtain ⟨m3, m4⟩ := FsOk.far f0
  simp only [FsT, fB, lexV] at pk f0 ⊢
  by_cases h1 : x.k = k
  · have e1 : (x.k == k) = true := by simp [h1]
    by_cases h2 : x.t.toList = t.toList
    · have hb : isL x k t = true := by simp [isL, h1, h2]
      rw [hb]
      have e2 : (x.t.toList == t.toList) = true := by simp [h2]
      simp (maxDischargeDepth := 16) only [evN, ↓evP, simprocAttr, forall_const, nuE, fr.2, vbQj, pk, e1, e2, eq_true h1, eq_true h2, m3, m4]
      exact SubA.skip f0 (SubA.refl _)
    · have hb : isL x k t = false := by simp [isL, h1, h2]
      rw [hb]
      have e2 : (x.t.toList == t.toList) = false := by simp [h2]
      simp (maxDischargeDepth := 16) only [evN, ↓evP, simprocAttr, forall_const, nuE, fr.2, vbQj, pk, e1, e2, eq_true h1, eq_false h2, m3, m4]
      exact SubA.skip f0 (SubA.refl _)
  · have hb : isL x k t = false := by simp [isL, h1]
    rw [hb]
    have e1 : (x.k == k) = false := by simp [h1]
    simp (maxDischargeDepth := 16) only [evN, ↓evP, simprocAttr, forall_const, nuE, fr.2, vbQj, pk, e1, eq_false h1, m3, m4]
    exact SubA.skip f0 (SubA.refl _)
theorem fis_w (pb : Nat) (s pl : ByteArray) (lp : Option Addr) (lcap : Nat) (L : List LR) (rv : Value) (A : AH) (hp : FsOk pb s pl lp L A) (i : Nat) (x : LR) (hx : L[i]? = some x) (k : Int) (t : ByteArray) (B_ : AH) (hB_ : SubA (FsT pb s pl lp lcap L rv i A) B_) : valA Tryd.prog 26 #[.pointer (some ⟨pb, 0, none⟩), .int .i64 k, .string t] B_ = some (.bool (isL x k t)) := valA_eq (pureA_at (by kernel_rfl) (fis_h pb s pl lp lcap L rv A hp i x hx k t) hB_)
theorem fis_v (pb : Nat) (s pl : ByteArray) (lp : Option Addr) (lcap : Nat) (L : List LR) (rv : Value) (A : AH) (hp : FsOk pb s pl lp L A) (i : Nat) (x : LR) (hx : L[i]? = some x) (k : Int) (t : ByteArray) : valA Tryd.prog 26 #[.pointer (some ⟨pb, 0, none⟩), .int .i64 k, .string t] (FsT pb s pl lp lcap L rv i A) = some (.bool (isL x k t)) := valA_eq (pureA_at (by kernel_rfl) (fis_h pb s pl lp lcap L rv A hp i x hx k t) (SubA.refl _))
theorem fwe {L : List LR} {i : Nat} {x : LR} (hx : L[i]? = some x) (hl : L.length ≤ 100000) : IntKind.i64.wrap ((i : Int) + 1) = ((i + 1 : Nat) : Int) := by
  have hlt := (List.getElem?_eq_some_iff.1 hx).1
  rw [w_i64 (by omega) (by omega)]; omega
theorem faccept_h (pb : Nat) (s pl : ByteArray) (lp : Option Addr) (lcap : Nat) (L : List LR) (rv : Value) (A : AH) (hp : FsOk pb s pl lp L A) (i : Nat) (x : LR) (hx : L[i]? = some x) (k : Int) (t : ByteArray) : CallA Tryd.prog 32 #[.pointer (some ⟨pb, 0, none⟩), .int .i64 k, .string t] (FsT pb s pl lp lcap L rv i A) (fun u_ A_ => u_ = .bool (isL x k t) ∧ SubA (FsT pb s pl lp lcap L rv (if isL x k t = true then i + 1 else i) A) A_) := by
  refine callA_of_denA ⟨Tryd.prog, 32, Tryd.f32, 19, [0, 1, 2, 6], ⟨[], none⟩, [], _⟩ rfl (args := [_, _, _]) Tryd.func32 rfl (by kernel_rfl) Tryd.ntmps32 (by simp) (by kernel_rfl) ?_
  intro ν fr; have nuE := fr.nu
  have pk := fis_v pb s pl lp lcap L rv A hp i x hx k t
  have we := fwe hx hp.hl
  simp only [FsT, fB] at pk ⊢
  cases hb : isL x k t with
  | true =>
    rw [hb] at pk
    simp (maxDischargeDepth := 16) only [evN, ↓evP, simprocAttr, forall_const, nuE, fr.2, vbQj, pk, we]
  | false =>
    rw [hb] at pk
    simp (maxDischargeDepth := 16) only [evN, ↓evP, simprocAttr, forall_const, nuE, fr.2, vbQj, pk]
def FEr (L : List LR) (e : Int) (j : Nat) (ch : List PanicEntry) : Prop := ∃ x, L[j]? = some x ∧ ch = ffl e (x.a : Int)
theorem ffE (pb : Nat) (s pl : ByteArray) (lp : Option Addr) (lcap : Nat) (L : List LR) (rv : Value) (A : AH) (hp : FsOk pb s pl lp L A) (i : Nat) (x : LR) (hx : L[i]? = some x) (e : Int) {Y : AH} (hY : SubA (FsT pb s pl lp lcap L rv i A) Y) {X : List PanicEntry → AH → Prop} {K : Value → AH → Prop} (h : ∀ ch D, FEr L e i ch → X ch D) : CallE Tryd.prog 27 #[.pointer (some ⟨pb, 0, none⟩), .int .i64 e] Y X K :=
  CallE.useX (ffail_h pb s pl lp lcap L rv A hp i x hx e) hY [] (SubA.nil _) (fun x hx => absurd rfl hx) (fun ch D ⟨h1, h2⟩ _ => ⟨_, h2, h _ _ ⟨x, hx, h1⟩⟩) (fun v D h _ => h.elim)
theorem fexpect_h (pb : Nat) (s pl : ByteArray) (lp : Option Addr) (lcap : Nat) (L : List LR) (rv : Value) (A : AH) (hp : FsOk pb s pl lp L A) (i : Nat) (x : LR) (hx : L[i]? = some x) (k : Int) (t : ByteArray) : CallE Tryd.prog 28 #[.pointer (some ⟨pb, 0, none⟩), .int .i64 k, .string t] (FsT pb s pl lp lcap L rv i A) (fun ch D => isL x k t = false ∧ FEr L 2 i ch) (fun u_ A_ => isL x k t = true ∧ SubA (FsT pb s pl lp lcap L rv (i + 1) A) A_) := by
  refine callE_of_denA ⟨Tryd.prog, 28, Tryd.f28, 13, [0, 1, 2], ⟨[32, 27], some (fun ch D => isL x k t = false ∧ FEr L 2 i ch)⟩, [], _⟩ rfl (args := [_, _, _]) Tryd.func28 rfl (by kernel_rfl) Tryd.ntmps28 (by simp) (by kernel_rfl) ?_
  intro ν fr; have nuE := fr.nu
  simp only [FsT, fB]
  simp (maxDischargeDepth := 16) only [evN, ↓evP, simprocAttr, forall_const, nuE, fr.2, vbQj]
  refine CallE.of (CallA.put (faccept_h pb s pl lp lcap L rv A hp i x hx k t) (SubA.refl _) ?_)
  clear nuE fr
  simp only [fB]
  intro ν fr; have nuE := And.intro (fr.mem (b := pb) (by simp)) (fr.nu)
  cases hb : isL x k t with
  | true => simp (maxDischargeDepth := 16) only [evN, ↓evP, simprocAttr, forall_const, nuE, fr.2, vbQj]
  | false =>
    simp (maxDischargeDepth := 16) only [evN, ↓evP, simprocAttr, forall_const, nuE, fr.2, vbQj]
    exact ffE pb s pl lp lcap L rv A hp i x hx 2 (SubA.refl _) fun ch D h => h
theorem fnumber_h (pb : Nat) (s pl : ByteArray) (lp : Option Addr) (lcap : Nat) (L : List LR) (rv : Value) (A : AH) (hp : FsOk pb s pl lp L A) (i : Nat) (x : LR) (hx : L[i]? = some x) : CallE Tryd.prog 33 #[.pointer (some ⟨pb, 0, none⟩)] (FsT pb s pl lp lcap L rv i A) (fun ch D => x.k ≠ 2 ∧ FEr L 2 i ch) (fun u_ A_ => x.k = 2 ∧ u_ = .int .i64 x.n ∧ SubA (FsT pb s pl lp lcap L rv (i + 1) A) A_) := by
  refine callE_of_denA ⟨Tryd.prog, 33, Tryd.f33, 20, [0, 2, 3], ⟨[27], some (fun ch D => x.k ≠ 2 ∧ FEr L 2 i ch)⟩, [], _⟩ rfl (args := [_]) Tryd.func33 rfl (by kernel_rfl) Tryd.ntmps33 (by simp) (by kernel_rfl) ?_
  intro ν fr; have nuE := fr.nu
  have f0 := fr.2 0
  have pk := fpeek_v pb s pl lp lcap L rv A hp i x hx
  have we := fwe hx hp.hl
  obtain ⟨m3, m4⟩ := FsOk.far f0
  have s0 : ∀ o, SubA (FsT pb s pl lp lcap L rv i A) ((ν 0, o) :: FsT pb s pl lp lcap L rv i A) := fun o => SubA.skip f0 (SubA.refl _)
  have hA0 : Vm.look A (ν 0) = none := (SubA.skip hp.np (SubA.refl A)).none f0
  simp only [FsT, fB, lexV] at pk s0 ⊢
  by_cases h1 : x.k = 2
  · simp (maxDischargeDepth := 16) only [evN, ↓evP, simprocAttr, forall_const, nuE, fr.2, vbQj, pk, h1, m3, m4, we]
    exact SubA.skip (look_c1 m4 hA0) (SubA.refl _)
  · have e1 : (x.k != 2) = true := by simp [h1]
    simp (maxDischargeDepth := 16) only [evN, ↓evP, simprocAttr, forall_const, nuE, fr.2, vbQj, pk, e1, eq_false h1, m3, m4]
    exact ffE pb s pl lp lcap L rv A hp i x hx 2 (s0 _) fun ch D h => h
structure Fuv where
  nm : ByteArray
  w : Xr
  bps : Int
  fx : Int
  mn : Int
  mx : Int
def fuC (u : Fuv) : List Value := [.string u.nm, .int .i64 u.w.op, .string u.w.nm, .string u.w.tx, .int .i64 u.w.n, .slice u.w.p u.w.len u.w.cap, .int .i64 u.bps, .int .i64 u.fx, .int .i64 u.mn, .int .i64 u.mx]
theorem fuC_len (r : Fuv) : (fuC r).length = 10 := rfl
def hasV (nm : ByteArray) (l : List Fuv) : Bool := l.any fun u => decide (u.nm.toList = nm.toList)
theorem fname_h (pb : Nat) (s pl : ByteArray) (lp : Option Addr) (lcap : Nat) (L : List LR) (rp : Option Addr) (rcap : Nat) (rs : List Fuv) (A : AH) (hp : FsOk pb s pl lp L A) (i : Nat) (x : LR) (hx : L[i]? = some x) (hS : StR fuC 10 A rp rs) (hl : rs.length ≤ 1000000) : CallE Tryd.prog 29 #[.pointer (some ⟨pb, 0, none⟩)] (FsT pb s pl lp lcap L (.slice rp rs.length rcap) i A) (fun ch D => (fnB x = false ∧ FEr L 2 i ch) ∨ (fnB x = true ∧ hasV x.t rs = true ∧ FEr L 7 i ch)) (fun u_ A_ => (fnB x = true ∧ hasV x.t rs = false) ∧ u_ = .string x.t ∧ SubA (FsT pb s pl lp lcap L (.slice rp rs.length rcap) (i + 1) A) A_) := by
  refine callE_of_denA ⟨Tryd.prog, 29, Tryd.f29, 45, [0, 2, 3, 5, 22, 23, 24], ⟨[27], some (fun ch D => (fnB x = false ∧ FEr L 2 i ch) ∨ (fnB x = true ∧ hasV x.t rs = true ∧ FEr L 7 i ch))⟩, [], _⟩ rfl (args := [_]) Tryd.func29 rfl (by kernel_rfl) Tryd.ntmps29 (by simp) (by kernel_rfl) ?_
  intro ν fr; have nuE := fr.nu
  have f0 := fr.2 0
  have pk := fpeek_v pb s pl lp lcap L (.slice rp rs.length rcap) A hp i x hx
  have we := fwe hx hp.hl
  obtain ⟨m3, m4⟩ := FsOk.far f0
  have s0 : ∀ o, SubA (FsT pb s pl lp lcap L (.slice rp rs.length rcap) i A) ((ν 0, o) :: FsT pb s pl lp lcap L (.slice rp rs.length rcap) i A) := fun o => SubA.skip f0 (SubA.refl _)
  have hA0 : Vm.look A (ν 0) = none := (SubA.skip hp.np (SubA.refl A)).none f0
  simp only [FsT, fB, lexV] at pk s0 ⊢
  by_cases h1 : x.k = 1
  rotate_left
  · have hn : fnB x = false := by simp [fnB, h1]
    have e1 : (x.k != 1) = true := by simp [h1]
    simp (maxDischargeDepth := 16) only [evN, ↓evP, simprocAttr, forall_const, nuE, fr.2, vbQj, pk, e1, eq_false h1, m3, m4]
    exact ffE pb s pl lp lcap L _ A hp i x hx 2 (s0 _) fun ch D h => .inl ⟨hn, h⟩
  have hnf := hp.wf i x hx h1
  cases hr : reF x.t with
  | true =>
    have hn : fnB x = false := by simp [fnB, hr]
    simp (maxDischargeDepth := 16) only [evN, ↓evP, simprocAttr, forall_const, nuE, fr.2, vbQj, pk, hr, hnf, h1, m3, m4]
    exact ffE pb s pl lp lcap L _ A hp i x hx 2 (s0 _) fun ch D h => .inl ⟨hn, h⟩
  | false =>
    have hn : fnB x = true := by simp [fnB, h1, hr]
    simp (maxDischargeDepth := 16) only [evN, ↓evP, simprocAttr, forall_const, nuE, fr.2, vbQj, pk, hr, hnf, h1, m3, m4]
    have dst_ : True := (by simp [nuE]); generalize ν 0 = n1 at dst_  f0 m3 m4 hA0 s0 ⊢
    clear nuE fr
    obtain ⟨k, hk0, hkl, hno⟩ : ∃ k : Nat, k = 0 ∧ k ≤ rs.length ∧ hasV x.t (rs.take k) = false := ⟨0, rfl, by omega, rfl⟩
    rw [show (24, some (Value.int .i64 0)) = (24, some (Value.int .i64 (k : Int))) by rw [hk0]; rfl]
    clear hk0
    generalize hkm : rs.length - k = km
    induction km generalizing k with
    | zero =>
      have lt : ((k : Int) < (rs.length : Int)) = False := eq_false (by omega)
      have hno' : hasV x.t rs = false := by rw [← hno, List.take_of_length_le (by omega)]
      refine LoopA.intro (by kernel_rfl) ?_
      intro ν fr; have nuE := And.intro (fr.mem (b := n1) (by simp)) (And.intro (fr.mem (b := pb) (by simp)) (fr.nu))
      simp (maxDischargeDepth := 16) only [evN, ↓evP, simprocAttr, forall_const, nuE, fr.2, vbQj, lt, m3, m4, we]
      exact ⟨⟨hn, hno'⟩, SubA.skip (look_c1 m4 hA0) (SubA.refl _)⟩
    | succ km ihk =>
      obtain ⟨r, hr1⟩ : ∃ r, rs[k]? = some r := ⟨_, List.getElem?_eq_getElem (by omega)⟩
      obtain ⟨bq, offq, csq, tyq, frq, hq0, hbq, hcq, hcqc⟩ := hS.at hr1
      have lt : ((k : Int) < (rs.length : Int)) = True := eq_true (by omega)
      have li : ((k : Int) < 0) = False := eq_false (by omega)
      have wk : IntKind.i64.wrap ((k : Int) + 1) = ((k + 1 : Nat) : Int) := by rw [w_i64 (by omega) (by omega)]; omega
      obtain ⟨u1, u2⟩ := look_ne hp.np hbq
      obtain ⟨u3, u4⟩ := look_ne hA0 hbq
      simp only [fuC] at hcq
      subst hq0
      refine LoopA.intro (by kernel_rfl) ?_
      intro ν fr; have nuE := And.intro (fr.mem (b := n1) (by simp)) (And.intro (fr.mem (b := pb) (by simp)) (fr.nu))
      have g0 := fr.2 0
      have htk : rs.take (k + 1) = rs.take k ++ [r] := by rw [List.take_add_one, hr1]; rfl
      by_cases hs : r.nm.toList = x.t.toList
      · have hh : hasV x.t rs = true := by unfold hasV; rw [List.any_eq_true]; exact ⟨r, List.mem_of_getElem? hr1, by simp [hs]⟩
        simp (maxDischargeDepth := 16) only [evN, ↓evP, simprocAttr, forall_const, nuE, fr.2, vbQj, lt, li, wk, hbq, hcq, u1, u2, u3, u4, m3, m4, eq_true hs]
        exact ffE pb s pl lp lcap L _ A hp i x hx 7 (SubA.trans (s0 _) (SubA.skip g0 (SubA.refl _))) fun ch D h => .inr ⟨hn, hh, h⟩
      · simp (maxDischargeDepth := 16) only [evN, ↓evP, simprocAttr, forall_const, nuE, fr.2, vbQj, lt, li, wk, hbq, hcq, u1, u2, u3, u4, m3, m4, eq_false hs]
        exact LoopA.weak (ihk (k + 1) (by omega) (by rw [htk]; simp [hasV] at hno ⊢; exact ⟨hno, hs⟩) (by omega)) (by simp only [subE, get_cons, Nat.reduceEqDiff, ↓reduceIte, reduceCtorEq, Nat.reduceAdd, and_self, and_true]) (SubA.skip g0 (SubA.refl _))
end Go.Proofs.YtfphceknmgadgaaDoor
namespace Go.Vm
theorem CallE.par {P : Program} {g : FuncId} {args : Array Value} {E Y X : AH} {X0 Z : List PanicEntry → AH → Prop} {K0 K : Value → AH → Prop} (hc : CallE P g args E X0 K0) (hd : Dis E Y) (hX : Dis E X) (hYX : Dis Y X)
    (hx : ∀ ch D, X0 ch D → Z ch D) (hk : ∀ v D, K0 v D → Dis D (Y ++ X) → ∃ F, SubA F D ∧ K v (Y ++ (F ++ X))) : CallE P g args (Y ++ (E ++ X)) Z K := by
  refine CallE.to hc (SubA.trans (SubA.left E X) (Dis.appr hd.symm hYX).right) (Y ++ X) (SubA.app hX.right) (Dis.appr hd hX) (fun ch D h dD => ⟨D, SubA.left _ _, hx ch D h⟩) fun v D h dD => ?_
  obtain ⟨F, h1, h2⟩ := hk v D h dD
  exact ⟨_, SubA.both (SubA.trans (SubA.left Y X) dD.right) (SubA.both (SubA.trans h1 (SubA.left _ _)) (SubA.trans hYX.right dD.right)), h2⟩
end Go.Vm
namespace Go.Proofs.YtfphceknmgadgaaDoor
open Go.Vm
set_option maxHeartbeats 4000000
set_option maxRecDepth 20000
theorem fs_none {pb : Nat} {s pl : ByteArray} {lp : Option Addr} {lcap i j : Nat} {L : List LR} {rv rv' : Value} {A : AH} {n : Nat} (h : Vm.look (FsT pb s pl lp lcap L rv i A) n = none) : Vm.look (FsT pb s pl lp lcap L rv' j A) n = none := by
  simp only [FsT, Vm.look] at h ⊢
  split at h
  · cases h
  · rename_i e; rw [if_neg e]; exact h
theorem fs_base {pb : Nat} {s pl : ByteArray} {lp : Option Addr} {lcap i : Nat} {L : List LR} {rv : Value} {A : AH} (h : Vm.look A pb = none) : SubA A (FsT pb s pl lp lcap L rv i A) := SubA.skip h (SubA.refl _)
def PcX (s : ByteArray) (L : List LR) (i : Nat) (ch : List PanicEntry) : Prop := (((lxA L i).k ≠ 2) ∧ FEr L 2 i ch) ∨ ((lxA L i).k = 2 ∧ isL (lxA L (i + 1)) 4 ⟨#[37]⟩ = false ∧ FEr L 2 (i + 1) ch) ∨ ((lxA L i).k = 2 ∧ isL (lxA L (i + 1)) 4 ⟨#[37]⟩ = true ∧ ppF (s.extract (atA L i) (atA L (i + 1) + 1)).toList = none ∧ FEr L 2 i ch)
theorem fpercent_h (pb : Nat) (s pl : ByteArray) (lp : Option Addr) (lcap : Nat) (L : List LR) (rv : Value) (A : AH) (hp : FsOk pb s pl lp L A) (i : Nat) (x : LR) (hx : L[i]? = some x) : CallE Tryd.prog 31 #[.pointer (some ⟨pb, 0, none⟩)] (FsT pb s pl lp lcap L rv i A) (fun ch D => PcX s L i ch) (fun u_ A_ => ∃ b, ((lxA L i).k = 2 ∧ isL (lxA L (i + 1)) 4 ⟨#[37]⟩ = true ∧ ppF (s.extract (atA L i) (atA L (i + 1) + 1)).toList = some b) ∧ u_ = .int .i64 b ∧ SubA (FsT pb s pl lp lcap L rv (i + 2) A) A_) := by
  refine callE_of_denA ⟨Tryd.prog, 31, Tryd.f31, 44, [0, 2, 3, 4, 5], ⟨[33, 27], some (fun ch D => PcX s L i ch)⟩, [(5, .q false)], _⟩ rfl (args := [_]) Tryd.func31 rfl (by kernel_rfl) Tryd.ntmps31 (by simp) (by kernel_rfl) ?_
  intro ν fr; have nuE := fr.nu
  have f0 := fr.2 0
  have pk := fpeek_v pb s pl lp lcap L rv A hp i x hx
  obtain ⟨m3, m4⟩ := FsOk.far f0
  have elx := lxA_of hx
  have hA0 : Vm.look A (ν 0) = none := (SubA.skip hp.np (SubA.refl A)).none f0
  simp only [FsT, fB, lexV] at pk ⊢
  simp (maxDischargeDepth := 16) only [evN, ↓evP, simprocAttr, forall_const, nuE, fr.2, vbQj, pk, m3, m4]
  have dst_ : True := (by simp [nuE]); generalize ν 0 = n1 at dst_  f0 m3 m4 hA0 ⊢
  clear nuE fr
  refine CallE.own (Y := [(n1, _)]) (fnumber_h pb s pl lp lcap L rv A hp i x hx) (Dis.one f0).symm (fun ch D ⟨h1, h2⟩ => .inl ⟨by rw [elx]; exact h1, h2⟩) ?_
  rintro v D ⟨h1, rfl, hD⟩ dD
  refine ⟨_, hD, ?_⟩
  clear hD dD D
  have hlt : i + 1 < L.length := hp.he i x hx (by rw [h1]; decide)
  obtain ⟨y, hy, ely⟩ := at_of hlt
  have f1 := fs_none (j := i + 1) (rv' := rv) f0
  have is1 := fun o => fis_w pb s pl lp lcap L rv A hp (i + 1) y hy 4 ⟨#[37]⟩ ((n1, o) :: FsT pb s pl lp lcap L rv (i + 1) A) (SubA.fresh f1 (SubA.refl _))
  have pk2 := fun o => fpeek_w pb s pl lp lcap L rv A hp (i + 1) y hy ((n1, o) :: FsT pb s pl lp lcap L rv (i + 1) A) (SubA.fresh f1 (SubA.refl _))
  have we := fwe hy hp.hl
  have s1 : ∀ o, SubA (FsT pb s pl lp lcap L rv (i + 1) A) ((n1, o) :: FsT pb s pl lp lcap L rv (i + 1) A) := fun o => SubA.fresh f1 (SubA.refl _)
  have hkx : (lxA L i).k = 2 := by rw [elx]; exact h1
  cases hc : isL y 4 ⟨#[37]⟩ with
  | false =>
    rw [hc] at is1
    simp only [FsT, fB, lexV, List.cons_append, List.nil_append] at is1 s1 ⊢
    intro ν fr; have nuE := And.intro (fr.mem (b := n1) (by simp)) (And.intro (fr.mem (b := pb) (by simp)) (fr.nu))
    simp (maxDischargeDepth := 16) only [evN, ↓evP, simprocAttr, forall_const, nuE, fr.2, vbQj, is1]
    exact ffE pb s pl lp lcap L rv A hp (i + 1) y hy 2 (s1 _) fun ch D h => .inr (.inl ⟨hkx, by rw [ely]; exact hc, h⟩)
  | true =>
    rw [hc] at is1
    obtain ⟨p1, p2, p3⟩ := hp.po i (i + 1) x y (by omega) hx hy
    have p3 := p3 (by rw [isL_k hc]; decide)
    have h4 := hp.s4
    have wy : IntKind.i64.wrap ((y.a : Int) + 1) = ((y.a + 1 : Nat) : Int) := by rw [w_i64 (by omega) (by omega)]; omega
    have c1 : ((0 : Int) ≤ (x.a : Int)) = True := eq_true (by omega)
    have c2 : ((x.a : Int) ≤ ((y.a + 1 : Nat) : Int)) = True := eq_true (by omega)
    have c3 : (((y.a + 1 : Nat) : Int) ≤ (s.size : Int)) = True := eq_true (by omega)
    have hxs : (s.extract x.a (y.a + 1)).size ≤ 100000 := by rw [ByteArray.size_extract]; omega
    have pp := ppV_v (s.extract x.a (y.a + 1)) hxs
    have eat : (s.extract (atA L i) (atA L (i + 1) + 1)).toList = (s.extract x.a (y.a + 1)).toList := by unfold atA; rw [elx, ely]
    have hky : isL (lxA L (i + 1)) 4 ⟨#[37]⟩ = true := by rw [ely]; exact hc
    by_cases he : (ppR (s.extract x.a (y.a + 1)).toList).2 = 0
    · have he' : ((ppR (s.extract x.a (y.a + 1)).toList).2 != 0) = false := by simp [he]
      have hb : ppF (s.extract (atA L i) (atA L (i + 1) + 1)).toList = some (ppR (s.extract x.a (y.a + 1)).toList).1 := by rw [eat]; unfold ppF; rw [if_pos he]
      simp only [FsT, fB, lexV, List.cons_append, List.nil_append] at is1 pk2 s1 ⊢
      intro ν fr; have nuE := And.intro (fr.mem (b := n1) (by simp)) (And.intro (fr.mem (b := pb) (by simp)) (fr.nu))
      simp (maxDischargeDepth := 16) only [evN, ↓evP, simprocAttr, forall_const, nuE, fr.2, vbQj, is1, pk2, m3, m4, wy, c1, c2, c3, pp, he, he', we]
      exact ⟨_, ⟨hkx, hky, hb⟩, rfl, SubA.fresh (fs_none (j := i + 2) (rv' := rv) f1) (SubA.refl _)⟩
    · have he' : ((ppR (s.extract x.a (y.a + 1)).toList).2 != 0) = true := by simp [he]
      have hb : ppF (s.extract (atA L i) (atA L (i + 1) + 1)).toList = none := by rw [eat]; unfold ppF; rw [if_neg he]
      simp only [FsT, fB, lexV, List.cons_append, List.nil_append] at is1 pk2 s1 ⊢
      intro ν fr; have nuE := And.intro (fr.mem (b := n1) (by simp)) (And.intro (fr.mem (b := pb) (by simp)) (fr.nu))
      simp (maxDischargeDepth := 16) only [evN, ↓evP, simprocAttr, forall_const, nuE, fr.2, vbQj, is1, pk2, m3, m4, wy, c1, c2, c3, pp, eq_false he, he', we, cc_ff]
      exact .inr (.inr ⟨hkx, hky, hb, x, hx, rfl⟩)
end Go.Proofs.YtfphceknmgadgaaDoor
namespace Go.Proofs.YtfphceknmgadgaaDoor
open Go.Vm
set_option maxHeartbeats 4000000
set_option maxRecDepth 20000
theorem none_obj {A : AH} {b x : Nat} {o o' : Obj} (h : Vm.look ((b, o) :: A) x = none) : Vm.look ((b, o') :: A) x = none := by
  simp only [Vm.look] at h ⊢
  split at h
  · cases h
  · rename_i e; rw [if_neg e]; exact h
theorem scanG_at (s : ByteArray) : ∀ f i, i ≤ s.size → (scanG s f i).2.1 ≤ s.size := by
  intro f
  induction f with
  | zero => intro i _; simp [scanG]
  | succ f ih =>
    intro i hi
    by_cases h1 : s.size ≤ i
    · rw [scanG_end f h1]; exact Nat.zero_le _
    by_cases he : (lexR s i).e = 0
    rotate_left
    · rw [scanG_err f h1 he]; exact hi
    · obtain ⟨g1, g2⟩ := lexR_next s i (by omega) he
      rw [scanG_ok f h1 he rfl]
      exact ih _ (skN_end s _ g2)
theorem scanF_at (s : ByteArray) : (scanF s).2.1 ≤ s.size := by
  unfold scanF
  split
  · exact Nat.zero_le _
  · have := skN_le false s.toList
    rw [size_list] at this
    exact scanG_at s _ _ this
theorem scanF_le {s : ByteArray} (h0 : (scanF s).1 = 0) {j : Nat} {x : LR} (hx : (scanF s).2.2[j]? = some x) : x.a ≤ s.size := by
  obtain ⟨K, hK, hp⟩ := scan_K h0
  rw [hK] at hx
  rcases List.mem_append.1 (List.mem_of_getElem? hx) with h | h
  · have := (hp x h).2; omega
  · simp only [List.mem_singleton] at h; rw [h]; exact Nat.le_refl _
theorem pxo_at {s : ByteArray} {e : Int} {a : Nat} {t : Xs} (h : PxO s e a t) : a ≤ s.size := by
  cases h with
  | scan _ => exact scanF_at s
  | er h0 _ _ hx => exact scanF_le h0 hx
  | more h0 _ hx _ => exact scanF_le h0 hx
  | ok => exact Nat.zero_le _
theorem PxO.zero {s : ByteArray} {a : Nat} {t : Xs} (h : PxO s 0 a t) : a = 0 := by
  generalize he : (0 : Int) = e at h
  cases h with
  | scan h0 => exact absurd he.symm h0
  | er _ h0 => exact absurd he.symm h0
  | more => cases he
  | ok => rfl
theorem fexpr_h (pb : Nat) (s pl : ByteArray) (lp : Option Addr) (lcap : Nat) (L : List LR) (rv : Value) (A : AH) (hp : FsOk pb s pl lp L A) (i : Nat) (hi : i < L.length) : CallE Tryd.prog 30 #[.pointer (some ⟨pb, 0, none⟩)] (FsT pb s pl lp lcap L rv i A) (fun ch D => ∃ e a t, PxO (pl.extract (atA L i) (atA L (exJ L i))) e a t ∧ e ≠ 0 ∧ ch = ffl e ((atA L i + a : Nat) : Int)) (fun u_ A_ => ∃ t r A', PxO (pl.extract (atA L i) (atA L (exJ L i))) 0 0 t ∧ u_ = xrV r ∧ ExR A' t r ∧ SubA A A' ∧ Vm.look A' pb = none ∧ exJ L i < L.length ∧ SubA (FsT pb s pl lp lcap L rv (exJ L i) A') A_) := by
  refine callE_of_denA ⟨Tryd.prog, 30, Tryd.f30, 49, [0, 2, 3, 4, 5, 6], ⟨[45], some (fun ch D => ∃ e a t, PxO (pl.extract (atA L i) (atA L (exJ L i))) e a t ∧ e ≠ 0 ∧ ch = ffl e ((atA L i + a : Nat) : Int))⟩, [], _⟩ rfl (args := [_]) Tryd.func30 rfl (by kernel_rfl) Tryd.ntmps30 (by simp) (by kernel_rfl) ?_
  intro ν fr; have nuE := fr.nu
  have f0 := fr.2 0
  obtain ⟨x, hx, elx⟩ := at_of hi
  have s0 : ∀ o, SubA (FsT pb s pl lp lcap L rv i A) ((ν 0, o) :: FsT pb s pl lp lcap L rv i A) := fun o => SubA.fresh f0 (SubA.refl _)
  have pk := fun o => fpeek_w pb s pl lp lcap L rv A hp i x hx ((ν 0, o) :: FsT pb s pl lp lcap L rv i A) (s0 o)
  obtain ⟨m3, m4⟩ := FsOk.far f0
  have hA0 : Vm.look A (ν 0) = none := (SubA.skip hp.np (SubA.refl A)).none f0
  have eat : atA L i = x.a := by unfold atA; rw [elx]
  obtain ⟨j, hj0, hj, hij, hex⟩ : ∃ j, j = i ∧ j < L.length ∧ i ≤ j ∧ exE L (L.length - j) j = exJ L i := ⟨i, rfl, hi, by omega, rfl⟩
  simp only [FsT, fB, lexV] at pk ⊢
  simp (maxDischargeDepth := 16) only [evN, ↓evP, simprocAttr, forall_const, nuE, fr.2, vbQj, pk, m3, m4]
  have dst_ : True := (by simp [nuE]); generalize ν 0 = n2 at dst_  f0 m3 m4 hA0 ⊢
  clear nuE fr pk s0
  have f1 : Vm.look (FsT pb s pl lp lcap L rv j A) n2 = none := fs_none f0
  refine LoopA.at (A := (n2, zX) :: FsT pb s pl lp lcap L rv j A) (by rw [hj0]; exact SubA.refl _) ?_
  clear hj0 f0
  generalize hm : L.length - j = m at hex
  induction m generalizing j with
  | zero => omega
  | succ m ih =>
    obtain ⟨y, hy, ely⟩ := at_of hj
    have s1 : ∀ o, SubA (FsT pb s pl lp lcap L rv j A) ((n2, o) :: FsT pb s pl lp lcap L rv j A) := fun o => SubA.fresh f1 (SubA.refl _)
    have pk := fun o => fpeek_w pb s pl lp lcap L rv A hp j y hy ((n2, o) :: FsT pb s pl lp lcap L rv j A) (s1 o)
    have is1 := fun o => fis_w pb s pl lp lcap L rv A hp j y hy 4 ⟨#[58]⟩ ((n2, o) :: FsT pb s pl lp lcap L rv j A) (s1 o)
    have we := fwe hy hp.hl
    simp only [exE] at hex
    by_cases hk : y.k = 0
    · have hk' : (y.k != 0) = false := by simp [hk]
      rw [if_pos (.inl (by rw [ely]; exact hk))] at hex
      simp only [FsT, fB, lexV, zX] at pk is1 ⊢
      refine LoopA.intro (by kernel_rfl) ?_
      intro ν fr; have nuE := And.intro (fr.mem (b := n2) (by simp)) (And.intro (fr.mem (b := pb) (by simp)) (fr.nu))
      simp (maxDischargeDepth := 16) only [evN, ↓evP, simprocAttr, forall_const, nuE, fr.2, vbQj, pk, hk, hk', m3, m4]
      obtain ⟨p1, p2, p3⟩ := hp.po i j x y hij hx hy
      have h4 := hp.s4
      have hsz := hp.sz
      have c2 : ((x.a : Int) ≤ (y.a : Int)) = True := eq_true (by omega)
      have c3 : ((y.a : Int) ≤ (pl.size : Int)) = True := eq_true (by omega)
      have hxs : (pl.extract x.a y.a).size ≤ 100000 := by rw [ByteArray.size_extract]; omega
      have eay : atA L (exJ L i) = y.a := by unfold atA; rw [← hex, ely]
      have hexl : exJ L i < L.length := by rw [← hex]; exact hj
      have esx : pl.extract (atA L i) (atA L (exJ L i)) = pl.extract x.a y.a := by rw [eat, eay]
      have wa : ∀ (e : Int) (a : Nat) (t : Xs), PxO (pl.extract x.a y.a) e a t → IntKind.i64.wrap ((x.a : Int) + (a : Int)) = ((x.a + a : Nat) : Int) := fun e a t h => by
        have := pxo_at h
        rw [ByteArray.size_extract] at this
        rw [w_i64 (by omega) (by omega)]; omega
      clear nuE fr
      refine MeantA.tree [15] (.one 0 0 (.one 1 0 (.one 2 0 (.one 3 0 (.one 4 0 (.one 5 0 (.one 6 0 (.one 7 0 (.one 8 0 (.two 9 1 (.one 10 0 (.one 11 0 (.one 12 0 (.one 13 0 (.one 14 1 (.one 15 2 (.one 16 0 (.one 17 0 .nil)))))))) 14 0 (.one 9 1 (.one 10 0 (.one 11 0 (.one 12 0 (.one 13 0 (.one 15 2 (.one 16 0 (.one 17 0 .nil)))))))))))))))))) _ (SubA.refl _) (by kernel_rfl) (by kernel_rfl) (by kernel_rfl) (by kernel_rfl) (by kernel_rfl) ?_
      intro ν fr; have nuE := And.intro (fr.mem (b := n2) (by simp)) (And.intro (fr.mem (b := pb) (by simp)) (fr.nu))
      simp (maxDischargeDepth := 16) only [evN, ↓evP, simprocAttr, forall_const, nuE, fr.2, vbQj, tA_nil, tA_one, tA_two, pk, m3, m4, c2, c3]
      refine ⟨?_, ?_⟩
      · refine CallE.own (Y := [(n2, _), (pb, _)]) (CallE.of (X := fun _ _ => False) (parX_h A (pl.extract x.a y.a) hxs)) (dis2 hA0 hp.np) (fun ch D h => h.elim) ?_
        rintro v D ⟨_, B, rfl, ⟨e, a, t, r, hP, rfl, hr⟩, hBA, hD⟩ dD
        refine ⟨B ++ A, hD, ?_⟩
        have dB := dD.subl hD
        have gB : Vm.look (B ++ A) n2 = none := dB n2 (by simp [Vm.look])
        have gp : Vm.look (B ++ A) pb = none := dB pb (by simp [Vm.look, m3])
        clear hD dD D nuE fr
        simp only [List.cons_append, List.nil_append, xrV]
        intro ν fr; have nuE := And.intro (fr.mem (b := n2) (by simp)) (And.intro (fr.mem (b := pb) (by simp)) (fr.nu))
        have g4 := fr.2 0
        simp (maxDischargeDepth := 16) only [evN, ↓evP, simprocAttr, forall_const, nuE, fr.2, vbQj, tA_nil, tA_one, tA_two, m3, m4, xrC]
        refine ⟨SubA.app (B := [_, _]) hBA.right, ?_⟩
        split
        · rename_i he
          refine ⟨cc_ff, e, a, t, by rw [esx]; exact hP, he, ?_⟩
          rw [wa e a t hP, eat]; rfl
        · rename_i he
          have he0 : e = 0 := by simpa using he
          subst he0
          obtain rfl := hP.zero
          refine ⟨t, r, B ++ A, by rw [esx]; exact hP, rfl, hr.mono (SubA.left _ _), hBA.right, gp, hexl, ?_⟩
          rw [← hex]
          exact SubA.skip ((SubA.skip (look_c1 m4 gB) (SubA.refl _)).none g4) (SubA.skip (look_c1 m4 gB) (SubA.refl _))
      · have f4 := fr.2 0
        have m5 : (ν 0 = n2) = False := (look_ne f4 (show Vm.look ((n2, zX) :: FsT pb s pl lp lcap L rv j A) n2 = some zX by simp [Vm.look])).1
        have m6 : (n2 = ν 0) = False := (look_ne f4 (show Vm.look ((n2, zX) :: FsT pb s pl lp lcap L rv j A) n2 = some zX by simp [Vm.look])).2
        have m7 : (ν 0 = pb) = False := (look_ne f4 (show Vm.look ((n2, zX) :: FsT pb s pl lp lcap L rv j A) pb = some (fB s pl lp L.length lcap j rv) by simp [FsT, Vm.look, m3])).1
        have m8 : (pb = ν 0) = False := (look_ne f4 (show Vm.look ((n2, zX) :: FsT pb s pl lp lcap L rv j A) pb = some (fB s pl lp L.length lcap j rv) by simp [FsT, Vm.look, m3])).2
        have g4A : Vm.look A (ν 0) = none := (show SubA A ((n2, zX) :: FsT pb s pl lp lcap L rv j A) from SubA.fresh f1 (fs_base hp.np)).none f4
        have dst_ : True := (by simp [nuE]); generalize ν 0 = n4 at dst_  f4 m5 m6 m7 m8 g4A ⊢
        refine CallE.own (Y := [(n4, _), (n2, _), (pb, _)]) (CallE.of (X := fun _ _ => False) (parX_h A (pl.extract x.a y.a) hxs)) (dis3 g4A hA0 hp.np) (fun ch D h => h.elim) ?_
        rintro v D ⟨_, B, rfl, ⟨e, a, t, r, hP, rfl, hr⟩, hBA, hD⟩ dD
        refine ⟨B ++ A, hD, ?_⟩
        have dB := dD.subl hD
        have gB4 : Vm.look (B ++ A) n4 = none := dB n4 (by simp [Vm.look])
        have gB : Vm.look (B ++ A) n2 = none := dB n2 (by simp [Vm.look, m5])
        have gp : Vm.look (B ++ A) pb = none := dB pb (by simp [Vm.look, m3, m7])
        clear hD dD D nuE fr
        simp only [List.cons_append, List.nil_append, xrV]
        intro ν fr; have nuE := And.intro (fr.mem (b := n4) (by simp)) (And.intro (fr.mem (b := n2) (by simp)) (And.intro (fr.mem (b := pb) (by simp)) (fr.nu)))
        simp (maxDischargeDepth := 16) only [evN, ↓evP, simprocAttr, forall_const, nuE, fr.2, vbQj, tA_nil, tA_one, tA_two, m3, m4, m5, m6, m7, m8, xrC]
        refine ⟨SubA.skip (look_c1 m6 (look_c1 m8 g4A)) (SubA.app (B := [_, _]) hBA.right), ?_⟩
        split
        · rename_i he
          refine ⟨cc_ff, e, a, t, by rw [esx]; exact hP, he, ?_⟩
          rw [wa e a t hP, eat]; rfl
        · rename_i he
          have he0 : e = 0 := by simpa using he
          subst he0
          obtain rfl := hP.zero
          refine ⟨t, r, B ++ A, by rw [esx]; exact hP, rfl, hr.mono (SubA.left _ _), hBA.right, gp, hexl, ?_⟩
          rw [← hex]
          exact SubA.skip (look_c1 m8 gB4) (SubA.skip (look_c1 m4 gB) (SubA.refl _))
    have hk' : (y.k != 0) = true := by simp [hk]
    cases hc : isL y 4 ⟨#[58]⟩ with
    | true =>
      rw [if_pos (.inr (by rw [ely]; exact hc))] at hex
      rw [hc] at is1
      simp only [FsT, fB, lexV, zX] at pk is1 ⊢
      refine LoopA.intro (by kernel_rfl) ?_
      intro ν fr; have nuE := And.intro (fr.mem (b := n2) (by simp)) (And.intro (fr.mem (b := pb) (by simp)) (fr.nu))
      simp (maxDischargeDepth := 16) only [evN, ↓evP, simprocAttr, forall_const, nuE, fr.2, vbQj, pk, is1, eq_false hk, hk', m3, m4]
      obtain ⟨p1, p2, p3⟩ := hp.po i j x y hij hx hy
      have h4 := hp.s4
      have hsz := hp.sz
      have c2 : ((x.a : Int) ≤ (y.a : Int)) = True := eq_true (by omega)
      have c3 : ((y.a : Int) ≤ (pl.size : Int)) = True := eq_true (by omega)
      have hxs : (pl.extract x.a y.a).size ≤ 100000 := by rw [ByteArray.size_extract]; omega
      have eay : atA L (exJ L i) = y.a := by unfold atA; rw [← hex, ely]
      have hexl : exJ L i < L.length := by rw [← hex]; exact hj
      have esx : pl.extract (atA L i) (atA L (exJ L i)) = pl.extract x.a y.a := by rw [eat, eay]
      have wa : ∀ (e : Int) (a : Nat) (t : Xs), PxO (pl.extract x.a y.a) e a t → IntKind.i64.wrap ((x.a : Int) + (a : Int)) = ((x.a + a : Nat) : Int) := fun e a t h => by
        have := pxo_at h
        rw [ByteArray.size_extract] at this
        rw [w_i64 (by omega) (by omega)]; omega
      clear nuE fr
      refine MeantA.tree [15] (.one 0 0 (.one 1 0 (.one 2 0 (.one 3 0 (.one 4 0 (.one 5 0 (.one 6 0 (.one 7 0 (.one 8 0 (.two 9 1 (.one 10 0 (.one 11 0 (.one 12 0 (.one 13 0 (.one 14 1 (.one 15 2 (.one 16 0 (.one 17 0 .nil)))))))) 14 0 (.one 9 1 (.one 10 0 (.one 11 0 (.one 12 0 (.one 13 0 (.one 15 2 (.one 16 0 (.one 17 0 .nil)))))))))))))))))) _ (SubA.refl _) (by kernel_rfl) (by kernel_rfl) (by kernel_rfl) (by kernel_rfl) (by kernel_rfl) ?_
      intro ν fr; have nuE := And.intro (fr.mem (b := n2) (by simp)) (And.intro (fr.mem (b := pb) (by simp)) (fr.nu))
      simp (maxDischargeDepth := 16) only [evN, ↓evP, simprocAttr, forall_const, nuE, fr.2, vbQj, tA_nil, tA_one, tA_two, pk, m3, m4, c2, c3]
      refine ⟨?_, ?_⟩
      · refine CallE.own (Y := [(n2, _), (pb, _)]) (CallE.of (X := fun _ _ => False) (parX_h A (pl.extract x.a y.a) hxs)) (dis2 hA0 hp.np) (fun ch D h => h.elim) ?_
        rintro v D ⟨_, B, rfl, ⟨e, a, t, r, hP, rfl, hr⟩, hBA, hD⟩ dD
        refine ⟨B ++ A, hD, ?_⟩
        have dB := dD.subl hD
        have gB : Vm.look (B ++ A) n2 = none := dB n2 (by simp [Vm.look])
        have gp : Vm.look (B ++ A) pb = none := dB pb (by simp [Vm.look, m3])
        clear hD dD D nuE fr
        simp only [List.cons_append, List.nil_append, xrV]
        intro ν fr; have nuE := And.intro (fr.mem (b := n2) (by simp)) (And.intro (fr.mem (b := pb) (by simp)) (fr.nu))
        have g4 := fr.2 0
        simp (maxDischargeDepth := 16) only [evN, ↓evP, simprocAttr, forall_const, nuE, fr.2, vbQj, tA_nil, tA_one, tA_two, m3, m4, xrC]
        refine ⟨SubA.app (B := [_, _]) hBA.right, ?_⟩
        split
        · rename_i he
          refine ⟨cc_ff, e, a, t, by rw [esx]; exact hP, he, ?_⟩
          rw [wa e a t hP, eat]; rfl
        · rename_i he
          have he0 : e = 0 := by simpa using he
          subst he0
          obtain rfl := hP.zero
          refine ⟨t, r, B ++ A, by rw [esx]; exact hP, rfl, hr.mono (SubA.left _ _), hBA.right, gp, hexl, ?_⟩
          rw [← hex]
          exact SubA.skip ((SubA.skip (look_c1 m4 gB) (SubA.refl _)).none g4) (SubA.skip (look_c1 m4 gB) (SubA.refl _))
      · have f4 := fr.2 0
        have m5 : (ν 0 = n2) = False := (look_ne f4 (show Vm.look ((n2, zX) :: FsT pb s pl lp lcap L rv j A) n2 = some zX by simp [Vm.look])).1
        have m6 : (n2 = ν 0) = False := (look_ne f4 (show Vm.look ((n2, zX) :: FsT pb s pl lp lcap L rv j A) n2 = some zX by simp [Vm.look])).2
        have m7 : (ν 0 = pb) = False := (look_ne f4 (show Vm.look ((n2, zX) :: FsT pb s pl lp lcap L rv j A) pb = some (fB s pl lp L.length lcap j rv) by simp [FsT, Vm.look, m3])).1
        have m8 : (pb = ν 0) = False := (look_ne f4 (show Vm.look ((n2, zX) :: FsT pb s pl lp lcap L rv j A) pb = some (fB s pl lp L.length lcap j rv) by simp [FsT, Vm.look, m3])).2
        have g4A : Vm.look A (ν 0) = none := (show SubA A ((n2, zX) :: FsT pb s pl lp lcap L rv j A) from SubA.fresh f1 (fs_base hp.np)).none f4
        have dst_ : True := (by simp [nuE]); generalize ν 0 = n4 at dst_  f4 m5 m6 m7 m8 g4A ⊢
        refine CallE.own (Y := [(n4, _), (n2, _), (pb, _)]) (CallE.of (X := fun _ _ => False) (parX_h A (pl.extract x.a y.a) hxs)) (dis3 g4A hA0 hp.np) (fun ch D h => h.elim) ?_
        rintro v D ⟨_, B, rfl, ⟨e, a, t, r, hP, rfl, hr⟩, hBA, hD⟩ dD
        refine ⟨B ++ A, hD, ?_⟩
        have dB := dD.subl hD
        have gB4 : Vm.look (B ++ A) n4 = none := dB n4 (by simp [Vm.look])
        have gB : Vm.look (B ++ A) n2 = none := dB n2 (by simp [Vm.look, m5])
        have gp : Vm.look (B ++ A) pb = none := dB pb (by simp [Vm.look, m3, m7])
        clear hD dD D nuE fr
        simp only [List.cons_append, List.nil_append, xrV]
        intro ν fr; have nuE := And.intro (fr.mem (b := n4) (by simp)) (And.intro (fr.mem (b := n2) (by simp)) (And.intro (fr.mem (b := pb) (by simp)) (fr.nu)))
        simp (maxDischargeDepth := 16) only [evN, ↓evP, simprocAttr, forall_const, nuE, fr.2, vbQj, tA_nil, tA_one, tA_two, m3, m4, m5, m6, m7, m8, xrC]
        refine ⟨SubA.skip (look_c1 m6 (look_c1 m8 g4A)) (SubA.app (B := [_, _]) hBA.right), ?_⟩
        split
        · rename_i he
          refine ⟨cc_ff, e, a, t, by rw [esx]; exact hP, he, ?_⟩
          rw [wa e a t hP, eat]; rfl
        · rename_i he
          have he0 : e = 0 := by simpa using he
          subst he0
          obtain rfl := hP.zero
          refine ⟨t, r, B ++ A, by rw [esx]; exact hP, rfl, hr.mono (SubA.left _ _), hBA.right, gp, hexl, ?_⟩
          rw [← hex]
          exact SubA.skip (look_c1 m8 gB4) (SubA.skip (look_c1 m4 gB) (SubA.refl _))
    | false =>
      rw [if_neg (by rw [ely]; unfold colB; rw [hc]; simp [hk])] at hex
      rw [hc] at is1
      simp only [FsT, fB, lexV, zX] at pk is1 ⊢
      refine LoopA.intro (by kernel_rfl) ?_
      intro ν fr; have nuE := And.intro (fr.mem (b := n2) (by simp)) (And.intro (fr.mem (b := pb) (by simp)) (fr.nu))
      simp (maxDischargeDepth := 16) only [evN, ↓evP, simprocAttr, forall_const, nuE, fr.2, vbQj, pk, is1, eq_false hk, hk', m3, m4, we]
      exact LoopA.weak (ih (j + 1) (hp.he j y hy hk) (by omega) (fs_none f1) (by omega) hex) (by simp only [subE, get_cons, Nat.reduceEqDiff, ↓reduceIte, reduceCtorEq, Nat.reduceAdd, and_self, and_true]) (SubA.refl _)
end Go.Proofs.YtfphceknmgadgaaDoor
namespace Go.Proofs.YtfphceknmgadgaaDoor
open Go.Vm
set_option maxHeartbeats 4000000
set_option maxRecDepth 20000
theorem join1E {a : Prop} [Decidable a] {F : Prop} {P : Program} {f : FuncId} {args : Array Value} {M : AH} {X : List PanicEntry → AH → Prop} {K : Nu → Nat → Value → AH → Prop} (Rel : AH → Prop) (key : ∀ M1, Rel M1 → CallSE P f args M1 X K) (ht : a → (∀ M1, Rel M1 → CallSE P f args M1 X K) → F) (he : ¬ a → Rel M) : if a then F else CallSE P f args M X K := by
  by_cases ha : a
  · rw [if_pos ha]; exact ht ha key
  · rw [if_neg ha]; exact key _ (he ha)
def FuR (A : AH) (u : Fu) (r : Fuv) : Prop := r.nm = u.nm ∧ ExR A u.w r.w ∧ r.bps = u.bps ∧ r.fx = u.fx ∧ r.mn = u.mn ∧ r.mx = u.mx
theorem FuR.mono {A B : AH} {u : Fu} {r : Fuv} (h : FuR A u r) (hs : SubA A B) : FuR B u r := ⟨h.1, h.2.1.mono hs, h.2.2⟩
theorem hasV_eq (nm : ByteArray) : ∀ {rs : List Fuv} {us : List Fu}, rs.map Fuv.nm = us.map Fu.nm → hasV nm rs = hasF_ nm us
  | [], [], _ => rfl
  | [], u :: us, h => by simp at h
  | r :: rs, [], h => by simp at h
  | r :: rs, u :: us, h => by
    simp only [List.map_cons, List.cons.injEq] at h
    have := hasV_eq nm h.2
    simp only [hasV, hasF_, List.any_cons, h.1] at this ⊢
    rw [this]
def FuX (s pl : ByteArray) (L : List LR) (us : List Fu) (i : Nat) (ch : List PanicEntry) : Prop := ∃ e a, FuE s pl L us i e a ∧ ch = ffl e (a : Int)
theorem FuX.of {s pl : ByteArray} {L : List LR} {us : List Fu} {i j : Nat} {e : Int} {ch : List PanicEntry} (h : FEr L e j ch) (hu : FuE s pl L us i e (atA L j)) : FuX s pl L us i ch := by
  obtain ⟨x, h1, h2⟩ := h
  refine ⟨e, _, hu, ?_⟩
  rw [h2]; unfold atA; rw [lxA_of h1]
theorem sc_f1 (a b c d e f g h i j : Value) : sliceCells Tryd.prog 24 1 [(0, .agg #[a, b, c, d, e, f, g, h, i, j])] = some (36, #[a, b, c, d, e, f, g, h, i, j]) := by kernel_rfl
theorem fuT_go {s : ByteArray} {L : List LR} {j : Nat} {b : Int} (h1 : colB (lxA L j) = true) (h2 : (lxA L (j + 1)).k = 2) (h3 : isL (lxA L (j + 1 + 1)) 4 ⟨#[37]⟩ = true) (h4 : ppF (s.extract (atA L (j + 1)) (atA L (j + 1 + 1) + 1)).toList = some b) : fuT s L j = match opN L 4 ⟨#[43]⟩ (j + 3) with
    | .error e => .error e
    | .ok (fx, k) => match opN L 1 minB k with
      | .error e => .error e
      | .ok (mn, k2) => match opN L 1 maxB k2 with
        | .error e => .error e
        | .ok (mx, k3) => if isL (lxA L k3) 4 ⟨#[59]⟩ = false then .error k3 else .ok ((b, fx, mn, mx), k3 + 1) := by
  unfold fuT
  rw [if_neg (by rw [h1]; simp), if_neg (by simp [h2]), if_neg (by rw [show j + 2 = j + 1 + 1 from rfl, h3]; simp), show j + 2 = j + 1 + 1 from rfl, h4]
  rfl
theorem dis_obj {B X : AH} {b : Nat} {o u : Obj} (h : Dis B ((b, o) :: X)) : Dis B ((b, u) :: X) := fun x hx => h x fun e => hx (none_obj e)
theorem fs_dis {pb : Nat} {s pl : ByteArray} {lp : Option Addr} {lcap i j : Nat} {L : List LR} {rv rv' : Value} {A B : AH} (h : Dis (FsT pb s pl lp lcap L rv i A) B) : Dis (FsT pb s pl lp lcap L rv' j A) B := fun x hx => fs_none (h x hx)
theorem frule_h (pb : Nat) (s pl : ByteArray) (lp : Option Addr) (lcap : Nat) (L : List LR) (A : AH) (hp : FsOk pb s pl lp L A) (i : Nat) (hi : i < L.length) (us : List Fu) (rs : List Fuv) (v0 : Value) (B : AH) (ho : OwnL fuC 10 36 v0 B rs) (hl : rs.length ≤ 1000) (hnm : rs.map Fuv.nm = us.map Fu.nm) (dB : Dis B (FsT pb s pl lp lcap L v0 i A)) : CallE Tryd.prog 13 #[.pointer (some ⟨pb, 0, none⟩)] (FsT pb s pl lp lcap L v0 i (A ++ B)) (fun ch D => FuX s pl L us i ch) (fun u_ A_ => ∃ u j r A' v' B', FuO s pl L us i u j ∧ OwnL fuC 10 36 v' B' (rs ++ [r]) ∧ FuR A' u r ∧ j < L.length ∧ SubA A A' ∧ FsOk pb s pl lp L A' ∧ Dis B' (FsT pb s pl lp lcap L v' j A') ∧ SubA (FsT pb s pl lp lcap L v' j (A' ++ B')) A_) := by
  refine callE_of_denA ⟨Tryd.prog, 13, Tryd.f13, 57, [0, 2], ⟨[27, 28, 29, 30, 31, 32, 33], some (fun ch D => FuX s pl L us i ch)⟩, [], _⟩ rfl (args := [_]) Tryd.func13 rfl (by kernel_rfl) Tryd.ntmps13 (by simp) (by kernel_rfl) ?_
  intro ν fr; have nuE := fr.nu
  obtain ⟨p, cap, rfl, hc1, hS⟩ := OwnL.read (f := fuC) (n := 10) fuC_len ho
  have hlen : rs.length = us.length := by have := congrArg List.length hnm; simpa using this
  obtain ⟨x0, hx0, e0⟩ := at_of hi
  have hBp : Vm.look B pb = none := dB pb (by simp [FsT, Vm.look])
  have hpB : FsOk pb s pl lp L (A ++ B) := hp.mono (SubA.left A B) (look_app_none hp.np hBp)
  have dBA : Dis B A := Dis.subr dB (fs_base hp.np)
  have hSB : StR fuC 10 (A ++ B) p rs := hS.mono dBA.symm.right
  have is0 := fis_v pb s pl lp lcap L (.slice p rs.length cap) (A ++ B) hpB i x0 hx0 1 ⟨#[102, 101, 101]⟩
  have c1 : ((64 : Int) ≤ (rs.length : Int)) = (64 ≤ us.length) := propext (by omega)
  have hfee : isL x0 1 feeB = isL (lxA L i) 1 feeB := by rw [e0]
  simp only [FsT, fB] at is0 ⊢
  by_cases hbig : 64 ≤ us.length ∧ isL x0 1 feeB = true
  · rw [show isL x0 1 ⟨#[102, 101, 101]⟩ = true from hbig.2] at is0
    simp (maxDischargeDepth := 16) only [evN, ↓evP, simprocAttr, forall_const, nuE, fr.2, vbQj, is0, c1, eq_true hbig.1]
    exact ffE pb s pl lp lcap L _ (A ++ B) hpB i x0 hx0 3 (SubA.refl _) fun ch D h => .of h (.h (by unfold fuH; rw [e0, if_pos hbig]))
  have EXP := fun (X : List PanicEntry → AH → Prop) (hX : ∀ ch D, FuX s pl L us i ch → X ch D) => (fexpect_h pb s pl lp lcap L (.slice p rs.length cap) (A ++ B) hpB i x0 hx0 1 feeB).mono (X' := X) (fun ch D ⟨h1, h2⟩ => hX ch D (.of h2 (.h (by unfold fuH; rw [e0, if_neg hbig, if_pos h1])))) fun v D h => h
  cases hf0 : isL x0 1 ⟨#[102, 101, 101]⟩ with
  | false =>
    rw [hf0] at is0
    simp (maxDischargeDepth := 16) only [evN, ↓evP, simprocAttr, forall_const, nuE, fr.2, vbQj, is0]
    exact (EXP _ fun ch D h => h).mono (fun ch D h => h) fun v D h => absurd h.1 (by rw [show isL x0 1 feeB = false from hf0]; simp)
  | true =>
    rw [hf0] at is0
    have c2 : (64 ≤ us.length) = False := eq_false fun h => hbig ⟨h, hf0⟩
    simp (maxDischargeDepth := 16) only [evN, ↓evP, simprocAttr, forall_const, nuE, fr.2, vbQj, is0, c1, c2]
    refine CallE.own (Y := []) (EXP _ fun ch D h => h) (Dis.nil _).symm (fun ch D h => h) ?_
    rintro v D ⟨_, hD⟩ dD
    refine ⟨_, hD, ?_⟩
    clear hD dD D nuE fr is0 EXP
    have hi1 : i + 1 < L.length := hp.he i x0 hx0 (by rw [isL_k hf0]; decide)
    obtain ⟨x1, hx1, e1⟩ := at_of hi1
    simp only [FsT, fB, List.cons_append, List.nil_append]
    intro ν fr; have nuE := And.intro (fr.mem (b := pb) (by simp)) (fr.nu)
    have f2 : Vm.look (FsT pb s pl lp lcap L (.slice p rs.length cap) (i + 1) (A ++ B)) (ν 0) = none := fr.2 0
    obtain ⟨m3, m4⟩ := FsOk.far f2
    simp (maxDischargeDepth := 16) only [evN, ↓evP, simprocAttr, forall_const, nuE, fr.2, vbQj, m3, m4]
    have dst_ : True := (by simp [nuE]); generalize ν 0 = n2 at dst_  f2 m3 m4 ⊢
    clear nuE fr
    have fT := hasV_eq (nm := x1.t) hnm
    refine CallE.own (Y := [(n2, _)]) (fname_h pb s pl lp lcap L p cap rs (A ++ B) hpB (i + 1) x1 hx1 hSB (by omega)) (Dis.one (fs_none f2)).symm (fun ch D h => by
      rcases h with ⟨h1, h2⟩ | ⟨h1, h3, h2⟩
      · exact .of h2 (.h (by unfold fuH; rw [e0, if_neg hbig, if_neg (by rw [show isL x0 1 feeB = true from hf0]; simp), e1, if_pos h1]))
      · exact .of h2 (.h (by unfold fuH; rw [e0, if_neg hbig, if_neg (by rw [show isL x0 1 feeB = true from hf0]; simp), e1, if_neg (by rw [h1]; simp), if_pos (by rw [← fT]; exact h3)]))) ?_
    rintro v D ⟨⟨hN, hNo⟩, rfl, hD⟩ dD
    refine ⟨_, hD, ?_⟩
    clear hD dD D
    have hi2 : i + 2 < L.length := hp.he (i + 1) x1 hx1 (by unfold fnB at hN; simp only [Bool.and_eq_true, decide_eq_true_eq] at hN; rw [hN.1]; decide)
    obtain ⟨x2, hx2, e2⟩ := at_of hi2
    simp only [FsT, fB, List.cons_append, List.nil_append]
    intro ν fr; have nuE := And.intro (fr.mem (b := n2) (by simp)) (And.intro (fr.mem (b := pb) (by simp)) (fr.nu))
    simp (maxDischargeDepth := 16) only [evN, ↓evP, simprocAttr, forall_const, nuE, fr.2, vbQj, m3, m4]
    clear nuE fr
    refine CallE.own (Y := [(n2, _)]) (fexpect_h pb s pl lp lcap L (.slice p rs.length cap) (A ++ B) hpB (i + 2) x2 hx2 1 ⟨#[119, 104, 101, 110]⟩) (Dis.one (fs_none f2)).symm (fun ch D ⟨h1, h2⟩ => .of h2 (.h (by unfold fuH; rw [e0, if_neg hbig, if_neg (by rw [show isL x0 1 feeB = true from hf0]; simp), e1, if_neg (by rw [hN]; simp), if_neg (by rw [← fT, hNo]; simp), e2, if_pos h1]))) ?_
    rintro v D ⟨hW, hD⟩ dD
    refine ⟨_, hD, ?_⟩
    clear hD dD D
    have hH : fuH L us i = none := by unfold fuH; rw [e0, if_neg hbig, if_neg (by rw [show isL x0 1 feeB = true from hf0]; simp), e1, if_neg (by rw [hN]; simp), if_neg (by rw [← fT, hNo]; simp), e2, if_neg (by rw [hW]; simp)]
    have hi3 : i + 3 < L.length := hp.he (i + 2) x2 hx2 (by rw [isL_k hW]; decide)
    have f2A : Vm.look (FsT pb s pl lp lcap L (.slice p rs.length cap) (i + 3) A) n2 = none := (SubA.left (FsT pb s pl lp lcap L (.slice p rs.length cap) (i + 3) A) B).none (fs_none f2)
    have f2B : Vm.look B n2 = none := (Dis.right (show Dis (FsT pb s pl lp lcap L (.slice p rs.length cap) (i + 3) A) B from fs_dis dB.symm)).none (fs_none f2)
    simp only [FsT, fB, List.cons_append, List.nil_append]
    intro ν fr; have nuE := And.intro (fr.mem (b := n2) (by simp)) (And.intro (fr.mem (b := pb) (by simp)) (fr.nu))
    simp (maxDischargeDepth := 16) only [evN, ↓evP, simprocAttr, forall_const, nuE, fr.2, vbQj, m3, m4]
    clear nuE fr
    refine CallE.par (Y := [(n2, _)]) (E := FsT pb s pl lp lcap L (.slice p rs.length cap) (i + 3) A) (X := B) (fexpr_h pb s pl lp lcap L (.slice p rs.length cap) A hp (i + 3) hi3) (Dis.one f2A).symm (fs_dis dB.symm) (Dis.one f2B) (fun ch D ⟨e, a, t, h1, h2, h3⟩ => ⟨e, atA L (i + 3) + a, .x hH h1 h2, h3⟩) ?_
    rintro v D ⟨t, w, A2, hq, rfl, hw, hs2, hn2, hj, hD⟩ dD
    refine ⟨_, hD, ?_⟩
    obtain ⟨j, ej⟩ : ∃ j, exJ L (i + 3) = j := ⟨_, rfl⟩
    rw [ej] at hj hD ⊢
    have gE : Vm.look (FsT pb s pl lp lcap L (.slice p rs.length cap) j A2) n2 = none := hD.none (dD n2 (by simp [Vm.look]))
    have dE : Dis (FsT pb s pl lp lcap L (.slice p rs.length cap) j A2) B := Dis.subr (dD.subl hD) (show SubA B ((n2, _) :: B) from SubA.skip f2B (SubA.refl _))
    clear hD dD D
    have hp2 : FsOk pb s pl lp L A2 := hp.mono hs2 hn2
    have dA2 : Dis A2 B := fun x hx => (fs_base (lp := lp) (s := s) (pl := pl) (lcap := lcap) (L := L) (rv := (.slice p rs.length cap)) (i := j) hn2).none (dE x hx)
    have hpC : FsOk pb s pl lp L (A2 ++ B) := hp2.mono (SubA.left A2 B) (look_app_none hn2 hBp)
    have gC : Vm.look (FsT pb s pl lp lcap L (.slice p rs.length cap) j (A2 ++ B)) n2 = none := by
      have : Vm.look (FsT pb s pl lp lcap L (.slice p rs.length cap) j A2 ++ B) n2 = none := look_app_none gE f2B
      exact this
    obtain ⟨x3, hx3, e3⟩ := at_of hj
    have hS0 : exS pl L i = pl.extract (atA L (i + 3)) (atA L j) := by unfold exS; rw [ej]
    rw [ej, ← hS0] at hq
    have fE : ∀ {k : Nat}, fuT s L j = .error k → FuE s pl L us i 2 (atA L k) := fun h => .t hH hq (by rw [ej]; exact h)
    simp only [FsT, fB, List.cons_append, List.nil_append, xrV, xrC]
    intro ν fr; have nuE := And.intro (fr.mem (b := n2) (by simp)) (And.intro (fr.mem (b := pb) (by simp)) (fr.nu))
    simp (maxDischargeDepth := 16) only [evN, ↓evP, simprocAttr, forall_const, nuE, fr.2, vbQj, m3, m4]
    clear nuE fr
    refine CallE.own (Y := [(n2, _)]) (fexpect_h pb s pl lp lcap L (.slice p rs.length cap) (A2 ++ B) hpC j x3 hx3 4 ⟨#[58]⟩) (Dis.one (fs_none gC)).symm (fun ch D ⟨h1, h2⟩ => .of h2 (fE (by unfold fuT; rw [e3, if_pos (show colB x3 = false from h1)]))) ?_
    rintro v D ⟨hC, hD⟩ dD
    refine ⟨_, hD, ?_⟩
    clear hD dD D
    have hj1 : j + 1 < L.length := hp.he j x3 hx3 (by rw [isL_k hC]; decide)
    obtain ⟨x4, hx4, e4⟩ := at_of hj1
    have hCL : colB (lxA L j) = true := by rw [e3]; exact hC
    simp only [FsT, fB, List.cons_append, List.nil_append]
    intro ν fr; have nuE := And.intro (fr.mem (b := n2) (by simp)) (And.intro (fr.mem (b := pb) (by simp)) (fr.nu))
    simp (maxDischargeDepth := 16) only [evN, ↓evP, simprocAttr, forall_const, nuE, fr.2, vbQj, m3, m4]
    clear nuE fr
    refine CallE.own (Y := [(n2, _)]) (fpercent_h pb s pl lp lcap L (.slice p rs.length cap) (A2 ++ B) hpC (j + 1) x4 hx4) (Dis.one (fs_none gC)).symm (fun ch D h => by
      rcases h with ⟨h1, h2⟩ | ⟨h1, h3, h2⟩ | ⟨h1, h3, h4, h2⟩
      · exact .of h2 (fE (by unfold fuT; rw [if_neg (by rw [hCL]; simp), if_pos h1]))
      · exact .of h2 (fE (by unfold fuT; rw [if_neg (by rw [hCL]; simp), if_neg (by simp [h1]), if_pos h3]))
      · exact .of h2 (fE (by unfold fuT; rw [if_neg (by rw [hCL]; simp), if_neg (by simp [h1]), if_neg (by rw [show j + 2 = j + 1 + 1 from rfl, h3]; simp), show j + 2 = j + 1 + 1 from rfl, h4]))) ?_
    rintro v D ⟨b, ⟨hP1, hP2, hP3⟩, rfl, hD⟩ dD
    refine ⟨_, hD, ?_⟩
    clear hD dD D
    have hT := fuT_go hCL hP1 hP2 hP3
    have hj3 : j + 3 < L.length := by
      have h2 : j + 2 < L.length := hp.he (j + 1) x4 hx4 (by rw [← e4, hP1]; decide)
      obtain ⟨y, hy, ey⟩ := at_of h2
      exact hp.he (j + 2) y hy (by rw [← ey, isL_k hP2]; decide)
    clear hx3 hx4 e3 e4 hC
    obtain ⟨k0, ek0⟩ : ∃ k0, j + 3 = k0 := ⟨_, rfl⟩
    rw [show j + 1 + 2 = j + 3 from rfl, ek0]
    rw [ek0] at hj3 hT
    obtain ⟨y0, hy0, ey0⟩ := at_of hj3
    simp only [FsT, fB, List.cons_append, List.nil_append]
    intro ν fr; have nuE := And.intro (fr.mem (b := n2) (by simp)) (And.intro (fr.mem (b := pb) (by simp)) (fr.nu))
    simp (maxDischargeDepth := 16) only [evN, ↓evP, simprocAttr, forall_const, nuE, fr.2, vbQj, m3, m4]
    clear nuE fr
    refine CallE.own (Y := [(n2, _)]) (CallE.of (X := fun _ _ => False) (faccept_h pb s pl lp lcap L (.slice p rs.length cap) (A2 ++ B) hpC k0 y0 hy0 4 ⟨#[43]⟩)) (Dis.one (fs_none gC)).symm (fun ch D h => h.elim) ?_
    rintro v D ⟨rfl, hD⟩ dD
    refine ⟨_, hD, ?_⟩
    clear hD dD D
    obtain ⟨z, hz⟩ : ∃ z, (if isL y0 4 ⟨#[43]⟩ = true then k0 + 1 else k0) = z := ⟨_, rfl⟩
    rw [hz]
    simp only [FsT, fB, List.cons_append, List.nil_append]
    intro ν fr; have nuE := And.intro (fr.mem (b := n2) (by simp)) (And.intro (fr.mem (b := pb) (by simp)) (fr.nu))
    simp (maxDischargeDepth := 16) only [evN, ↓evP, simprocAttr, forall_const, nuE, fr.2, vbQj, m3, m4]
    clear nuE fr
    refine join1E (fun M1 => ∃ k1 fx, opN L 4 ⟨#[43]⟩ k0 = .ok (fx, k1) ∧ k1 < L.length ∧ M1 = [(n2, Obj.cells #[.string x1.t, .int .i64 w.op, .string w.nm, .string w.tx, .int .i64 w.n, .slice w.p w.len w.cap, .int .i64 b, .int .i64 fx, .int .i64 0, .int .i64 0] 36)] ++ FsT pb s pl lp lcap L (.slice p rs.length cap) k1 (A2 ++ B)) ?_ ?_ ?_
    rotate_left
    · intro ht key
      rw [if_pos ht] at hz
      subst hz
      have hk1 : k0 + 1 < L.length := hp.he k0 y0 hy0 (by rw [isL_k ht]; decide)
      obtain ⟨yy, hyy, eyy⟩ := at_of hk1
      have htL : isL (lxA L k0) 4 ⟨#[43]⟩ = true := by rw [ey0]; exact ht
      refine CallE.own (Y := [(n2, _)]) (fnumber_h pb s pl lp lcap L (.slice p rs.length cap) (A2 ++ B) hpC (k0 + 1) yy hyy) (Dis.one (fs_none gC)).symm (fun ch D ⟨h1, h2⟩ => .of h2 (fE (by
        have hop : opN L 4 ⟨#[43]⟩ k0 = .error (k0 + 1) := by unfold opN; rw [if_pos htL, if_neg (by rw [eyy]; exact h1)]
        rw [hT]; simp only [hop]))) ?_
      rintro v D ⟨h1, rfl, hD⟩ dD
      refine ⟨_, hD, ?_⟩
      clear hD dD D
      have ky := key _ ⟨k0 + 1 + 1, yy.n, by unfold opN; rw [if_pos htL, eyy, if_pos h1], hp.he _ yy hyy (by rw [h1]; decide), rfl⟩
      clear key
      simp only [FsT, fB, List.cons_append, List.nil_append] at ky ⊢
      intro ν fr; have nuE := And.intro (fr.mem (b := n2) (by simp)) (And.intro (fr.mem (b := pb) (by simp)) (fr.nu))
      simp (maxDischargeDepth := 16) only [evN, ↓evP, simprocAttr, forall_const, nuE, fr.2, vbQj, m3, m4]
      exact ky
    · intro hn
      rw [if_neg hn] at hz
      subst hz
      exact ⟨k0, 0, by unfold opN; rw [if_neg (by rw [ey0]; exact hn)], hj3, rfl⟩
    rintro _ ⟨k1, fx, hop0, hkl, rfl⟩
    clear hz z hj3
    have hj3 := hkl
    clear hkl
    obtain ⟨y1, hy1, ey1⟩ := at_of hj3
    simp only [FsT, fB, List.cons_append, List.nil_append]
    refine CallE.own (Y := [(n2, _)]) (CallE.of (X := fun _ _ => False) (faccept_h pb s pl lp lcap L (.slice p rs.length cap) (A2 ++ B) hpC k1 y1 hy1 1 minB)) (Dis.one (fs_none gC)).symm (fun ch D h => h.elim) ?_
    rintro v D ⟨rfl, hD⟩ dD
    refine ⟨_, hD, ?_⟩
    clear hD dD D
    obtain ⟨z, hz⟩ : ∃ z, (if isL y1 1 minB = true then k1 + 1 else k1) = z := ⟨_, rfl⟩
    rw [hz]
    simp only [FsT, fB, List.cons_append, List.nil_append]
    intro ν fr; have nuE := And.intro (fr.mem (b := n2) (by simp)) (And.intro (fr.mem (b := pb) (by simp)) (fr.nu))
    simp (maxDischargeDepth := 16) only [evN, ↓evP, simprocAttr, forall_const, nuE, fr.2, vbQj, m3, m4]
    clear nuE fr
    refine join1E (fun M1 => ∃ k2 mn, opN L 1 minB k1 = .ok (mn, k2) ∧ k2 < L.length ∧ M1 = [(n2, Obj.cells #[.string x1.t, .int .i64 w.op, .string w.nm, .string w.tx, .int .i64 w.n, .slice w.p w.len w.cap, .int .i64 b, .int .i64 fx, .int .i64 mn, .int .i64 0] 36)] ++ FsT pb s pl lp lcap L (.slice p rs.length cap) k2 (A2 ++ B)) ?_ ?_ ?_
    rotate_left
    · intro ht key
      rw [if_pos ht] at hz
      subst hz
      have hk1 : k1 + 1 < L.length := hp.he k1 y1 hy1 (by rw [isL_k ht]; decide)
      obtain ⟨yy, hyy, eyy⟩ := at_of hk1
      have htL : isL (lxA L k1) 1 minB = true := by rw [ey1]; exact ht
      refine CallE.own (Y := [(n2, _)]) (fnumber_h pb s pl lp lcap L (.slice p rs.length cap) (A2 ++ B) hpC (k1 + 1) yy hyy) (Dis.one (fs_none gC)).symm (fun ch D ⟨h1, h2⟩ => .of h2 (fE (by
        have hop : opN L 1 minB k1 = .error (k1 + 1) := by unfold opN; rw [if_pos htL, if_neg (by rw [eyy]; exact h1)]
        rw [hT]; simp only [hop0, hop]))) ?_
      rintro v D ⟨h1, rfl, hD⟩ dD
      refine ⟨_, hD, ?_⟩
      clear hD dD D
      have ky := key _ ⟨k1 + 1 + 1, yy.n, by unfold opN; rw [if_pos htL, eyy, if_pos h1], hp.he _ yy hyy (by rw [h1]; decide), rfl⟩
      clear key
      simp only [FsT, fB, List.cons_append, List.nil_append] at ky ⊢
      intro ν fr; have nuE := And.intro (fr.mem (b := n2) (by simp)) (And.intro (fr.mem (b := pb) (by simp)) (fr.nu))
      simp (maxDischargeDepth := 16) only [evN, ↓evP, simprocAttr, forall_const, nuE, fr.2, vbQj, m3, m4]
      exact ky
    · intro hn
      rw [if_neg hn] at hz
      subst hz
      exact ⟨k1, 0, by unfold opN; rw [if_neg (by rw [ey1]; exact hn)], hj3, rfl⟩
    rintro _ ⟨k2, mn, hop1, hkl, rfl⟩
    clear hz z hj3
    have hj3 := hkl
    clear hkl
    obtain ⟨y2, hy2, ey2⟩ := at_of hj3
    simp only [FsT, fB, List.cons_append, List.nil_append]
    refine CallE.own (Y := [(n2, _)]) (CallE.of (X := fun _ _ => False) (faccept_h pb s pl lp lcap L (.slice p rs.length cap) (A2 ++ B) hpC k2 y2 hy2 1 maxB)) (Dis.one (fs_none gC)).symm (fun ch D h => h.elim) ?_
    rintro v D ⟨rfl, hD⟩ dD
    refine ⟨_, hD, ?_⟩
    clear hD dD D
    obtain ⟨z, hz⟩ : ∃ z, (if isL y2 1 maxB = true then k2 + 1 else k2) = z := ⟨_, rfl⟩
    rw [hz]
    simp only [FsT, fB, List.cons_append, List.nil_append]
    intro ν fr; have nuE := And.intro (fr.mem (b := n2) (by simp)) (And.intro (fr.mem (b := pb) (by simp)) (fr.nu))
    simp (maxDischargeDepth := 16) only [evN, ↓evP, simprocAttr, forall_const, nuE, fr.2, vbQj, m3, m4]
    clear nuE fr
    refine join1E (fun M1 => ∃ k3 mx, opN L 1 maxB k2 = .ok (mx, k3) ∧ k3 < L.length ∧ M1 = [(n2, Obj.cells #[.string x1.t, .int .i64 w.op, .string w.nm, .string w.tx, .int .i64 w.n, .slice w.p w.len w.cap, .int .i64 b, .int .i64 fx, .int .i64 mn, .int .i64 mx] 36)] ++ FsT pb s pl lp lcap L (.slice p rs.length cap) k3 (A2 ++ B)) ?_ ?_ ?_
    rotate_left
    · intro ht key
      rw [if_pos ht] at hz
      subst hz
      have hk1 : k2 + 1 < L.length := hp.he k2 y2 hy2 (by rw [isL_k ht]; decide)
      obtain ⟨yy, hyy, eyy⟩ := at_of hk1
      have htL : isL (lxA L k2) 1 maxB = true := by rw [ey2]; exact ht
      refine CallE.own (Y := [(n2, _)]) (fnumber_h pb s pl lp lcap L (.slice p rs.length cap) (A2 ++ B) hpC (k2 + 1) yy hyy) (Dis.one (fs_none gC)).symm (fun ch D ⟨h1, h2⟩ => .of h2 (fE (by
        have hop : opN L 1 maxB k2 = .error (k2 + 1) := by unfold opN; rw [if_pos htL, if_neg (by rw [eyy]; exact h1)]
        rw [hT]; simp only [hop0, hop1, hop]))) ?_
      rintro v D ⟨h1, rfl, hD⟩ dD
      refine ⟨_, hD, ?_⟩
      clear hD dD D
      have ky := key _ ⟨k2 + 1 + 1, yy.n, by unfold opN; rw [if_pos htL, eyy, if_pos h1], hp.he _ yy hyy (by rw [h1]; decide), rfl⟩
      clear key
      simp only [FsT, fB, List.cons_append, List.nil_append] at ky ⊢
      intro ν fr; have nuE := And.intro (fr.mem (b := n2) (by simp)) (And.intro (fr.mem (b := pb) (by simp)) (fr.nu))
      simp (maxDischargeDepth := 16) only [evN, ↓evP, simprocAttr, forall_const, nuE, fr.2, vbQj, m3, m4]
      exact ky
    · intro hn
      rw [if_neg hn] at hz
      subst hz
      exact ⟨k2, 0, by unfold opN; rw [if_neg (by rw [ey2]; exact hn)], hj3, rfl⟩
    rintro _ ⟨k3, mx, hop2, hkl, rfl⟩
    clear hz z hj3
    have hj3 := hkl
    clear hkl
    obtain ⟨y3, hy3, ey3⟩ := at_of hj3
    simp only [FsT, fB, List.cons_append, List.nil_append]
    refine CallE.own (Y := [(n2, _)]) (fexpect_h pb s pl lp lcap L (.slice p rs.length cap) (A2 ++ B) hpC k3 y3 hy3 4 ⟨#[59]⟩) (Dis.one (fs_none gC)).symm (fun ch D ⟨h1, h2⟩ => .of h2 (fE (by rw [hT]; simp only [hop0, hop1, hop2]; rw [ey3, if_pos h1]))) ?_
    rintro v D ⟨hE, hD⟩ dD
    refine ⟨_, hD, ?_⟩
    clear hD dD D
    have hj4 : k3 + 1 < L.length := hp.he k3 y3 hy3 (by rw [isL_k hE]; decide)
    have hTO : fuT s L j = .ok ((b, fx, mn, mx), k3 + 1) := by rw [hT]; simp only [hop0, hop1, hop2]; rw [ey3, if_neg (by rw [hE]; simp)]
    have hO : FuO s pl L us i ⟨(lxA L (i + 1)).t, t, b, fx, mn, mx⟩ (k3 + 1) := .ok hH hq (by rw [ej]; exact hTO)
    simp only [FsT, fB, List.cons_append, List.nil_append]
    intro ν fr; have nuE := And.intro (fr.mem (b := n2) (by simp)) (And.intro (fr.mem (b := pb) (by simp)) (fr.nu))
    simp (maxDischargeDepth := 16) only [evN, ↓evP, simprocAttr, forall_const, nuE, fr.2, vbQj, m3, m4]
    refine MeantA.plan [(0, 0), (1, 0), (2, 0), (3, 0), (4, 0), (5, 0), (6, 0), (7, 1), (8, 0), (9, 0), (10, 2)] [(n2, Obj.cells #[.string x1.t, .int .i64 w.op, .string w.nm, .string w.tx, .int .i64 w.n, .slice w.p w.len w.cap, .int .i64 b, .int .i64 fx, .int .i64 mn, .int .i64 mx] 36), (pb, fB s pl lp L.length lcap (k3 + 1) (.slice p rs.length cap))] (SubA.left [_, _] _) (by kernel_rfl) (by kernel_rfl) (by kernel_rfl) (by kernel_rfl) (by kernel_rfl) (by kernel_rfl) ?_
    clear nuE fr
    simp only [fB]
    intro ν fr; have nuE := And.intro (fr.mem (b := n2) (by simp)) (And.intro (fr.mem (b := pb) (by simp)) (fr.nu))
    have g7 : Vm.look ((n2, Obj.cells #[.string x1.t, .int .i64 w.op, .string w.nm, .string w.tx, .int .i64 w.n, .slice w.p w.len w.cap, .int .i64 b, .int .i64 fx, .int .i64 mn, .int .i64 mx] 36) :: FsT pb s pl lp lcap L (.slice p rs.length cap) (k3 + 1) (A2 ++ B)) (ν 0) = none := fr.2 0
    simp (maxDischargeDepth := 16) only [evN, ↓evP, simprocAttr, forall_const, nuE, fr.2, vbQj, m3, m4, sc_f1]
    have dst_ : True := (by simp [nuE]); generalize ν 0 = n7 at dst_  g7 ⊢
    clear nuE fr
    have r0 : FuR A2 ⟨(lxA L (i + 1)).t, t, b, fx, mn, mx⟩ ⟨x1.t, w, b, fx, mn, mx⟩ := ⟨by rw [e1], hw, rfl, rfl, rfl, rfl⟩
    have sW : SubA ((n2, Obj.cells #[.string x1.t, .int .i64 w.op, .string w.nm, .string w.tx, .int .i64 w.n, .slice w.p w.len w.cap, .int .i64 b, .int .i64 fx, .int .i64 mn, .int .i64 mx] 36) :: FsT pb s pl lp lcap L (.slice p rs.length cap) (k3 + 1) A2) ((n2, Obj.cells #[.string x1.t, .int .i64 w.op, .string w.nm, .string w.tx, .int .i64 w.n, .slice w.p w.len w.cap, .int .i64 b, .int .i64 fx, .int .i64 mn, .int .i64 mx] 36) :: FsT pb s pl lp lcap L (.slice p rs.length cap) (k3 + 1) (A2 ++ B)) := SubA.left ((n2, _) :: FsT pb s pl lp lcap L (.slice p rs.length cap) (k3 + 1) A2) B
    have dB2 : Dis B ((n2, Obj.cells #[.string x1.t, .int .i64 w.op, .string w.nm, .string w.tx, .int .i64 w.n, .slice w.p w.len w.cap, .int .i64 b, .int .i64 fx, .int .i64 mn, .int .i64 mx] 36) :: FsT pb s pl lp lcap L (.slice p rs.length cap) (k3 + 1) A2) := dis_cons' f2B (fs_dis dE).symm
    have sB : SubA B ((n2, Obj.cells #[.string x1.t, .int .i64 w.op, .string w.nm, .string w.tx, .int .i64 w.n, .slice w.p w.len w.cap, .int .i64 b, .int .i64 fx, .int .i64 mn, .int .i64 mx] 36) :: FsT pb s pl lp lcap L (.slice p rs.length cap) (k3 + 1) (A2 ++ B)) := SubA.skip f2B (fs_dis (j := k3 + 1) (rv' := (.slice p rs.length cap)) dE).right
    refine RunA.use ?_
    refine append_src (m := 1) (news := fuC ⟨x1.t, w, b, fx, mn, mx⟩) (B := B) slc24 zro36 rfl (by decide) ho (SubA.trans sB (SubA.fresh g7 (SubA.refl _))) (.inr ⟨n7, 0, rfl, by simp [Vm.look, rdCS_cells, fuC]⟩) (by simp [fuC, Value.oneCell']) (by simp only [maxLen]; omega) (by omega) ?_
    intro v' B' ho2 hb2
    have ho3 : OwnL fuC 10 36 v' B' (rs ++ [⟨x1.t, w, b, fx, mn, mx⟩]) := by
      unfold OwnL
      rw [List.length_append, List.flatMap_append]
      simpa using ho2
    obtain ⟨p', cap', rfl, _⟩ := ho3.slice
    have dB' : Dis B' ((n2, Obj.cells #[.string x1.t, .int .i64 w.op, .string w.nm, .string w.tx, .int .i64 w.n, .slice w.p w.len w.cap, .int .i64 b, .int .i64 fx, .int .i64 mn, .int .i64 mx] 36) :: FsT pb s pl lp lcap L (.slice p rs.length cap) (k3 + 1) A2) := ap_dis hb2 dB2 (SubA.trans sW (SubA.fresh g7 (SubA.refl _)))
    refine ⟨((n2, Obj.cells #[.string x1.t, .int .i64 w.op, .string w.nm, .string w.tx, .int .i64 w.n, .slice w.p w.len w.cap, .int .i64 b, .int .i64 fx, .int .i64 mn, .int .i64 mx] 36) :: FsT pb s pl lp lcap L (.slice p rs.length cap) (k3 + 1) A2) ++ B', SubA.both (dB'.sub (SubA.trans sW (SubA.fresh g7 (SubA.refl _)))) (SubA.left _ _), ?_⟩
    simp only [FsT, fB, List.cons_append]
    intro ν fr; have nuE := And.intro (fr.mem (b := n2) (by simp)) (And.intro (fr.mem (b := pb) (by simp)) (fr.nu))
    simp (maxDischargeDepth := 16) only [evN, ↓evP, simprocAttr, forall_const, nuE, fr.2, vbQj, m3, m4]
    have dP : Dis B' (FsT pb s pl lp lcap L (.slice p rs.length cap) (k3 + 1) A2) := Dis.subr dB' (SubA.fresh (fs_none gE) (SubA.refl _))
    have nA2 : Vm.look A2 n2 = none := (fs_base hn2).none gE
    have nB' : Vm.look B' n2 = none := dB' n2 (by simp [Vm.look])
    exact ⟨_, k3 + 1, ⟨x1.t, w, b, fx, mn, mx⟩, A2, _, B', hO, ho3, r0, hj4, hs2, hp2, dis_obj dP, SubA.skip (look_c1 m4 (look_app_none nA2 nB')) (SubA.refl _)⟩
end Go.Proofs.YtfphceknmgadgaaDoor
