/-
The reference parser: small functions.
Conditions: none.
-/
import Derived.Test.YtgglccpckhpocaaGreatDoorQj
import Derived.Test.YtgglccpckhpocaaGreatDoorQc
set_option linter.unusedSimpArgs false
set_option linter.unusedVariables false
namespace Go.Vm
theorem CallA.ownX {P : Program} {g : FuncId} {args : Array Value} {E Y : AH} {K0 K : Value → AH → Prop} (hc : CallA P g args E K0) (hd : Dis E Y)
    (hk : ∀ v D, K0 v D → Dis D Y → ∃ F, SubA F D ∧ K v (Y ++ F)) : CallA P g args (Y ++ E) K :=
  CallA.toX hc hd.symm.right Y (SubA.left _ _) hd fun v D h dD => by
    obtain ⟨F, h1, h2⟩ := hk v D h dD
    exact ⟨_, SubA.front dD h1, h2⟩
end Go.Vm
namespace Go.Proofs.YtgglccpckhpocaaGreatDoor
open Go.Vm
set_option maxHeartbeats 4000000
set_option maxRecDepth 20000
theorem vbQk : type_of% (An @slIndexByte_v (An @indexByte_v (An @indexRune_v (An @containsRune_v (An @slHasPrefix_v (An @hasPrefix_v (An @classOf_v (An @isWordByte_v (An @letter_v (An @digit_v (An @wordAt_v (An @rword_v (An @skip_v (An @rskip_v (An @number_v (An @rnumber_v (An @literal_v (An @rtext_v (An @lexemeAt_v (An @rlexeme_v (An @isName_v (An @risName_v (An @resV_v (An @soft_usd (An @soft_ust (An @cnvN_pu (An @cnvN_up (An @eqS_pp (An @isNameV_v (An @isLitV_v (An @hasF_v (An @lvV_v (An @syV_v (An @wordV_v @nameV_v)))))))))))))))))))))))))))))))))) := ⟨@slIndexByte_v, @indexByte_v, @indexRune_v, @containsRune_v, @slHasPrefix_v, @hasPrefix_v, @classOf_v, @isWordByte_v, @letter_v, @digit_v, @wordAt_v, @rword_v, @skip_v, @rskip_v, @number_v, @rnumber_v, @literal_v, @rtext_v, @lexemeAt_v, @rlexeme_v, @isName_v, @risName_v, @resV_v, @soft_usd, @soft_ust, @cnvN_pu, @cnvN_up, @eqS_pp, @isNameV_v, @isLitV_v, @hasF_v, @lvV_v, @syV_v, @wordV_v, @nameV_v⟩
def rpB (lp : Option Addr) (lcap n i : Nat) (e w : Int) : Obj := .cells #[.slice lp n lcap, .int .i64 (i : Int), .int .i64 e, .int .i64 w] 60
def RS (rb : Nat) (lp : Option Addr) (lcap : Nat) (L : List LR) (i : Nat) (e w : Int) (A : AH) : AH := (rb, rpB lp lcap L.length i e w) :: A
structure RsOk (rb : Nat) (lp : Option Addr) (L : List LR) (A : AH) : Prop where
  nr : Vm.look A rb = none
  hL : StR LR.cells 4 A lp L
  hl : L.length ≤ 100000
  he : EndL L
theorem rs_none {rb : Nat} {lp : Option Addr} {lcap : Nat} {L : List LR} {i i' : Nat} {e e' w w' : Int} {A : AH} {n : Nat} (h : Vm.look (RS rb lp lcap L i e w A) n = none) : Vm.look (RS rb lp lcap L i' e' w' A) n = none := by
  simp only [RS, Vm.look] at h ⊢
  split at h
  · cases h
  · rename_i hne; rw [if_neg hne]; exact h
theorem rs_ne {rb : Nat} {lp : Option Addr} {lcap : Nat} {L : List LR} {i : Nat} {e w : Int} {A : AH} {n : Nat} (h : Vm.look (RS rb lp lcap L i e w A) n = none) : ((n = rb) = False) ∧ ((rb = n) = False) :=
  look_ne h (show Vm.look (RS rb lp lcap L i e w A) rb = some (rpB lp lcap L.length i e w) by simp [RS, Vm.look])
theorem rs_base {rb : Nat} {lp : Option Addr} {lcap i : Nat} {L : List LR} {e w : Int} {A : AH} (hp : RsOk rb lp L A) : SubA A (RS rb lp lcap L i e w A) := SubA.skip hp.nr (SubA.refl _)
structure AtL (rb : Nat) (A : AH) (i : Nat) (x : LR) (bk off : Nat) (cs : Array Value) (ty : TypeId) (fr0 : Nat × Nat) : Prop where
  hb : Vm.look A bk = some (.cells cs ty fr0)
  n1 : (rb = bk) = False
  n2 : (bk = rb) = False
  hc : rdCS (some (.cells cs ty fr0)) (off + i * 4) 4 = some #[.int .i64 x.k, .string x.t, .int .i64 x.n, .int .i64 (x.a : Int)]
  c0 : cs[off + i * 4]? = some (.int .i64 x.k)
  c1 : cs[off + i * 4 + 1]? = some (.string x.t)
  c2 : cs[off + i * 4 + 2]? = some (.int .i64 x.n)
  c3 : cs[off + i * 4 + 3]? = some (.int .i64 (x.a : Int))
theorem RsOk.at {rb : Nat} {lp : Option Addr} {L : List LR} {A : AH} (hp : RsOk rb lp L A) {i : Nat} {x : LR} (hx : L[i]? = some x) : ∃ bk off cs ty fr0, lp = some ⟨bk, off, none⟩ ∧ AtL rb A i x bk off cs ty fr0 := by
  obtain ⟨bk, off, cs, ty, fr0, hp0, hbk, hcr, hcc⟩ := hp.hL.at hx
  have hn := look_ne hp.nr hbk
  exact ⟨bk, off, cs, ty, fr0, hp0, hbk, hn.1, hn.2, hcr, hcc 0 _ rfl, hcc 1 _ rfl, hcc 2 _ rfl, hcc 3 _ rfl⟩
def flE (e e2 : Int) : Int := if e = 0 then e2 else e
def flW (e w : Int) (x : LR) : Int := if e = 0 then (x.a : Int) else w
theorem rfail_h (rb : Nat) (lp : Option Addr) (lcap : Nat) (L : List LR) (A : AH) (hp : RsOk rb lp L A) (i : Nat) (x : LR) (hx : L[i]? = some x) (e w e2 : Int) : CallA Tryz.prog 29 #[.pointer (some ⟨rb, 0, none⟩), .int .i64 e2] (RS rb lp lcap L i e w A) (fun u_ A_ => u_ = .tuple #[] ∧ SubA (RS rb lp lcap L i (flE e e2) (flW e w x) A) A_) := by
  refine callA_of_denA ⟨Tryz.prog, 29, Tryz.f29, 27, [0, 1], ⟨[], none⟩, [(2, .p [(0, 0), (1, 0), (2, 0), (3, 0), (4, 0), (5, 0), (6, 0), (7, 0), (8, 0), (9, 0), (10, 0), (11, 0), (12, 0), (13, 0), (14, 2)])], _⟩ rfl (args := [_, _]) Tryz.func29 rfl (by kernel_rfl) Tryz.ntmps29 (by simp) (by kernel_rfl) ?_
  intro ν fr; have nuE := fr.nu
  obtain ⟨bk, off, cs, ty, fr0, rfl, h⟩ := hp.at hx
  have hlt := (List.getElem?_eq_some_iff.1 hx).1
  have lt : ((i : Int) < (L.length : Int)) = True := eq_true (by omega)
  have li : ((i : Int) < 0) = False := eq_false (by omega)
  simp only [RS, rpB]
  by_cases he : e = 0
  · subst he
    simp (maxDischargeDepth := 16) only [evN, ↓evP, simprocAttr, forall_const, nuE, fr.2, vbQk, ↓sA_usd, ↓sA_ust, lt, li, h.hb, h.n1, h.n2, h.c0, h.c1, h.c2, h.c3, h.hc]
    exact ⟨rfl, by unfold flE flW; simp only [if_true]; exact SubA.refl _⟩
  · simp (maxDischargeDepth := 16) only [evN, ↓evP, simprocAttr, forall_const, nuE, fr.2, vbQk, ↓sA_usd, ↓sA_ust, eq_false he]
    exact ⟨rfl, by unfold flE flW; rw [if_neg he, if_neg he]; exact SubA.refl _⟩
def tkB (e : Int) (x : LR) (k : Int) (t : ByteArray) : Bool := decide (e = 0) && isL x k t
theorem rtake_h (rb : Nat) (lp : Option Addr) (lcap : Nat) (L : List LR) (A : AH) (hp : RsOk rb lp L A) (i : Nat) (x : LR) (hx : L[i]? = some x) (e w k : Int) (t : ByteArray) : CallA Tryz.prog 34 #[.pointer (some ⟨rb, 0, none⟩), .int .i64 k, .string t] (RS rb lp lcap L i e w A) (fun u_ A_ => u_ = .bool (tkB e x k t) ∧ SubA (RS rb lp lcap L (if tkB e x k t = true then i + 1 else i) e w A) A_) := by
  refine callA_of_denA ⟨Tryz.prog, 34, Tryz.f34, 49, [0, 1, 2, 6], ⟨[], none⟩, [(1, .q false)], _⟩ rfl (args := [_, _, _]) Tryz.func34 rfl (by kernel_rfl) Tryz.ntmps34 (by simp) (by kernel_rfl) ?_
  intro ν fr; have nuE := fr.nu
  obtain ⟨bk, off, cs, ty, fr0, rfl, h⟩ := hp.at hx
  have hlt := (List.getElem?_eq_some_iff.1 hx).1
  have hl := hp.hl
  have lt : ((i : Int) < (L.length : Int)) = True := eq_true (by omega)
  have li : ((i : Int) < 0) = False := eq_false (by omega)
  have we : IntKind.i64.wrap ((i : Int) + 1) = ((i + 1 : Nat) : Int) := by rw [w_i64 (by omega) (by omega)]; omega
  simp only [RS, rpB]
  by_cases he : e = 0
  rotate_left
  · have hn : (e != 0) = true := by simp [he]
    have hb : tkB e x k t = false := by simp [tkB, he]
    rw [hb]
    simp (maxDischargeDepth := 16) only [evN, ↓evP, simprocAttr, forall_const, nuE, fr.2, vbQk, ↓sA_usd, ↓sA_ust, hn]
  subst he
  by_cases hk : x.k = k
  rotate_left
  · have hn : (x.k != k) = true := by simp [hk]
    have hb : tkB 0 x k t = false := by simp [tkB, isL, hk]
    rw [hb]
    simp (maxDischargeDepth := 16) only [evN, ↓evP, simprocAttr, forall_const, nuE, fr.2, vbQk, ↓sA_usd, ↓sA_ust, lt, li, h.hb, h.n1, h.n2, h.c0, h.c1, h.c2, h.c3, h.hc, hn]
  have hn : (x.k != k) = false := by simp [hk]
  by_cases ht : x.t.toList = t.toList
  · have hm : (x.t.toList != t.toList) = false := by simp [ht]
    have hb : tkB 0 x k t = true := by simp [tkB, isL, hk, ht]
    rw [hb]
    simp (maxDischargeDepth := 16) only [evN, ↓evP, simprocAttr, forall_const, nuE, fr.2, vbQk, ↓sA_usd, ↓sA_ust, lt, li, h.hb, h.n1, h.n2, h.c0, h.c1, h.c2, h.c3, h.hc, hn, hm, eq_true ht, we]
  · have hm : (x.t.toList != t.toList) = true := by simp [ht]
    have hb : tkB 0 x k t = false := by simp [tkB, isL, hk, ht]
    rw [hb]
    simp (maxDischargeDepth := 16) only [evN, ↓evP, simprocAttr, forall_const, nuE, fr.2, vbQk, ↓sA_usd, ↓sA_ust, lt, li, h.hb, h.n1, h.n2, h.c0, h.c1, h.c2, h.c3, h.hc, hn, hm, eq_false ht]
def wnI (e : Int) (c : Bool) (i : Nat) : Nat := if e = 0 ∧ c = true then i + 1 else i
def wnE (e : Int) (c : Bool) : Int := if e = 0 then (if c = true then 0 else 2) else e
def wnW (e w : Int) (c : Bool) (x : LR) : Int := if e = 0 then (if c = true then w else (x.a : Int)) else w
theorem rwant_h (rb : Nat) (lp : Option Addr) (lcap : Nat) (L : List LR) (A : AH) (hp : RsOk rb lp L A) (i : Nat) (x : LR) (hx : L[i]? = some x) (e w k : Int) (t : ByteArray) : CallA Tryz.prog 30 #[.pointer (some ⟨rb, 0, none⟩), .int .i64 k, .string t] (RS rb lp lcap L i e w A) (fun u_ A_ => u_ = .tuple #[] ∧ SubA (RS rb lp lcap L (wnI e (isL x k t) i) (wnE e (isL x k t)) (wnW e w (isL x k t) x) A) A_) := by
  refine callA_of_denA ⟨Tryz.prog, 30, Tryz.f30, 13, [0, 1, 2], ⟨[34, 29], none⟩, [], _⟩ rfl (args := [_, _, _]) Tryz.func30 rfl (by kernel_rfl) Tryz.ntmps30 (by simp) (by kernel_rfl) ?_
  intro ν fr; have nuE := fr.nu
  simp (maxDischargeDepth := 16) only [evN, ↓evP, simprocAttr, forall_const, nuE, fr.2, vbQk, ↓sA_usd, ↓sA_ust]
  refine CallA.useX (rtake_h rb lp lcap L A hp i x hx e w k t) (SubA.refl _) [] (SubA.nil _) (fun x hx => absurd rfl hx) ?_
  rintro v D ⟨rfl, hD⟩ dD
  refine ⟨_, hD, ?_⟩
  rw [List.append_nil]
  clear hD dD D nuE fr
  intro ν fr; have nuE := fr.nu
  by_cases he : e = 0
  · subst he
    cases hc : isL x k t with
    | true =>
      have hb : tkB 0 x k t = true := by simp [tkB, hc]
      rw [hb]
      simp (maxDischargeDepth := 16) only [evN, ↓evP, simprocAttr, forall_const, nuE, fr.2, vbQk, ↓sA_usd, ↓sA_ust]
      exact ⟨rfl, SubA.refl _⟩
    | false =>
      have hb : tkB 0 x k t = false := by simp [tkB, hc]
      rw [hb]
      simp only [Bool.false_eq_true, if_false]
      simp (maxDischargeDepth := 16) only [evN, ↓evP, simprocAttr, forall_const, nuE, fr.2, vbQk, ↓sA_usd, ↓sA_ust]
      refine CallA.useX (rfail_h rb lp lcap L A hp i x hx 0 w 2) (SubA.refl _) [] (SubA.nil _) (fun x hx => absurd rfl hx) ?_
      rintro v D ⟨rfl, hD⟩ dD
      refine ⟨_, hD, ?_⟩
      rw [List.append_nil]
      clear hD dD D nuE fr
      intro ν fr; have nuE := fr.nu
      simp (maxDischargeDepth := 16) only [evN, ↓evP, simprocAttr, forall_const, nuE, fr.2, vbQk, ↓sA_usd, ↓sA_ust]
      exact ⟨rfl, by simp only [flE, flW, wnI, wnE, wnW, if_true, Bool.false_eq_true, if_false, and_false]; exact SubA.refl _⟩
  · have hb : tkB e x k t = false := by simp [tkB, he]
    rw [hb]
    simp only [Bool.false_eq_true, if_false]
    simp (maxDischargeDepth := 16) only [evN, ↓evP, simprocAttr, forall_const, nuE, fr.2, vbQk, ↓sA_usd, ↓sA_ust]
    refine CallA.useX (rfail_h rb lp lcap L A hp i x hx e w 2) (SubA.refl _) [] (SubA.nil _) (fun x hx => absurd rfl hx) ?_
    rintro v D ⟨rfl, hD⟩ dD
    refine ⟨_, hD, ?_⟩
    rw [List.append_nil]
    clear hD dD D nuE fr
    intro ν fr; have nuE := fr.nu
    simp (maxDischargeDepth := 16) only [evN, ↓evP, simprocAttr, forall_const, nuE, fr.2, vbQk, ↓sA_usd, ↓sA_ust]
    exact ⟨rfl, by simp only [flE, flW, wnI, wnE, wnW, if_neg he, if_neg (show ¬ (e = 0 ∧ isL x k t = true) from fun h => he h.1)]; exact SubA.refl _⟩
theorem rresV_h (s : ByteArray) : CallA Tryz.prog 63 #[.string s] [] (fun u_ _ => u_ = .bool (resB s)) := by
  refine callA_of_denA ⟨Tryz.prog, 63, Tryz.f63, 17, [0, 2, 3], ⟨[], none⟩, [], _⟩ rfl (args := [_]) Tryz.func63 rfl (by kernel_rfl) Tryz.ntmps63 (by simp) (by kernel_rfl) ?_
  intro ν fr; have nuE := fr.nu
  simp (maxDischargeDepth := 16) only [evN, ↓evP, simprocAttr, forall_const, nuE, fr.2, vbQk, ↓sA_usd, ↓sA_ust]
  unfold resB
  repeat' split
  all_goals simp_all
theorem rresV_v (s : ByteArray) (A_ : AH) : valA Tryz.prog 63 #[.string s] A_ = some (.bool (resB s)) := valA_eq (pureA_of (by kernel_rfl) (rresV_h s))
theorem rname_h (rb : Nat) (lp : Option Addr) (lcap : Nat) (L : List LR) (A : AH) (hp : RsOk rb lp L A) (i : Nat) (x : LR) (hx : L[i]? = some x) (e w : Int) : CallA Tryz.prog 31 #[.pointer (some ⟨rb, 0, none⟩)] (RS rb lp lcap L i e w A) (fun u_ A_ => u_ = .string (if e = 0 ∧ nmB x = true then x.t else eB) ∧ SubA (RS rb lp lcap L (wnI e (nmB x) i) (wnE e (nmB x)) (wnW e w (nmB x) x) A) A_) := by
  refine callA_of_denA ⟨Tryz.prog, 31, Tryz.f31, 38, [0, 2, 3], ⟨[29], none⟩, [(1, .p [(0, 0), (1, 0), (2, 0), (3, 0), (4, 0), (5, 0), (6, 0), (7, 0), (8, 0), (9, 0), (10, 1), (11, 2)])], _⟩ rfl (args := [_]) Tryz.func31 rfl (by kernel_rfl) Tryz.ntmps31 (by simp) (by kernel_rfl) ?_
  intro ν fr; have nuE := fr.nu
  obtain ⟨bk, off, cs, ty, fr0, rfl, h⟩ := hp.at hx
  have hlt := (List.getElem?_eq_some_iff.1 hx).1
  have hl := hp.hl
  have lt : ((i : Int) < (L.length : Int)) = True := eq_true (by omega)
  have li : ((i : Int) < 0) = False := eq_false (by omega)
  have we : IntKind.i64.wrap ((i : Int) + 1) = ((i + 1 : Nat) : Int) := by rw [w_i64 (by omega) (by omega)]; omega
  have f0 := fr.2 0
  obtain ⟨m1, m2⟩ := rs_ne f0
  obtain ⟨m3, m4⟩ := look_ne ((rs_base hp).none f0) h.hb
  have hor : nmB x = true ∨ ((x.k != 1) = true ∧ nmB x = false) ∨ ((x.k != 1) = false ∧ resB x.t = true ∧ nmB x = false) := by
    by_cases h1 : x.k = 1
    · cases h2 : resB x.t with
      | true => exact .inr (.inr ⟨by simp [h1], rfl, by simp [nmB, h2]⟩)
      | false => exact .inl (by simp [nmB, h1, h2])
    · exact .inr (.inl ⟨by simp [h1], by simp [nmB, h1]⟩)
  simp only [RS, rpB] at f0 ⊢
  have sf := fun (o : Obj) => eq_true (SubA.fresh (o := o) f0 (SubA.refl _))
  rcases hor with hn | ⟨hk, hn⟩ | ⟨hk, hr, hn⟩
  · have hk : (x.k != 1) = false := by simp [nmB] at hn ⊢; exact hn.1
    have hr : resB x.t = false := by simp [nmB] at hn; exact hn.2
    rw [hn]
    by_cases he : e = 0
    · subst he
      simp (maxDischargeDepth := 16) only [evN, ↓evP, simprocAttr, forall_const, nuE, fr.2, vbQk, ↓sA_usd, ↓sA_ust, rresV_v, lt, li, h.hb, h.n1, h.n2, h.c0, h.c1, h.c2, h.c3, h.hc, m1, m2, m3, m4, hk, hr, we, sf]
      simp only [wnI, wnE, wnW, and_self, if_true]
      exact SubA.fresh (look_c1 m2 ((rs_base (i := i) (e := 0) (w := w) hp).none f0)) (SubA.refl _)
    · have hen : (e != 0) = true := by simp [he]
      simp (maxDischargeDepth := 16) only [evN, ↓evP, simprocAttr, forall_const, nuE, fr.2, vbQk, ↓sA_usd, ↓sA_ust, rresV_v, lt, li, h.hb, h.n1, h.n2, h.c0, h.c1, h.c2, h.c3, h.hc, m1, m2, m3, m4, hk, hr, hen, eq_false he, we, sf]
      simp only [wnI, wnE, wnW, if_neg he, he, false_and, if_false]
      first | exact ⟨rfl, SubA.fresh f0 (SubA.refl _)⟩ | exact SubA.fresh f0 (SubA.refl _)
  · rw [hn]
    simp (maxDischargeDepth := 16) only [evN, ↓evP, simprocAttr, forall_const, nuE, fr.2, vbQk, ↓sA_usd, ↓sA_ust, rresV_v, lt, li, h.hb, h.n1, h.n2, h.c0, h.c1, h.c2, h.c3, h.hc, m1, m2, m3, m4, hk, sf]
    have dst_ : True := (by simp [nuE]); generalize ν 0 = n3 at dst_  f0 m1 m2 m3 m4 ⊢
    clear nuE fr sf
    refine CallA.ownX (Y := [(n3, _)]) (rfail_h rb (some ⟨bk, off, none⟩) lcap L A hp i x hx e w 2) (Dis.one f0).symm ?_
    rintro v D ⟨rfl, hD⟩ dD
    refine ⟨_, hD, ?_⟩
    clear hD dD D
    simp only [RS, rpB, List.cons_append, List.nil_append]
    intro ν fr; have nuE := And.intro (fr.mem (b := n3) (by simp)) (fr.nu)
    by_cases he : e = 0
    · subst he
      have hen : (flE 0 2 != 0) = true := by decide
      simp (maxDischargeDepth := 16) only [evN, ↓evP, simprocAttr, forall_const, nuE, fr.2, vbQk, ↓sA_usd, ↓sA_ust, rresV_v, m1, m2, hen]
      simp only [wnI, wnE, wnW, flE, flW, if_true, Bool.false_eq_true, and_false, if_false]
      first | exact ⟨rfl, SubA.fresh (look_c1 m2 ((rs_base (i := i) (e := 0) (w := w) hp).none f0)) (SubA.refl _)⟩ | exact SubA.fresh (look_c1 m2 ((rs_base (i := i) (e := 0) (w := w) hp).none f0)) (SubA.refl _)
    · have hen : (flE e 2 != 0) = true := by simp [flE, he]
      simp (maxDischargeDepth := 16) only [evN, ↓evP, simprocAttr, forall_const, nuE, fr.2, vbQk, ↓sA_usd, ↓sA_ust, rresV_v, m1, m2, hen]
      simp only [wnI, wnE, wnW, flE, flW, if_neg he, he, false_and, if_false]
      first | exact ⟨rfl, SubA.fresh f0 (SubA.refl _)⟩ | exact SubA.fresh f0 (SubA.refl _)
  · rw [hn]
    simp (maxDischargeDepth := 16) only [evN, ↓evP, simprocAttr, forall_const, nuE, fr.2, vbQk, ↓sA_usd, ↓sA_ust, rresV_v, lt, li, h.hb, h.n1, h.n2, h.c0, h.c1, h.c2, h.c3, h.hc, m1, m2, m3, m4, hk, hr, sf]
    have dst_ : True := (by simp [nuE]); generalize ν 0 = n3 at dst_  f0 m1 m2 m3 m4 ⊢
    clear nuE fr sf
    refine CallA.ownX (Y := [(n3, _)]) (rfail_h rb (some ⟨bk, off, none⟩) lcap L A hp i x hx e w 2) (Dis.one f0).symm ?_
    rintro v D ⟨rfl, hD⟩ dD
    refine ⟨_, hD, ?_⟩
    clear hD dD D
    simp only [RS, rpB, List.cons_append, List.nil_append]
    intro ν fr; have nuE := And.intro (fr.mem (b := n3) (by simp)) (fr.nu)
    by_cases he : e = 0
    · subst he
      have hen : (flE 0 2 != 0) = true := by decide
      simp (maxDischargeDepth := 16) only [evN, ↓evP, simprocAttr, forall_const, nuE, fr.2, vbQk, ↓sA_usd, ↓sA_ust, rresV_v, m1, m2, hen]
      simp only [wnI, wnE, wnW, flE, flW, if_true, Bool.false_eq_true, and_false, if_false]
      first | exact ⟨rfl, SubA.fresh (look_c1 m2 ((rs_base (i := i) (e := 0) (w := w) hp).none f0)) (SubA.refl _)⟩ | exact SubA.fresh (look_c1 m2 ((rs_base (i := i) (e := 0) (w := w) hp).none f0)) (SubA.refl _)
    · have hen : (flE e 2 != 0) = true := by simp [flE, he]
      simp (maxDischargeDepth := 16) only [evN, ↓evP, simprocAttr, forall_const, nuE, fr.2, vbQk, ↓sA_usd, ↓sA_ust, rresV_v, m1, m2, hen]
      simp only [wnI, wnE, wnW, flE, flW, if_neg he, he, false_and, if_false]
      first | exact ⟨rfl, SubA.fresh f0 (SubA.refl _)⟩ | exact SubA.fresh f0 (SubA.refl _)
theorem rnum_h (rb : Nat) (lp : Option Addr) (lcap : Nat) (L : List LR) (A : AH) (hp : RsOk rb lp L A) (i : Nat) (x : LR) (hx : L[i]? = some x) (e w most : Int) : CallA Tryz.prog 35 #[.pointer (some ⟨rb, 0, none⟩), .int .i64 most] (RS rb lp lcap L i e w A) (fun u_ A_ => u_ = .int .i64 (if e = 0 ∧ nuB x most = true then x.n else 0) ∧ SubA (RS rb lp lcap L (wnI e (nuB x most) i) (wnE e (nuB x most)) (wnW e w (nuB x most) x) A) A_) := by
  refine callA_of_denA ⟨Tryz.prog, 35, Tryz.f35, 41, [0, 1, 4, 5], ⟨[29], none⟩, [(1, .p [(0, 0), (1, 0), (2, 0), (3, 0), (4, 0), (5, 0), (6, 0), (7, 0), (8, 0), (9, 0), (10, 1), (11, 2)])], _⟩ rfl (args := [_, _]) Tryz.func35 rfl (by kernel_rfl) Tryz.ntmps35 (by simp) (by kernel_rfl) ?_
  intro ν fr; have nuE := fr.nu
  obtain ⟨bk, off, cs, ty, fr0, rfl, h⟩ := hp.at hx
  have hlt := (List.getElem?_eq_some_iff.1 hx).1
  have hl := hp.hl
  have lt : ((i : Int) < (L.length : Int)) = True := eq_true (by omega)
  have li : ((i : Int) < 0) = False := eq_false (by omega)
  have we : IntKind.i64.wrap ((i : Int) + 1) = ((i + 1 : Nat) : Int) := by rw [w_i64 (by omega) (by omega)]; omega
  have f0 := fr.2 0
  obtain ⟨m1, m2⟩ := rs_ne f0
  obtain ⟨m3, m4⟩ := look_ne ((rs_base hp).none f0) h.hb
  have hor : nuB x most = true ∨ ((x.k != 2) = true ∧ nuB x most = false) ∨ ((x.k != 2) = false ∧ (most < x.n) ∧ nuB x most = false) := by
    by_cases h1 : x.k = 2
    · by_cases h2 : most < x.n
      · exact .inr (.inr ⟨by simp [h1], h2, by simp [nuB]; omega⟩)
      · exact .inl (by simp [nuB, h1]; omega)
    · exact .inr (.inl ⟨by simp [h1], by simp [nuB, h1]⟩)
  simp only [RS, rpB] at f0 ⊢
  have sf := fun (o : Obj) => eq_true (SubA.fresh (o := o) f0 (SubA.refl _))
  rcases hor with hn | ⟨hk, hn⟩ | ⟨hk, hr, hn⟩
  · have hk : (x.k != 2) = false := by simp [nuB] at hn ⊢; exact hn.1
    have hr : (most < x.n) = False := eq_false (by simp [nuB] at hn; omega)
    rw [hn]
    by_cases he : e = 0
    · subst he
      simp (maxDischargeDepth := 16) only [evN, ↓evP, simprocAttr, forall_const, nuE, fr.2, vbQk, ↓sA_usd, ↓sA_ust, rresV_v, lt, li, h.hb, h.n1, h.n2, h.c0, h.c1, h.c2, h.c3, h.hc, m1, m2, m3, m4, hk, hr, we, sf]
      simp only [wnI, wnE, wnW, and_self, if_true]
      exact SubA.fresh (look_c1 m2 ((rs_base (i := i) (e := 0) (w := w) hp).none f0)) (SubA.refl _)
    · have hen : (e != 0) = true := by simp [he]
      simp (maxDischargeDepth := 16) only [evN, ↓evP, simprocAttr, forall_const, nuE, fr.2, vbQk, ↓sA_usd, ↓sA_ust, rresV_v, lt, li, h.hb, h.n1, h.n2, h.c0, h.c1, h.c2, h.c3, h.hc, m1, m2, m3, m4, hk, hr, hen, eq_false he, we, sf]
      simp only [wnI, wnE, wnW, if_neg he, he, false_and, if_false]
      first | exact ⟨rfl, SubA.fresh f0 (SubA.refl _)⟩ | exact SubA.fresh f0 (SubA.refl _)
  · rw [hn]
    simp (maxDischargeDepth := 16) only [evN, ↓evP, simprocAttr, forall_const, nuE, fr.2, vbQk, ↓sA_usd, ↓sA_ust, rresV_v, lt, li, h.hb, h.n1, h.n2, h.c0, h.c1, h.c2, h.c3, h.hc, m1, m2, m3, m4, hk, sf]
    have dst_ : True := (by simp [nuE]); generalize ν 0 = n3 at dst_  f0 m1 m2 m3 m4 ⊢
    clear nuE fr sf
    refine CallA.ownX (Y := [(n3, _)]) (rfail_h rb (some ⟨bk, off, none⟩) lcap L A hp i x hx e w 2) (Dis.one f0).symm ?_
    rintro v D ⟨rfl, hD⟩ dD
    refine ⟨_, hD, ?_⟩
    clear hD dD D
    simp only [RS, rpB, List.cons_append, List.nil_append]
    intro ν fr; have nuE := And.intro (fr.mem (b := n3) (by simp)) (fr.nu)
    by_cases he : e = 0
    · subst he
      have hen : (flE 0 2 != 0) = true := by decide
      simp (maxDischargeDepth := 16) only [evN, ↓evP, simprocAttr, forall_const, nuE, fr.2, vbQk, ↓sA_usd, ↓sA_ust, rresV_v, m1, m2, hen]
      simp only [wnI, wnE, wnW, flE, flW, if_true, Bool.false_eq_true, and_false, if_false]
      first | exact ⟨rfl, SubA.fresh (look_c1 m2 ((rs_base (i := i) (e := 0) (w := w) hp).none f0)) (SubA.refl _)⟩ | exact SubA.fresh (look_c1 m2 ((rs_base (i := i) (e := 0) (w := w) hp).none f0)) (SubA.refl _)
    · have hen : (flE e 2 != 0) = true := by simp [flE, he]
      simp (maxDischargeDepth := 16) only [evN, ↓evP, simprocAttr, forall_const, nuE, fr.2, vbQk, ↓sA_usd, ↓sA_ust, rresV_v, m1, m2, hen]
      simp only [wnI, wnE, wnW, flE, flW, if_neg he, he, false_and, if_false]
      first | exact ⟨rfl, SubA.fresh f0 (SubA.refl _)⟩ | exact SubA.fresh f0 (SubA.refl _)
  · rw [hn]
    simp (maxDischargeDepth := 16) only [evN, ↓evP, simprocAttr, forall_const, nuE, fr.2, vbQk, ↓sA_usd, ↓sA_ust, rresV_v, lt, li, h.hb, h.n1, h.n2, h.c0, h.c1, h.c2, h.c3, h.hc, m1, m2, m3, m4, hk, eq_true hr, sf]
    have dst_ : True := (by simp [nuE]); generalize ν 0 = n3 at dst_  f0 m1 m2 m3 m4 ⊢
    clear nuE fr sf
    refine CallA.ownX (Y := [(n3, _)]) (rfail_h rb (some ⟨bk, off, none⟩) lcap L A hp i x hx e w 2) (Dis.one f0).symm ?_
    rintro v D ⟨rfl, hD⟩ dD
    refine ⟨_, hD, ?_⟩
    clear hD dD D
    simp only [RS, rpB, List.cons_append, List.nil_append]
    intro ν fr; have nuE := And.intro (fr.mem (b := n3) (by simp)) (fr.nu)
    by_cases he : e = 0
    · subst he
      have hen : (flE 0 2 != 0) = true := by decide
      simp (maxDischargeDepth := 16) only [evN, ↓evP, simprocAttr, forall_const, nuE, fr.2, vbQk, ↓sA_usd, ↓sA_ust, rresV_v, m1, m2, hen]
      simp only [wnI, wnE, wnW, flE, flW, if_true, Bool.false_eq_true, and_false, if_false]
      first | exact ⟨rfl, SubA.fresh (look_c1 m2 ((rs_base (i := i) (e := 0) (w := w) hp).none f0)) (SubA.refl _)⟩ | exact SubA.fresh (look_c1 m2 ((rs_base (i := i) (e := 0) (w := w) hp).none f0)) (SubA.refl _)
    · have hen : (flE e 2 != 0) = true := by simp [flE, he]
      simp (maxDischargeDepth := 16) only [evN, ↓evP, simprocAttr, forall_const, nuE, fr.2, vbQk, ↓sA_usd, ↓sA_ust, rresV_v, m1, m2, hen]
      simp only [wnI, wnE, wnW, flE, flW, if_neg he, he, false_and, if_false]
      first | exact ⟨rfl, SubA.fresh f0 (SubA.refl _)⟩ | exact SubA.fresh f0 (SubA.refl _)
end Go.Proofs.YtgglccpckhpocaaGreatDoor
namespace Go.Proofs.YtgglccpckhpocaaGreatDoor
open Go.Vm
set_option maxHeartbeats 4000000
set_option maxRecDepth 20000
theorem ztk_h (rb : Nat) (lp : Option Addr) (lcap : Nat) (L : List LR) (A : AH) (i : Nat) (e w : Int) (he : e ≠ 0) (k : Int) (t : ByteArray) : CallA Tryz.prog 34 #[.pointer (some ⟨rb, 0, none⟩), .int .i64 k, .string t] (RS rb lp lcap L i e w A) (fun u_ A_ => u_ = .bool false ∧ SubA (RS rb lp lcap L i e w A) A_) := by
  refine callA_of_denA ⟨Tryz.prog, 34, Tryz.f34, 49, [0, 1, 2, 6], ⟨[], none⟩, [(1, .q false)], _⟩ rfl (args := [_, _, _]) Tryz.func34 rfl (by kernel_rfl) Tryz.ntmps34 (by simp) (by kernel_rfl) ?_
  intro ν fr; have nuE := fr.nu
  have hen : (e != 0) = true := by simp [he]
  simp only [RS, rpB] at fr ⊢
  simp (maxDischargeDepth := 16) only [evN, ↓evP, simprocAttr, forall_const, nuE, fr.2, vbQk, ↓sA_usd, ↓sA_ust, rresV_v, hen]
theorem ztk_w (rb : Nat) (lp : Option Addr) (lcap : Nat) (L : List LR) (A : AH) (i : Nat) (e w : Int) (he : e ≠ 0) (k : Int) (t : ByteArray) (B_ : AH) (hB_ : SubA (RS rb lp lcap L i e w A) B_) : valA Tryz.prog 34 #[.pointer (some ⟨rb, 0, none⟩), .int .i64 k, .string t] B_ = some (.bool false) := valA_eq (pureA_at (by kernel_rfl) (ztk_h rb lp lcap L A i e w he k t) hB_)
theorem zun_h (rb : Nat) (lp : Option Addr) (lcap : Nat) (L : List LR) (A : AH) (i : Nat) (e w : Int) (he : e ≠ 0) : CallA Tryz.prog 127 #[.pointer (some ⟨rb, 0, none⟩)] (RS rb lp lcap L i e w A) (fun u_ A_ => u_ = .agg #[.int .i64 0, .string ⟨#[]⟩, .string ⟨#[]⟩, .int .i64 0, .slice none 0 0] ∧ SubA (RS rb lp lcap L i e w A) A_) := by
  refine callA_of_denA ⟨Tryz.prog, 127, Tryz.f127, 84, [0, 2, 3, 4], ⟨[], none⟩, [(3, .p [(0, 0), (1, 0), (2, 0), (3, 0), (4, 0), (5, 0), (6, 0), (7, 0), (8, 0), (9, 0), (10, 1), (11, 2)])], _⟩ rfl (args := [_]) Tryz.func127 rfl (by kernel_rfl) Tryz.ntmps127 (by simp) (by kernel_rfl) ?_
  intro ν fr; have nuE := fr.nu
  have hen : (e != 0) = true := by simp [he]
  have f0 := fr.2 0
  obtain ⟨m1, m2⟩ := rs_ne f0
  simp only [RS, rpB] at f0 fr ⊢
  simp (maxDischargeDepth := 16) only [evN, ↓evP, simprocAttr, forall_const, nuE, fr.2, vbQk, ↓sA_usd, ↓sA_ust, rresV_v, hen, m1, m2]
theorem zun_w (rb : Nat) (lp : Option Addr) (lcap : Nat) (L : List LR) (A : AH) (i : Nat) (e w : Int) (he : e ≠ 0) (B_ : AH) (hB_ : SubA (RS rb lp lcap L i e w A) B_) : valA Tryz.prog 127 #[.pointer (some ⟨rb, 0, none⟩)] B_ = some (.agg #[.int .i64 0, .string ⟨#[]⟩, .string ⟨#[]⟩, .int .i64 0, .slice none 0 0]) := valA_eq (pureA_at (by kernel_rfl) (zun_h rb lp lcap L A i e w he) hB_)
theorem zpr_h (rb : Nat) (lp : Option Addr) (lcap : Nat) (L : List LR) (A : AH) (i : Nat) (e w : Int) (he : e ≠ 0) : CallA Tryz.prog 119 #[.pointer (some ⟨rb, 0, none⟩)] (RS rb lp lcap L i e w A) (fun u_ A_ => u_ = .agg #[.int .i64 0, .string ⟨#[]⟩, .string ⟨#[]⟩, .int .i64 0, .slice none 0 0] ∧ SubA (RS rb lp lcap L i e w A) A_) := by
  refine callA_of_denA ⟨Tryz.prog, 119, Tryz.f119, 13, [0, 2, 3], ⟨[], none⟩, [(3, .p [(0, 0), (1, 0), (2, 0), (3, 0), (4, 2)])], _⟩ rfl (args := [_]) Tryz.func119 rfl (by kernel_rfl) Tryz.ntmps119 (by simp) (by kernel_rfl) ?_
  intro ν fr; have nuE := fr.nu
  have hen : (e != 0) = true := by simp [he]
  have bl := zun_w rb lp lcap L A i e w he
  have tk := ztk_w rb lp lcap L A i e w he
  have f0 := fr.2 0
  have f1 := fr.2 1
  have n01 : (ν 1 = ν 0) = False := by simp [nuE]
  obtain ⟨m1, m2⟩ := rs_ne f0
  obtain ⟨m3, m4⟩ := rs_ne f1
  simp only [RS, rpB] at f0 f1 bl tk fr ⊢
  simp (maxDischargeDepth := 16) only [evN, ↓evP, simprocAttr, forall_const, nuE, fr.2, vbQk, ↓sA_usd, ↓sA_ust, rresV_v, bl, tk, hen, m1, m2, m3, m4, eq_false he]
  have dst_ : ((ν 0 = ν 1) = False) ∧ ((ν 1 = ν 0) = False) := (by simp [nuE]); generalize ν 0 = n2 at dst_  f0 f1 n01 m1 m2 m3 m4 ⊢; generalize ν 1 = n3 at dst_  f0 f1 n01 m1 m2 m3 m4 ⊢
  clear nuE fr
  have d0 := dst_
  have tk2 := fun o o' k t => ztk_w rb lp lcap L A i e w he k t ((n3, o) :: (n2, o') :: RS rb lp lcap L i e w A) (SubA.fresh (look_c1 (by simp [d0]) f1) (SubA.fresh f0 (SubA.refl _)))
  simp only [RS, rpB] at tk2
  refine LoopA.intro (by kernel_rfl) ?_
  intro ν fr; have nuE := And.intro (fr.mem (b := n3) (by simp)) (And.intro (fr.mem (b := n2) (by simp)) (fr.nu))
  simp (maxDischargeDepth := 16) only [evN, ↓evP, simprocAttr, forall_const, nuE, fr.2, vbQk, ↓sA_usd, ↓sA_ust, rresV_v, bl, tk2, hen, d0, m1, m2, m3, m4, eq_false he]
  exact SubA.fresh (look_c1 (by simp [d0]) f1) (SubA.fresh f0 (SubA.refl _))
theorem zpr_w (rb : Nat) (lp : Option Addr) (lcap : Nat) (L : List LR) (A : AH) (i : Nat) (e w : Int) (he : e ≠ 0) (B_ : AH) (hB_ : SubA (RS rb lp lcap L i e w A) B_) : valA Tryz.prog 119 #[.pointer (some ⟨rb, 0, none⟩)] B_ = some (.agg #[.int .i64 0, .string ⟨#[]⟩, .string ⟨#[]⟩, .int .i64 0, .slice none 0 0]) := valA_eq (pureA_at (by kernel_rfl) (zpr_h rb lp lcap L A i e w he) hB_)
theorem zsu_h (rb : Nat) (lp : Option Addr) (lcap : Nat) (L : List LR) (A : AH) (i : Nat) (e w : Int) (he : e ≠ 0) : CallA Tryz.prog 107 #[.pointer (some ⟨rb, 0, none⟩)] (RS rb lp lcap L i e w A) (fun u_ A_ => u_ = .agg #[.int .i64 0, .string ⟨#[]⟩, .string ⟨#[]⟩, .int .i64 0, .slice none 0 0] ∧ SubA (RS rb lp lcap L i e w A) A_) := by
  refine callA_of_denA ⟨Tryz.prog, 107, Tryz.f107, 27, [0, 2, 3], ⟨[], none⟩, [(5, .p [(0, 0), (1, 0), (2, 0), (3, 0), (4, 2)]), (7, .p [(0, 0), (1, 0), (2, 0), (3, 0), (4, 2)])], _⟩ rfl (args := [_]) Tryz.func107 rfl (by kernel_rfl) Tryz.ntmps107 (by simp) (by kernel_rfl) ?_
  intro ν fr; have nuE := fr.nu
  have hen : (e != 0) = true := by simp [he]
  have bl := zpr_w rb lp lcap L A i e w he
  have tk := ztk_w rb lp lcap L A i e w he
  have f0 := fr.2 0
  have f1 := fr.2 1
  have n01 : (ν 1 = ν 0) = False := by simp [nuE]
  obtain ⟨m1, m2⟩ := rs_ne f0
  obtain ⟨m3, m4⟩ := rs_ne f1
  simp only [RS, rpB] at f0 f1 bl tk fr ⊢
  simp (maxDischargeDepth := 16) only [evN, ↓evP, simprocAttr, forall_const, nuE, fr.2, vbQk, ↓sA_usd, ↓sA_ust, rresV_v, bl, tk, hen, m1, m2, m3, m4, eq_false he]
  have dst_ : ((ν 0 = ν 1) = False) ∧ ((ν 1 = ν 0) = False) := (by simp [nuE]); generalize ν 0 = n2 at dst_  f0 f1 n01 m1 m2 m3 m4 ⊢; generalize ν 1 = n3 at dst_  f0 f1 n01 m1 m2 m3 m4 ⊢
  clear nuE fr
  have d0 := dst_
  have tk2 := fun o o' k t => ztk_w rb lp lcap L A i e w he k t ((n3, o) :: (n2, o') :: RS rb lp lcap L i e w A) (SubA.fresh (look_c1 (by simp [d0]) f1) (SubA.fresh f0 (SubA.refl _)))
  simp only [RS, rpB] at tk2
  refine LoopA.intro (by kernel_rfl) ?_
  intro ν fr; have nuE := And.intro (fr.mem (b := n3) (by simp)) (And.intro (fr.mem (b := n2) (by simp)) (fr.nu))
  simp (maxDischargeDepth := 16) only [evN, ↓evP, simprocAttr, forall_const, nuE, fr.2, vbQk, ↓sA_usd, ↓sA_ust, rresV_v, bl, tk2, hen, d0, m1, m2, m3, m4, eq_false he]
  exact SubA.fresh (look_c1 (by simp [d0]) f1) (SubA.fresh f0 (SubA.refl _))
theorem zsu_w (rb : Nat) (lp : Option Addr) (lcap : Nat) (L : List LR) (A : AH) (i : Nat) (e w : Int) (he : e ≠ 0) (B_ : AH) (hB_ : SubA (RS rb lp lcap L i e w A) B_) : valA Tryz.prog 107 #[.pointer (some ⟨rb, 0, none⟩)] B_ = some (.agg #[.int .i64 0, .string ⟨#[]⟩, .string ⟨#[]⟩, .int .i64 0, .slice none 0 0]) := valA_eq (pureA_at (by kernel_rfl) (zsu_h rb lp lcap L A i e w he) hB_)
theorem zco_h (rb : Nat) (lp : Option Addr) (lcap : Nat) (L : List LR) (A : AH) (i : Nat) (e w : Int) (he : e ≠ 0) : CallA Tryz.prog 92 #[.pointer (some ⟨rb, 0, none⟩)] (RS rb lp lcap L i e w A) (fun u_ A_ => u_ = .agg #[.int .i64 0, .string ⟨#[]⟩, .string ⟨#[]⟩, .int .i64 0, .slice none 0 0] ∧ SubA (RS rb lp lcap L i e w A) A_) := by
  refine callA_of_denA ⟨Tryz.prog, 92, Tryz.f92, 56, [0, 2, 3, 4], ⟨[], none⟩, [(3, .p [(0, 0), (1, 0), (2, 0), (3, 0), (4, 2)]), (5, .p [(0, 0), (1, 0), (2, 0), (3, 0), (4, 2)]), (7, .p [(0, 0), (1, 0), (2, 0), (3, 0), (4, 2)]), (9, .p [(0, 0), (1, 0), (2, 0), (3, 0), (4, 2)]), (12, .p [(0, 0), (1, 0), (2, 0), (3, 2), (4, 0)])], _⟩ rfl (args := [_]) Tryz.func92 rfl (by kernel_rfl) Tryz.ntmps92 (by simp) (by kernel_rfl) ?_
  intro ν fr; have nuE := fr.nu
  have hen : (e != 0) = true := by simp [he]
  have bl := zsu_w rb lp lcap L A i e w he
  have tk := ztk_w rb lp lcap L A i e w he
  have f0 := fr.2 0
  have f1 := fr.2 1
  have n01 : (ν 1 = ν 0) = False := by simp [nuE]
  obtain ⟨m1, m2⟩ := rs_ne f0
  obtain ⟨m3, m4⟩ := rs_ne f1
  simp only [RS, rpB] at f0 f1 bl tk fr ⊢
  simp (maxDischargeDepth := 16) only [evN, ↓evP, simprocAttr, forall_const, nuE, fr.2, vbQk, ↓sA_usd, ↓sA_ust, rresV_v, bl, tk, hen, m1, m2, m3, m4, eq_false he]
theorem zco_w (rb : Nat) (lp : Option Addr) (lcap : Nat) (L : List LR) (A : AH) (i : Nat) (e w : Int) (he : e ≠ 0) (B_ : AH) (hB_ : SubA (RS rb lp lcap L i e w A) B_) : valA Tryz.prog 92 #[.pointer (some ⟨rb, 0, none⟩)] B_ = some (.agg #[.int .i64 0, .string ⟨#[]⟩, .string ⟨#[]⟩, .int .i64 0, .slice none 0 0]) := valA_eq (pureA_at (by kernel_rfl) (zco_h rb lp lcap L A i e w he) hB_)
theorem zcj_h (rb : Nat) (lp : Option Addr) (lcap : Nat) (L : List LR) (A : AH) (i : Nat) (e w : Int) (he : e ≠ 0) : CallA Tryz.prog 64 #[.pointer (some ⟨rb, 0, none⟩)] (RS rb lp lcap L i e w A) (fun u_ A_ => u_ = .agg #[.int .i64 0, .string ⟨#[]⟩, .string ⟨#[]⟩, .int .i64 0, .slice none 0 0] ∧ SubA (RS rb lp lcap L i e w A) A_) := by
  refine callA_of_denA ⟨Tryz.prog, 64, Tryz.f64, 13, [0, 2, 3], ⟨[], none⟩, [(3, .p [(0, 0), (1, 0), (2, 0), (3, 0), (4, 2)])], _⟩ rfl (args := [_]) Tryz.func64 rfl (by kernel_rfl) Tryz.ntmps64 (by simp) (by kernel_rfl) ?_
  intro ν fr; have nuE := fr.nu
  have hen : (e != 0) = true := by simp [he]
  have bl := zco_w rb lp lcap L A i e w he
  have tk := ztk_w rb lp lcap L A i e w he
  have f0 := fr.2 0
  have f1 := fr.2 1
  have n01 : (ν 1 = ν 0) = False := by simp [nuE]
  obtain ⟨m1, m2⟩ := rs_ne f0
  obtain ⟨m3, m4⟩ := rs_ne f1
  simp only [RS, rpB] at f0 f1 bl tk fr ⊢
  simp (maxDischargeDepth := 16) only [evN, ↓evP, simprocAttr, forall_const, nuE, fr.2, vbQk, ↓sA_usd, ↓sA_ust, rresV_v, bl, tk, hen, m1, m2, m3, m4, eq_false he]
  have dst_ : ((ν 0 = ν 1) = False) ∧ ((ν 1 = ν 0) = False) := (by simp [nuE]); generalize ν 0 = n2 at dst_  f0 f1 n01 m1 m2 m3 m4 ⊢; generalize ν 1 = n3 at dst_  f0 f1 n01 m1 m2 m3 m4 ⊢
  clear nuE fr
  have d0 := dst_
  have tk2 := fun o o' k t => ztk_w rb lp lcap L A i e w he k t ((n3, o) :: (n2, o') :: RS rb lp lcap L i e w A) (SubA.fresh (look_c1 (by simp [d0]) f1) (SubA.fresh f0 (SubA.refl _)))
  simp only [RS, rpB] at tk2
  refine LoopA.intro (by kernel_rfl) ?_
  intro ν fr; have nuE := And.intro (fr.mem (b := n3) (by simp)) (And.intro (fr.mem (b := n2) (by simp)) (fr.nu))
  simp (maxDischargeDepth := 16) only [evN, ↓evP, simprocAttr, forall_const, nuE, fr.2, vbQk, ↓sA_usd, ↓sA_ust, rresV_v, bl, tk2, hen, d0, m1, m2, m3, m4, eq_false he]
  exact SubA.fresh (look_c1 (by simp [d0]) f1) (SubA.fresh f0 (SubA.refl _))
theorem zcj_w (rb : Nat) (lp : Option Addr) (lcap : Nat) (L : List LR) (A : AH) (i : Nat) (e w : Int) (he : e ≠ 0) (B_ : AH) (hB_ : SubA (RS rb lp lcap L i e w A) B_) : valA Tryz.prog 64 #[.pointer (some ⟨rb, 0, none⟩)] B_ = some (.agg #[.int .i64 0, .string ⟨#[]⟩, .string ⟨#[]⟩, .int .i64 0, .slice none 0 0]) := valA_eq (pureA_at (by kernel_rfl) (zcj_h rb lp lcap L A i e w he) hB_)
theorem zex_h (rb : Nat) (lp : Option Addr) (lcap : Nat) (L : List LR) (A : AH) (i : Nat) (e w : Int) (he : e ≠ 0) : CallA Tryz.prog 32 #[.pointer (some ⟨rb, 0, none⟩)] (RS rb lp lcap L i e w A) (fun u_ A_ => u_ = .agg #[.int .i64 0, .string ⟨#[]⟩, .string ⟨#[]⟩, .int .i64 0, .slice none 0 0] ∧ SubA (RS rb lp lcap L i e w A) A_) := by
  refine callA_of_denA ⟨Tryz.prog, 32, Tryz.f32, 13, [0, 2, 3], ⟨[], none⟩, [(3, .p [(0, 0), (1, 0), (2, 0), (3, 0), (4, 2)])], _⟩ rfl (args := [_]) Tryz.func32 rfl (by kernel_rfl) Tryz.ntmps32 (by simp) (by kernel_rfl) ?_
  intro ν fr; have nuE := fr.nu
  have hen : (e != 0) = true := by simp [he]
  have bl := zcj_w rb lp lcap L A i e w he
  have tk := ztk_w rb lp lcap L A i e w he
  have f0 := fr.2 0
  have f1 := fr.2 1
  have n01 : (ν 1 = ν 0) = False := by simp [nuE]
  obtain ⟨m1, m2⟩ := rs_ne f0
  obtain ⟨m3, m4⟩ := rs_ne f1
  simp only [RS, rpB] at f0 f1 bl tk fr ⊢
  simp (maxDischargeDepth := 16) only [evN, ↓evP, simprocAttr, forall_const, nuE, fr.2, vbQk, ↓sA_usd, ↓sA_ust, rresV_v, bl, tk, hen, m1, m2, m3, m4, eq_false he]
  have dst_ : ((ν 0 = ν 1) = False) ∧ ((ν 1 = ν 0) = False) := (by simp [nuE]); generalize ν 0 = n2 at dst_  f0 f1 n01 m1 m2 m3 m4 ⊢; generalize ν 1 = n3 at dst_  f0 f1 n01 m1 m2 m3 m4 ⊢
  clear nuE fr
  have d0 := dst_
  have tk2 := fun o o' k t => ztk_w rb lp lcap L A i e w he k t ((n3, o) :: (n2, o') :: RS rb lp lcap L i e w A) (SubA.fresh (look_c1 (by simp [d0]) f1) (SubA.fresh f0 (SubA.refl _)))
  simp only [RS, rpB] at tk2
  refine LoopA.intro (by kernel_rfl) ?_
  intro ν fr; have nuE := And.intro (fr.mem (b := n3) (by simp)) (And.intro (fr.mem (b := n2) (by simp)) (fr.nu))
  simp (maxDischargeDepth := 16) only [evN, ↓evP, simprocAttr, forall_const, nuE, fr.2, vbQk, ↓sA_usd, ↓sA_ust, rresV_v, bl, tk2, hen, d0, m1, m2, m3, m4, eq_false he]
  exact SubA.fresh (look_c1 (by simp [d0]) f1) (SubA.fresh f0 (SubA.refl _))
end Go.Proofs.YtgglccpckhpocaaGreatDoor
