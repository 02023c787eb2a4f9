/-
ParseExpr, rules, Parse.
Conditions: none.
-/
import Derived.Test.YtgglccpckhpocaaDoorQf
set_option linter.unusedSimpArgs false
set_option linter.unusedVariables false
namespace Go.Proofs.YtgglccpckhpocaaDoor
open Go.Vm
set_option maxHeartbeats 4000000
set_option maxRecDepth 20000
theorem vbQg : type_of% (An @slIndexByte_v (An @indexByte_v (An @indexRune_v (An @containsRune_v (An @slHasPrefix_v (An @hasPrefix_v (An @classOf_v (An @isWordByte_v (An @letter_v (An @digit_v (An @wordAt_v (An @rword_v (An @skip_v (An @number_v (An @literal_v (An @lexemeAt_v (An @isName_v (An @risName_v @resV_v)))))))))))))))))) := ⟨@slIndexByte_v, @indexByte_v, @indexRune_v, @containsRune_v, @slHasPrefix_v, @hasPrefix_v, @classOf_v, @isWordByte_v, @letter_v, @digit_v, @wordAt_v, @rword_v, @skip_v, @number_v, @literal_v, @lexemeAt_v, @isName_v, @risName_v, @resV_v⟩
def z0 : Xs := .mk 0 eB eB 0 []
def r0 : Xr := ⟨0, eB, eB, 0, none, 0, 0⟩
inductive PxO (s : ByteArray) : Int → Nat → Xs → Prop
  | scan : (scanF s).1 ≠ 0 → PxO s (scanF s).1 (scanF s).2.1 z0
  | er {e : Int} {j : Nat} {x : LR} : (scanF s).1 = 0 → e ≠ 0 → Pr (scanF s).2.2 (.lv 0) 0 (.er e j) → (scanF s).2.2[j]? = some x → PxO s e x.a z0
  | more {t : Xs} {j : Nat} {x : LR} : (scanF s).1 = 0 → Pr (scanF s).2.2 (.lv 0) 0 (.ok t j) → (scanF s).2.2[j]? = some x → x.k ≠ 0 → PxO s 2 x.a z0
  | ok {t : Xs} {j : Nat} {x : LR} : (scanF s).1 = 0 → Pr (scanF s).2.2 (.lv 0) 0 (.ok t j) → (scanF s).2.2[j]? = some x → x.k = 0 → PxO s 0 0 t
theorem PxO.det {s : ByteArray} {e e' : Int} {a a' : Nat} {t t' : Xs} (h : PxO s e a t) (h' : PxO s e' a' t') : e = e' ∧ a = a' ∧ t = t' := by
  cases h with
  | scan h0 => cases h' with
    | scan => exact ⟨rfl, rfl, rfl⟩
    | er g0 => exact absurd g0 h0
    | more g0 => exact absurd g0 h0
    | ok g0 => exact absurd g0 h0
  | er h0 h1 h2 h3 => cases h' with
    | scan g0 => exact absurd h0 g0
    | er g0 g1 g2 g3 =>
      cases h2.det g2
      rw [h3] at g3
      cases g3
      exact ⟨rfl, rfl, rfl⟩
    | more g0 g1 g2 g3 => cases h2.det g1
    | ok g0 g1 g2 g3 => cases h2.det g1
  | more h0 h1 h2 h3 => cases h' with
    | scan g0 => exact absurd h0 g0
    | er g0 g1 g2 g3 => cases h1.det g2
    | more g0 g1 g2 g3 =>
      cases h1.det g1
      rw [h2] at g2
      cases g2
      exact ⟨rfl, rfl, rfl⟩
    | ok g0 g1 g2 g3 =>
      cases h1.det g1
      rw [h2] at g2
      cases g2
      exact absurd g3 h3
  | ok h0 h1 h2 h3 => cases h' with
    | scan g0 => exact absurd h0 g0
    | er g0 g1 g2 g3 => cases h1.det g2
    | more g0 g1 g2 g3 =>
      cases h1.det g1
      rw [h2] at g2
      cases g2
      exact absurd h3 g3
    | ok g0 g1 g2 g3 =>
      cases h1.det g1
      exact ⟨rfl, rfl, rfl⟩
theorem parX_h (A : AH) (s : ByteArray) (hs : s.size ≤ 100000) : CallA Tryd.prog 9 #[.string s] A (fun u_ A_ => ∃ v B, u_ = v ∧ (∃ e at_ t r, PxO s e at_ t ∧ v = .tuple #[xrV r, .int .i64 e, .int .i64 (at_ : Nat)] ∧ ExR B t r) ∧ Dis B A ∧ SubA (B ++ A) A_) := by
  refine callA_of_denA ⟨Tryd.prog, 9, Tryd.f9, 20, [0, 2, 3, 4, 5, 6, 7], ⟨[21], none⟩, [], _⟩ rfl (args := [_]) Tryd.func9 rfl (by kernel_rfl) Tryd.ntmps9 (by simp) (by kernel_rfl) ?_
  intro ν fr; have nuE := fr.nu
  have f0 := fr.2 0
  have f1 := fr.2 1
  have e01 : (ν 1 = ν 0) = False := by simp [nuE]
  simp (maxDischargeDepth := 16) only [evN, ↓evP, simprocAttr, forall_const, nuE, fr.2, vbQg]
  have dst_ : ((ν 0 = ν 1) = False) ∧ ((ν 1 = ν 0) = False) := (by simp [nuE]); generalize ν 0 = n2 at dst_  f0 f1 e01 ⊢; generalize ν 1 = xb at dst_  f0 f1 e01 ⊢
  clear nuE fr dst_
  refine CallA.toX (read_h [(xb, zX)] s hs 22 (.pointer (some ⟨xb, 0, none⟩)) (fun e j => Pr (scanF s).2.2 (.lv 0) 0 (.er e j)) (fun j A' => ∃ t r, Pr (scanF s).2.2 (.lv 0) 0 (.ok t j) ∧ ExR A' t r ∧ Vm.look A' xb = some (xB r)) (by kernel_rfl) ?_) (SubA.left [_] _) ((n2, zX) :: A) ?_ ?_ ?_
  · intro pb cb lp lcap B h0 hp dB n1 n2
    have hpos : 0 < (scanF s).2.2.length := by
      obtain ⟨K, hS, _⟩ := scan_out h0
      rw [hS]; simp
    have hx : Vm.look (PS pb cb lp lcap (scanF s).2.2 0 B) xb = none := by
      have m1 := (look_ne n1 (show Vm.look [(xb, zX)] xb = some zX by simp [Vm.look])).1
      have m2 := (look_ne n2 (show Vm.look [(xb, zX)] xb = some zX by simp [Vm.look])).1
      simp only [PS, Vm.look, m1, m2, if_false]
      exact dB xb (by simp [Vm.look])
    refine CallE.useX (pexE_h pb cb lp lcap (scanF s).2.2 B hp 0 hpos xb hx) (SubA.both (X := [(xb, zX)]) (Dis.one hx).symm.right (SubA.left (PS pb cb lp lcap (scanF s).2.2 0 B) _)) [] (SubA.nil _) (fun x hx => absurd rfl hx) ?_ ?_
    · rintro ch D ⟨e, j, x, h1, h2, h3, h4, _⟩ _
      exact ⟨[], SubA.nil _, e, j, x, h1, h2, h3, h4⟩
    · rintro v D ⟨t, j, r, A', hq, hr, hj, hsub, hp', hxb, hD⟩ _
      have m3 := (hp'.far hxb).1
      have m4 := (hp'.far hxb).2
      have hxA : Vm.look A' xb = none := (show SubA A' (PS pb cb lp lcap (scanF s).2.2 j A') from SubA.skip (by simp [Vm.look, hp'.nc, hp'.ne]) (SubA.skip hp'.np (SubA.refl _))).none hxb
      refine ⟨PS pb cb lp lcap (scanF s).2.2 j (A' ++ [(xb, xB r)]), ?_, j, A' ++ [(xb, xB r)], ⟨t, r, hq, hr.mono (SubA.left _ _), by rw [look_app hxA]; simp [Vm.look]⟩, hj, ?_, by rw [List.append_nil]; exact SubA.refl _⟩
      · refine SubA.trans (show SubA (PS pb cb lp lcap (scanF s).2.2 j A' ++ [(xb, xB r)]) ([(xb, xB r)] ++ PS pb cb lp lcap (scanF s).2.2 j A') from SubA.both (Dis.one hxb).right (SubA.left _ _)) hD
      · exact ⟨hp'.ne, hp'.en, look_app_none hp'.np (by simp [Vm.look, m3.1]), look_app_none hp'.nc (by simp [Vm.look, m4.1]), hp'.hL.mono (SubA.left _ _), hp'.hl, hp'.he⟩
  · exact SubA.fresh (look_c1 (eq_false fun h => by rw [h] at e01; simp at e01) f1) (SubA.refl _)
  · exact Dis.one (look_c1 (eq_false fun h => by rw [h] at e01; simp at e01) f1)
  · rintro u D hu dD
    have h9 : (∃ (e : Int) (at_ : Nat), e ≠ 0 ∧ PxO s e at_ z0 ∧ u = .tuple #[.int .i64 e, .int .i64 (at_ : Nat)]) ∨ ∃ A' t r, PxO s 0 0 t ∧ ExR A' t r ∧ Vm.look A' xb = some (xB r) ∧ u = .tuple #[.int .i64 0, .int .i64 0] ∧ SubA A' D := by
      rcases hu with ⟨h0, rfl, hD⟩ | ⟨h0, ⟨e, j, x, h1, h2, h3, rfl⟩ | ⟨j, A', x, ⟨t, r, hq, hr, hxb⟩, hx, ⟨hk, rfl, hD⟩ | ⟨hk, rfl⟩⟩⟩
      · exact .inl ⟨_, _, h0, .scan h0, rfl⟩
      · exact .inl ⟨_, _, h1, .er h0 h1 h2 h3, rfl⟩
      · exact .inr ⟨A', t, r, .ok h0 hq hx hk, hr, hxb, rfl, hD⟩
      · exact .inl ⟨_, _, by decide, .more h0 hq hx hk, rfl⟩
    clear hu
    rcases h9 with ⟨e, at_, he, hP, rfl⟩ | ⟨A', t, r, hP, hr, hxb, rfl, hD⟩
    · refine ⟨(n2, zX) :: A, dD.right, ?_⟩
      have ne0 : (e != 0) = true := by simp [he]
      clear dD
      simp only [zX]
      intro ν fr; have nuE := And.intro (fr.mem (b := n2) (by simp)) (fr.nu)
      simp (maxDischargeDepth := 16) only [evN, ↓evP, simprocAttr, forall_const, nuE, fr.2, vbQg, ne0]
      exact ⟨_, [], rfl, ⟨e, at_, z0, r0, hP, rfl, ExR.leaf _ _ _ _ _ _ _⟩, Dis.nil _, SubA.fresh f0 (SubA.refl _)⟩
    · have dD2 : Dis A' ((n2, zX) :: A) := dD.subl hD
      have f0' : Vm.look A' n2 = none := dD2 n2 (by simp [Vm.look])
      have dA : Dis A' A := Dis.subr dD2 (SubA.fresh f0 (SubA.refl _))
      have e10 : (n2 = xb) = False := eq_false fun h => by rw [h] at e01; simp at e01
      have fA : Vm.look (A' ++ A) n2 = none := look_app_none f0' f0
      have lx : Vm.look (A' ++ A) xb = some (xB r) := SubA.left A' A xb _ hxb
      refine ⟨(n2, zX) :: (A' ++ A), ?_, ?_⟩
      · refine SubA.both (X := [(n2, zX)]) (SubA.trans (SubA.left [_] A) dD.right) (SubA.both (SubA.trans hD (SubA.left _ _)) (SubA.trans (SubA.fresh f0 (SubA.refl _)) dD.right))
      · clear dD hD dD2
        simp only [zX, xB] at lx ⊢
        intro ν fr; have nuE := And.intro (fr.mem (b := n2) (by simp)) (fr.nu)
        simp (maxDischargeDepth := 16) only [evN, ↓evP, simprocAttr, forall_const, nuE, fr.2, vbQg, e10, lx]
        exact ⟨_, A', rfl, ⟨0, 0, t, r, hP, rfl, hr⟩, dA, SubA.fresh fA (SubA.refl _)⟩
end Go.Proofs.YtgglccpckhpocaaDoor
namespace Go.Proofs.YtgglccpckhpocaaDoor
open Go.Vm
set_option maxHeartbeats 4000000
set_option maxRecDepth 20000
structure Rur where
  nm : ByteArray
  w : Xr
  act : Int
  sc : Int
def ruC (u : Rur) : List Value := [.string u.nm, .int .i64 u.w.op, .string u.w.nm, .string u.w.tx, .int .i64 u.w.n, .slice u.w.p u.w.len u.w.cap, .int .i64 u.act, .int .i64 u.sc]
theorem ruC_len (r : Rur) : (ruC r).length = 8 := rfl
structure Ru where
  nm : ByteArray
  w : Xs
  act : Int
  sc : Int
def RuR (A : AH) (u : Ru) (r : Rur) : Prop := r.nm = u.nm ∧ ExR A u.w r.w ∧ r.act = u.act ∧ r.sc = u.sc
theorem RuR.mono {A B : AH} {u : Ru} {r : Rur} (h : RuR A u r) (hs : SubA A B) : RuR B u r := ⟨h.1, h.2.1.mono hs, h.2.2⟩
def idxR (nm : ByteArray) : List Rur → Option Nat
  | [] => none
  | u :: l => if u.nm.toList = nm.toList then some 0 else (idxR nm l).map (· + 1)
def hasR (nm : ByteArray) (l : List Rur) : Bool := l.any fun u => decide (u.nm.toList = nm.toList)
theorem idxR_has (nm : ByteArray) : ∀ l, (idxR nm l).isSome = hasR nm l
  | [] => rfl
  | u :: l => by
    simp only [idxR, hasR, List.any_cons]
    split
    · rename_i h; simp [h]
    · rename_i h; simp [h]; have := idxR_has nm l; simpa [hasR] using this
def optJ : Option Nat → Int
  | none => -1
  | some i => (i : Int)
theorem rule1_h (A : AH) (u r : Rur) (xb : Nat) (e : TypeId) (hx : Vm.look A xb = some (.cells (ruC r).toArray e)) : CallA Tryd.prog 46 #[.agg #[.string u.nm, .int .i64 u.w.op, .string u.w.nm, .string u.w.tx, .int .i64 u.w.n, .slice u.w.p u.w.len u.w.cap, .int .i64 u.act, .int .i64 u.sc], .pointer (some ⟨xb, 0, none⟩)] A (fun u_ A_ => u_ = .bool (decide (u.nm.toList = r.nm.toList)) ∧ SubA A A_) := by
  refine callA_of_denA ⟨Tryd.prog, 46, Tryd.f46, 9, [0, 1, 2, 3], ⟨[], none⟩, [], _⟩ rfl (args := [_, _]) Tryd.func46 rfl (by kernel_rfl) Tryd.ntmps46 (by simp) (by kernel_rfl) ?_
  intro ν fr; have nuE := fr.nu
  have f0 := fr.2 0
  obtain ⟨n1, n2⟩ := look_ne f0 hx
  simp only [ruC] at hx
  simp (maxDischargeDepth := 16) only [evN, ↓evP, simprocAttr, forall_const, nuE, fr.2, vbQg, hx, n1, n2]
  congr 1
  rw [Bool.eq_iff_iff]
  simp
theorem rule1_v (A : AH) (u r : Rur) (xb : Nat) (e : TypeId) (hx : Vm.look A xb = some (.cells (ruC r).toArray e)) : valA Tryd.prog 46 #[.agg #[.string u.nm, .int .i64 u.w.op, .string u.w.nm, .string u.w.tx, .int .i64 u.w.n, .slice u.w.p u.w.len u.w.cap, .int .i64 u.act, .int .i64 u.sc], .pointer (some ⟨xb, 0, none⟩)] A = some (.bool (decide (u.nm.toList = r.nm.toList))) := valA_eq (pureA_at (by kernel_rfl) (rule1_h A u r xb e hx) (SubA.refl _))
theorem idxF_h (A : AH) (L : List Rur) (p : Option Addr) (cap : Nat) (hL : StR ruC 8 A p L) (hl : L.length ≤ 1000000) (r : Rur) (xb : Nat) (e : TypeId) (hx : Vm.look A xb = some (.cells (ruC r).toArray e)) : CallA Tryd.prog 65 #[.slice p L.length cap, .func (.func 46) #[] #[.pointer (some ⟨xb, 0, none⟩)]] A (fun u_ A_ => u_ = .int .i64 (optJ (idxR r.nm L)) ∧ SubA A A_) := by
  refine callA_of_denA ⟨Tryd.prog, 65, Tryd.f65, 19, [0, 1, 4, 5, 7, 8], ⟨[], none⟩, [], _⟩ rfl (args := [_, _]) Tryd.func65 rfl (by kernel_rfl) Tryd.ntmps65 (by simp) (by kernel_rfl) ?_
  intro ν fr; have nuE := fr.nu
  simp (maxDischargeDepth := 16) only [evN, ↓evP, simprocAttr, forall_const, nuE, fr.2, vbQg]
  obtain ⟨e1, l, he, hd, hle, hx1⟩ : ∃ (e : Nat) (l : List Rur), e = 0 ∧ l = L.drop e ∧ e ≤ L.length ∧ idxR r.nm L = (idxR r.nm l).map (· + e) := ⟨0, L, rfl, rfl, by omega, by cases idxR r.nm L <;> simp⟩
  rw [show (8, some (Value.int .i64 0)) = (8, some (Value.int .i64 (e1 : Int))) by rw [he]; rfl]
  clear he nuE fr
  induction l generalizing e1 with
  | nil =>
    obtain ⟨hn1, hn2⟩ := drop_nil hd hle
    have lt : ((e1 : Int) < (L.length : Int)) = False := eq_false (by omega)
    refine LoopA.intro (by kernel_rfl) ?_
    intro ν fr; have nuE := fr.nu
    simp (maxDischargeDepth := 16) only [evN, ↓evP, simprocAttr, forall_const, nuE, fr.2, vbQg, lt]
    rw [hx1]; rfl
  | cons x l ih =>
    obtain ⟨ha, hlt, hd', htk⟩ := drop_some hd
    have lt : ((e1 : Int) < (L.length : Int)) = True := eq_true (by omega)
    have li : ((e1 : Int) < 0) = False := eq_false (by omega)
    have we : IntKind.i64.wrap ((e1 : Int) + 1) = ((e1 + 1 : Nat) : Int) := by rw [w_i64 (by omega) (by omega)]; omega
    obtain ⟨bk, off, cs, ty, fr0, hp0, hbk, hcr, hcc⟩ := hL.at ha
    subst hp0
    simp only [ruC] at hcr
    have rv := rule1_v A x r xb e hx
    refine LoopA.intro (by kernel_rfl) ?_
    intro ν fr; have nuE := fr.nu
    by_cases hs : x.nm.toList = r.nm.toList
    · have hs' := eq_true hs
      simp (maxDischargeDepth := 16) only [evN, ↓evP, simprocAttr, forall_const, nuE, fr.2, vbQg, lt, li, hbk, hcr, rv, hs', we]
      rw [hx1]; simp [idxR, hs, optJ]
    · have hs' := eq_false hs
      simp (maxDischargeDepth := 16) only [evN, ↓evP, simprocAttr, forall_const, nuE, fr.2, vbQg, lt, li, hbk, hcr, rv, hs', we]
      exact LoopA.weak (ih (e1 + 1) hd' (by omega) (by rw [hx1]; simp only [idxR, if_neg hs, Option.map_map]; congr 1; funext i; simp only [Function.comp]; omega)) (by simp only [subE, get_cons, Nat.reduceEqDiff, ↓reduceIte, reduceCtorEq, Nat.reduceAdd, and_self, and_true]) (SubA.refl _)
theorem idxF_w (A : AH) (L : List Rur) (p : Option Addr) (cap : Nat) (hL : StR ruC 8 A p L) (hl : L.length ≤ 1000000) (r : Rur) (xb : Nat) (e : TypeId) (hx : Vm.look A xb = some (.cells (ruC r).toArray e)) (B_ : AH) (hB_ : SubA A B_) : valA Tryd.prog 65 #[.slice p L.length cap, .func (.func 46) #[] #[.pointer (some ⟨xb, 0, none⟩)]] B_ = some (.int .i64 (optJ (idxR r.nm L))) := valA_eq (pureA_at (by kernel_rfl) (idxF_h A L p cap hL hl r xb e hx) hB_)
theorem conF_h (A : AH) (L : List Rur) (p : Option Addr) (cap : Nat) (hL : StR ruC 8 A p L) (hl : L.length ≤ 1000000) (r : Rur) (xb : Nat) (e : TypeId) (hx : Vm.look A xb = some (.cells (ruC r).toArray e)) : CallA Tryd.prog 45 #[.slice p L.length cap, .func (.func 46) #[] #[.pointer (some ⟨xb, 0, none⟩)]] A (fun u_ A_ => u_ = .bool (hasR r.nm L) ∧ SubA A A_) := by
  refine callA_of_denA ⟨Tryd.prog, 45, Tryd.f45, 9, [0, 1, 4], ⟨[], none⟩, [], _⟩ rfl (args := [_, _]) Tryd.func45 rfl (by kernel_rfl) Tryd.ntmps45 (by simp) (by kernel_rfl) ?_
  intro ν fr; have nuE := fr.nu
  have iv := idxF_w A L p cap hL hl r xb e hx
  have hm := idxR_has r.nm L
  cases hi : idxR r.nm L with
  | none =>
    rw [hi] at hm iv
    have hm' : hasR r.nm L = false := hm.symm
    simp (maxDischargeDepth := 16) only [evN, ↓evP, simprocAttr, forall_const, nuE, fr.2, vbQg, iv, optJ, hm']
  | some i =>
    rw [hi] at hm iv
    have hm' : hasR r.nm L = true := hm.symm
    have h0 : (0 ≤ (i : Int)) := by omega
    simp (maxDischargeDepth := 16) only [evN, ↓evP, simprocAttr, forall_const, nuE, fr.2, vbQg, iv, optJ, hm', h0]
theorem conF_v (A : AH) (L : List Rur) (p : Option Addr) (cap : Nat) (hL : StR ruC 8 A p L) (hl : L.length ≤ 1000000) (r : Rur) (xb : Nat) (e : TypeId) (hx : Vm.look A xb = some (.cells (ruC r).toArray e)) : valA Tryd.prog 45 #[.slice p L.length cap, .func (.func 46) #[] #[.pointer (some ⟨xb, 0, none⟩)]] A = some (.bool (hasR r.nm L)) := valA_eq (pureA_at (by kernel_rfl) (conF_h A L p cap hL hl r xb e hx) (SubA.refl _))
end Go.Proofs.YtgglccpckhpocaaDoor
namespace Go.Vm
theorem CallE.par {P : Program} {g : FuncId} {args : Array Value} {E Y X : AH} {X0 Z : List PanicEntry → AH → Prop} {K0 K : Value → AH → Prop} (hc : CallE P g args E X0 K0) (hd : Dis E Y) (hX : Dis E X) (hYX : Dis Y X)
    (hx : ∀ ch D, X0 ch D → Z ch D) (hk : ∀ v D, K0 v D → Dis D (Y ++ X) → ∃ F, SubA F D ∧ K v (Y ++ (F ++ X))) : CallE P g args (Y ++ (E ++ X)) Z K := by
  refine CallE.to hc (SubA.trans (SubA.left E X) (Dis.appr hd.symm hYX).right) (Y ++ X) (SubA.app hX.right) (Dis.appr hd hX) (fun ch D h dD => ⟨D, SubA.left _ _, hx ch D h⟩) fun v D h dD => ?_
  obtain ⟨F, h1, h2⟩ := hk v D h dD
  exact ⟨_, SubA.both (SubA.trans (SubA.left Y X) dD.right) (SubA.both (SubA.trans h1 (SubA.left _ _)) (SubA.trans hYX.right dD.right)), h2⟩
end Go.Vm
namespace Go.Proofs.YtgglccpckhpocaaDoor
open Go.Vm
set_option maxHeartbeats 4000000
set_option maxRecDepth 20000
def hasU (nm : ByteArray) (l : List Ru) : Bool := l.any fun u => decide (u.nm.toList = nm.toList)
theorem hasU_eq (nm : ByteArray) : ∀ {rs : List Rur} {us : List Ru}, rs.map Rur.nm = us.map Ru.nm → hasR nm rs = hasU nm us
  | [], [], _ => rfl
  | [], u :: us, h => by simp at h
  | r :: rs, [], h => by simp at h
  | r :: rs, u :: us, h => by
    simp only [List.map_cons, List.cons.injEq] at h
    have := hasU_eq nm h.2
    simp only [hasR, hasU, List.any_cons, h.1] at this ⊢
    rw [this]
def ruB : ByteArray := ⟨#[114, 117, 108, 101]⟩
def ruH (L : List LR) (us : List Ru) (i : Nat) : Option (Int × Nat) :=
  if 64 ≤ us.length ∧ isL (lxA L i) 1 ruB = true then some (3, i)
  else if isL (lxA L i) 1 ruB = false then some (2, i)
  else if nmB (lxA L (i + 1)) = false then some (2, i + 1)
  else if hasU (lxA L (i + 1)).t us = true then some (7, i + 1)
  else if isL (lxA L (i + 2)) 1 ⟨#[119, 104, 101, 110]⟩ = false then some (2, i + 2) else none
def ruT (L : List LR) (j : Nat) : Int × Nat × Int × Int :=
  if isL (lxA L j) 4 ⟨#[58]⟩ = false then (2, j, 0, 0)
  else match acX (lxA L (j + 1)) with
    | none => (2, j + 1, 0, 0)
    | some a =>
      if isL (lxA L (j + 2)) 1 ⟨#[115, 99, 111, 114, 101]⟩ = true then
        (if nuB (lxA L (j + 3)) 1000 = false then (2, j + 3, 0, 0) else if isL (lxA L (j + 4)) 4 ⟨#[59]⟩ = false then (2, j + 4, 0, 0) else (0, j + 5, a, (lxA L (j + 3)).n))
      else if isL (lxA L (j + 2)) 4 ⟨#[59]⟩ = false then (2, j + 2, 0, 0) else (0, j + 3, a, 0)
inductive PuE (L : List LR) (us : List Ru) (i : Nat) : Int → Nat → Prop
  | h {e : Int} {j : Nat} : ruH L us i = some (e, j) → PuE L us i e j
  | x {e : Int} {j : Nat} : ruH L us i = none → Pr L (.lv 0) (i + 3) (.er e j) → PuE L us i e j
  | t {t : Xs} {e a s : Int} {j k : Nat} : ruH L us i = none → Pr L (.lv 0) (i + 3) (.ok t j) → ruT L j = (e, k, a, s) → e ≠ 0 → PuE L us i e k
inductive PuO (L : List LR) (us : List Ru) (i : Nat) : Ru → Nat → Prop
  | ok {t : Xs} {a s : Int} {j k : Nat} : ruH L us i = none → Pr L (.lv 0) (i + 3) (.ok t j) → ruT L j = (0, k, a, s) → PuO L us i ⟨(lxA L (i + 1)).t, t, a, s⟩ k
def ruV (r : Rur) : Value := .agg #[.string r.nm, .int .i64 r.w.op, .string r.w.nm, .string r.w.tx, .int .i64 r.w.n, .slice r.w.p r.w.len r.w.cap, .int .i64 r.act, .int .i64 r.sc]
def PuX (L : List LR) (us : List Ru) (i : Nat) (ch : List PanicEntry) (D : AH) : Prop := ∃ e j x, e ≠ 0 ∧ PuE L us i e j ∧ L[j]? = some x ∧ ch = flr e (x.a : Int)
theorem PuX.of {L : List LR} {us : List Ru} {i : Nat} {pb cb : Nat} {lp : Option Addr} {lcap j : Nat} {A : AH} {e : Int} {ch : List PanicEntry} {D : AH} (h : Er pb cb lp lcap L A e j ch D) (he : e ≠ 0) (hu : PuE L us i e j) : PuX L us i ch D := by
  obtain ⟨x, h1, h2, h3⟩ := h
  exact ⟨e, j, x, he, hu, h1, h2⟩
theorem acX_k {x : LR} {a : Int} (h : acX x = some a) : x.k ≠ 0 := by
  unfold acX at h
  split at h
  · rename_i h1; rw [isL_k h1]; decide
  · split at h
    · rename_i h1; rw [isL_k h1]; decide
    · split at h
      · rename_i h1; rw [isL_k h1]; decide
      · cases h
theorem ite3 {a b c : Prop} [Decidable a] [Decidable b] [Decidable c] {F E : Prop} (h : ¬ (a ∧ b ∧ c)) (hE : E) : if a then (if b then (if c then F else E) else E) else E := by
  split
  · split
    · split
      · rename_i h1 h2 h3; exact absurd ⟨h1, h2, h3⟩ h
      · exact hE
    · exact hE
  · exact hE
theorem _root_.Go.Vm.Dis.ps {pb cb : Nat} {lp : Option Addr} {lcap i j : Nat} {L : List LR} {A X : AH} (h : Dis (PS pb cb lp lcap L i A) X) : Dis (PS pb cb lp lcap L j A) X := fun x hx => ps_none (h x hx)
theorem ruleE_h (pb cb : Nat) (lp : Option Addr) (lcap : Nat) (L : List LR) (A X : AH) (hp : PsOk pb cb lp L A) (i : Nat) (hi : i < L.length) (hX : Dis (PS pb cb lp lcap L i A) X) (us : List Ru) (rs : List Rur) (p : Option Addr) (cap : Nat) (hl : rs.length ≤ 1000000) (hrs : rs.map Rur.nm = us.map Ru.nm) (hS : StR ruC 8 X p rs) : CallE Tryd.prog 26 #[.pointer (some ⟨pb, 0, none⟩), .slice p rs.length cap] (PS pb cb lp lcap L i (A ++ X)) (PuX L us i) (fun u_ A_ => ∃ u j r A', PuO L us i u j ∧ u_ = ruV r ∧ RuR A' u r ∧ j < L.length ∧ SubA A A' ∧ PsOk pb cb lp L A' ∧ Dis (PS pb cb lp lcap L j A') X ∧ SubA (PS pb cb lp lcap L j (A' ++ X)) A_) := by
  refine callE_of_denA ⟨Tryd.prog, 26, Tryd.f26, 63, [0, 1, 4, 5, 6], ⟨[43, 44, 39, 47, 23, 48, 49, 41, 50], some (PuX L us i)⟩, [], _⟩ rfl (args := [_, _]) Tryd.func26 rfl (by kernel_rfl) Tryd.ntmps26 (by simp) (by kernel_rfl) ?_
  intro ν fr; have nuE := fr.nu
  have hlen : rs.length = us.length := by have := congrArg List.length hrs; simpa using this
  have f0 := fr.2 0
  have g3 := fr.2 1
  obtain ⟨x0, hx0, e0⟩ := at_of hi
  have sA : SubA (PS pb cb lp lcap L i A) (PS pb cb lp lcap L i (A ++ X)) := SubA.left (PS pb cb lp lcap L i A) X
  have sX : SubA X (PS pb cb lp lcap L i (A ++ X)) := hX.right
  have pk := fun o => peekS_w ((pb, pB cb) :: A) cb L lp lcap hp.base.1 hp.base.2 i x0 hx0 ((ν 0, o) :: PS pb cb lp lcap L i (A ++ X)) (SubA.fresh f0 sA)
  obtain ⟨⟨m1, m2⟩, m3, m4⟩ := hp.far (sA.none f0)
  obtain ⟨⟨m5, m6⟩, m7, m8⟩ := hp.far (sA.none g3)
  simp only [PS, pB, lexV] at pk ⊢
  simp (maxDischargeDepth := 16) only [evN, ↓evP, simprocAttr, forall_const, nuE, fr.2, vbQg, pk, m1, m2, m3, m4, m5, m6, m7, m8, hp.ne, hp.en]
  have dst_ : ((ν 0 = ν 1) = False) ∧ ((ν 1 = ν 0) = False) := (by simp [nuE]); generalize ν 0 = n4 at dst_  f0 g3 m1 m2 m3 m4 m5 m6 m7 m8 ⊢; generalize ν 1 = n5 at dst_  f0 g3 m1 m2 m3 m4 m5 m6 m7 m8 ⊢
  clear nuE fr pk
  have d45 := dst_
  have gA4 := sA.none f0
  have gA5 := sA.none g3
  have gX4 := sX.none f0
  have gX5 := sX.none g3
  have c1 : (64 ≤ (rs.length : Int)) = (64 ≤ us.length) := propext (by omega)
  have c2 : (isL x0 1 ruB = true) = (x0.k = 1 ∧ x0.t.toList = ByteArray.toList ⟨#[114, 117, 108, 101]⟩) := by simp [isL, ruB]
  by_cases hbig : 64 ≤ us.length ∧ isL x0 1 ruB = true
  · rw [c2] at hbig
    rw [if_pos (by rw [c1]; exact hbig.1), if_pos hbig.2.1, if_pos hbig.2.2]
    rw [← c2] at hbig
    refine CallE.par (Y := [(n5, _), (n4, _)]) (failE_h pb cb lp lcap L A hp i x0 hx0 3) (dis2 gA5 gA4) hX (dis2 gX5 gX4).symm (fun ch D ⟨h1, h2⟩ => ⟨3, i, x0, by decide, .h (by unfold ruH; rw [e0, if_pos hbig]), hx0, h1⟩) ?_
    intro v D h _
    exact h.elim
  refine ite3 (by rw [c1, ← c2]; exact hbig) ?_
  refine CallE.par (Y := [(n5, _), (n4, _)]) (wordE_h pb cb lp lcap L A hp i x0 hx0 ruB) (dis2 gA5 gA4) hX (dis2 gX5 gX4).symm (fun ch D ⟨h1, h2⟩ => PuX.of h2 (by decide) (.h (by unfold ruH; rw [e0, if_neg hbig, if_pos h1]))) ?_
  rintro v D ⟨h0, hD⟩ dD
  refine ⟨_, hD, ?_⟩
  obtain ⟨q1, q2⟩ := nx_of hp.he hx0 (by rw [isL_k h0]; decide)
  rw [q1]
  clear hD dD D
  obtain ⟨x1, hx1, e1⟩ := at_of q2
  simp only [PS, pB, List.cons_append, List.nil_append]
  intro ν fr; have nuE := And.intro (fr.mem (b := n5) (by simp)) (And.intro (fr.mem (b := n4) (by simp)) (fr.nu))
  have f6 : Vm.look ((n5, _) :: (n4, _) :: PS pb cb lp lcap L (i + 1) (A ++ X)) (ν 0) = none := fr.2 0
  simp (maxDischargeDepth := 16) only [evN, ↓evP, simprocAttr, forall_const, nuE, fr.2, vbQg]
  have dst_ : ((ν 0 = n5) = False) ∧ ((ν 0 = n4) = False) ∧ ((n5 = ν 0) = False) ∧ ((n4 = ν 0) = False) := (by simp [nuE]); generalize ν 0 = n6 at dst_  f6 ⊢
  --MARK
  clear nuE fr
  have d6 := dst_
  have g6 : Vm.look (PS pb cb lp lcap L (i + 1) (A ++ X)) n6 = none := by
    simpa only [Vm.look, d6, if_false] using f6
  have gA6 := (SubA.left (PS pb cb lp lcap L (i + 1) A) X).none g6
  have gX6 := (hX.ps (j := i + 1)).right.none g6
  obtain ⟨⟨m9, m10⟩, m11, m12⟩ := hp.far gA6
  have sXW : SubA X ((n6, .cells #[.string x1.t, .int .i64 0, .string ⟨#[]⟩, .string ⟨#[]⟩, .int .i64 0, .slice none 0 0, .int .i64 0, .int .i64 0] 37) :: (n5, .cells #[.int .i64 x0.k, .string x0.t, .int .i64 x0.n, .int .i64 (x0.a : Int)] 56) :: (n4, .cells #[.string ⟨#[]⟩, .int .i64 0, .string ⟨#[]⟩, .string ⟨#[]⟩, .int .i64 0, .slice none 0 0, .int .i64 0, .int .i64 0] 37) :: PS pb cb lp lcap L (i + 1) (A ++ X)) := SubA.skip gX6 (SubA.skip gX5 (SubA.skip gX4 (hX.ps (j := i + 1)).right))
  refine CallE.par (Y := [(n6, _), (n5, _), (n4, _)]) (peekE_h pb cb lp lcap L A hp (i + 1) x1 hx1) (dis3 gA6 (ps_none gA5) (ps_none gA4)) hX.ps (dis3 gX6 gX5 gX4).symm (fun ch D ⟨h1, h2⟩ => PuX.of h2 (by decide) (.h (by unfold ruH; rw [e0, if_neg hbig, if_neg (by rw [h0]; decide), e1, if_pos h1]))) ?_
  rintro v D ⟨h1, rfl, hD⟩ dD
  refine ⟨_, hD, ?_⟩
  have cv := conF_v ((n6, .cells #[.string x1.t, .int .i64 0, .string ⟨#[]⟩, .string ⟨#[]⟩, .int .i64 0, .slice none 0 0, .int .i64 0, .int .i64 0] 37) :: (n5, .cells #[.int .i64 x0.k, .string x0.t, .int .i64 x0.n, .int .i64 (x0.a : Int)] 56) :: (n4, .cells #[.string ⟨#[]⟩, .int .i64 0, .string ⟨#[]⟩, .string ⟨#[]⟩, .int .i64 0, .slice none 0 0, .int .i64 0, .int .i64 0] 37) :: PS pb cb lp lcap L (i + 1) (A ++ X)) rs p cap (hS.mono sXW) hl ⟨x1.t, r0, 0, 0⟩ n6 37 (by simp [Vm.look, ruC, r0, eB])
  rw [hasU_eq x1.t hrs] at cv
  simp only [PS, pB] at cv
  clear hD dD D
  simp only [PS, pB, List.cons_append, List.nil_append]
  intro ν fr; have nuE := And.intro (fr.mem (b := n6) (by simp)) (And.intro (fr.mem (b := n5) (by simp)) (And.intro (fr.mem (b := n4) (by simp)) (fr.nu)))
  cases hh : hasU x1.t us with
  | true =>
    rw [hh] at cv
    simp (maxDischargeDepth := 16) only [evN, ↓evP, simprocAttr, forall_const, nuE, fr.2, vbQg, m1, m2, m3, m4, m5, m6, m7, m8, m9, m10, m11, m12, d45, d6, hp.ne, hp.en, cv]
    clear nuE fr
    refine CallE.par (Y := [(n6, _), (n5, _), (n4, _)]) (failE_h pb cb lp lcap L A hp (i + 1) x1 hx1 7) (dis3 gA6 (ps_none gA5) (ps_none gA4)) hX.ps (dis3 gX6 gX5 gX4).symm (fun ch D ⟨h2, h3⟩ => ⟨7, i + 1, x1, by decide, .h (by unfold ruH; rw [e0, if_neg hbig, if_neg (by rw [h0]; decide), e1, if_neg (by rw [h1]; decide), if_pos hh]), hx1, h2⟩) ?_
    intro v D h _
    exact h.elim
  | false =>
    rw [hh] at cv
    simp (maxDischargeDepth := 16) only [evN, ↓evP, simprocAttr, forall_const, nuE, fr.2, vbQg, m1, m2, m3, m4, m5, m6, m7, m8, m9, m10, m11, m12, d45, d6, hp.ne, hp.en, cv]
    clear nuE fr
    refine CallE.par (Y := [(n6, _), (n5, _), (n4, _)]) (CallE.of (X := fun _ _ => False) (nextS_h ((pb, pB cb) :: A) cb L lp lcap hp.base.1 hp.base.2 hp.hl (i + 1) x1 hx1)) (dis3 gA6 (ps_none gA5) (ps_none gA4)) hX.ps (dis3 gX6 gX5 gX4).symm (fun ch D h => h.elim) ?_
    rintro v D ⟨rfl, hD⟩ dD
    refine ⟨PS pb cb lp lcap L (nxS L (i + 1)) A, hD, ?_⟩
    obtain ⟨q3, q4⟩ := nx_of hp.he hx1 (nmB_k h1)
    rw [q3]
    obtain ⟨x2, hx2, e2⟩ := at_of q4
    clear hD dD D
    simp only [PS, pB, List.cons_append, List.nil_append, lexV]
    intro ν fr; have nuE := And.intro (fr.mem (b := n6) (by simp)) (And.intro (fr.mem (b := n5) (by simp)) (And.intro (fr.mem (b := n4) (by simp)) (fr.nu)))
    simp (maxDischargeDepth := 16) only [evN, ↓evP, simprocAttr, forall_const, nuE, fr.2, vbQg, m1, m2, m3, m4, m5, m6, m7, m8, m9, m10, m11, m12, d45, d6, hp.ne, hp.en]
    clear nuE fr
    refine CallE.par (Y := [(n6, _), (n5, _), (n4, _)]) (wordE_h pb cb lp lcap L A hp (i + 1 + 1) x2 hx2 ⟨#[119, 104, 101, 110]⟩) (dis3 (ps_none gA6) (ps_none gA5) (ps_none gA4)) hX.ps (dis3 gX6 gX5 gX4).symm (fun ch D ⟨h2, h3⟩ => PuX.of h3 (by decide) (.h (by unfold ruH; rw [e0, if_neg hbig, if_neg (by rw [h0]; decide), e1, if_neg (by rw [h1]; decide), if_neg (by rw [hh]; decide), show i + 2 = i + 1 + 1 from rfl, e2, if_pos h2]))) ?_
    rintro v D ⟨h2, hD⟩ dD
    refine ⟨_, hD, ?_⟩
    obtain ⟨q5, q6⟩ := nx_of hp.he hx2 (by rw [isL_k h2]; decide)
    rw [q5]
    have hH : ruH L us i = none := by unfold ruH; rw [e0, if_neg hbig, if_neg (by rw [h0]; decide), e1, if_neg (by rw [h1]; decide), if_neg (by rw [hh]; decide), show i + 2 = i + 1 + 1 from rfl, e2, if_neg (by rw [h2]; decide)]
    clear hD dD D
    simp only [PS, pB, List.cons_append, List.nil_append]
    intro ν fr; have nuE := And.intro (fr.mem (b := n6) (by simp)) (And.intro (fr.mem (b := n5) (by simp)) (And.intro (fr.mem (b := n4) (by simp)) (fr.nu)))
    simp (maxDischargeDepth := 16) only [evN, ↓evP, simprocAttr, forall_const, nuE, fr.2, vbQg, m1, m2, m3, m4, m5, m6, m7, m8, m9, m10, m11, m12, d45, d6, hp.ne, hp.en]
    clear nuE fr
    refine CallE.par (Y := [(n6, _), (n5, _), (n4, _)]) (exprC pb cb lp lcap L A hp (i + 1 + 1 + 1) q6) (dis3 (ps_none gA6) (ps_none gA5) (ps_none gA4)) hX.ps (dis3 gX6 gX5 gX4).symm (fun ch D ⟨e, j, x, h3, h4, h5, h6, _⟩ => ⟨e, j, x, h3, .x hH h4, h5, h6⟩) ?_
    rintro v D ⟨t, j, r, A2, hq, rfl, hr, hj, hs, hp2, hD⟩ dD
    refine ⟨_, hD, ?_⟩
    have gB6 : Vm.look (PS pb cb lp lcap L j A2) n6 = none := hD.none (dD n6 (by simp [Vm.look]))
    have gB5 : Vm.look (PS pb cb lp lcap L j A2) n5 = none := hD.none (dD n5 (by simp [Vm.look, d6]))
    have gB4 : Vm.look (PS pb cb lp lcap L j A2) n4 = none := hD.none (dD n4 (by simp [Vm.look, d6, d45]))
    have hX2 : Dis (PS pb cb lp lcap L j A2) X := Dis.subr (dD.subl hD) (show SubA X ((n6, _) :: (n5, _) :: (n4, _) :: X) from SubA.skip gX6 (SubA.skip gX5 (SubA.skip gX4 (SubA.refl _))))
    obtain ⟨⟨k1, k2⟩, k3, k4⟩ := hp2.far gB4
    obtain ⟨⟨k5, k6⟩, k7, k8⟩ := hp2.far gB5
    obtain ⟨⟨k9, k10⟩, k11, k12⟩ := hp2.far gB6
    obtain ⟨x3, hx3, e3⟩ := at_of hj
    clear hD dD D
    simp only [PS, pB, List.cons_append, List.nil_append, xrV, xrC]
    intro ν fr; have nuE := And.intro (fr.mem (b := n6) (by simp)) (And.intro (fr.mem (b := n5) (by simp)) (And.intro (fr.mem (b := n4) (by simp)) (fr.nu)))
    simp (maxDischargeDepth := 16) only [evN, ↓evP, simprocAttr, forall_const, nuE, fr.2, vbQg, k1, k2, k3, k4, k5, k6, k7, k8, k9, k10, k11, k12, d45, d6, hp2.ne, hp2.en]
    clear nuE fr
    refine CallE.par (Y := [(n6, _), (n5, _), (n4, _)]) (markE_h pb cb lp lcap L A2 hp2 j x3 hx3 ⟨#[58]⟩) (dis3 gB6 gB5 gB4) hX2 (dis3 gX6 gX5 gX4).symm (fun ch D ⟨h3, h4⟩ => PuX.of h4 (by decide) (.t hH hq (show ruT L j = (2, j, 0, 0) by unfold ruT; rw [e3, if_pos h3]) (by decide))) ?_
    rintro v D ⟨h3, hD⟩ dD
    refine ⟨_, hD, ?_⟩
    obtain ⟨q7, q8⟩ := nx_of hp2.he hx3 (by rw [isL_k h3]; decide)
    rw [q7]
    obtain ⟨x4, hx4, e4⟩ := at_of q8
    clear hD dD D
    simp only [PS, pB, List.cons_append, List.nil_append]
    intro ν fr; have nuE := And.intro (fr.mem (b := n6) (by simp)) (And.intro (fr.mem (b := n5) (by simp)) (And.intro (fr.mem (b := n4) (by simp)) (fr.nu)))
    simp (maxDischargeDepth := 16) only [evN, ↓evP, simprocAttr, forall_const, nuE, fr.2, vbQg, k1, k2, k3, k4, k5, k6, k7, k8, k9, k10, k11, k12, d45, d6, hp2.ne, hp2.en]
    clear nuE fr
    refine CallE.par (Y := [(n6, _), (n5, _), (n4, _)]) (actE_h pb cb lp lcap L A2 hp2 (j + 1) x4 hx4) (dis3 (ps_none gB6) (ps_none gB5) (ps_none gB4)) hX2.ps (dis3 gX6 gX5 gX4).symm (fun ch D ⟨h4, h5⟩ => PuX.of h5 (by decide) (.t hH hq (show ruT L j = (2, j + 1, 0, 0) by unfold ruT; rw [e3, if_neg (by rw [h3]; decide), e4, h4]) (by decide))) ?_
    rintro v D ⟨a, h4, rfl, hD⟩ dD
    refine ⟨_, hD, ?_⟩
    obtain ⟨q9, q10⟩ := nx_of hp2.he hx4 (acX_k h4)
    rw [q9]
    obtain ⟨x5, hx5, e5⟩ := at_of q10
    clear hD dD D
    simp only [PS, pB, List.cons_append, List.nil_append]
    intro ν fr; have nuE := And.intro (fr.mem (b := n6) (by simp)) (And.intro (fr.mem (b := n5) (by simp)) (And.intro (fr.mem (b := n4) (by simp)) (fr.nu)))
    simp (maxDischargeDepth := 16) only [evN, ↓evP, simprocAttr, forall_const, nuE, fr.2, vbQg, k1, k2, k3, k4, k5, k6, k7, k8, k9, k10, k11, k12, d45, d6, hp2.ne, hp2.en]
    clear nuE fr
    cases h5 : isL x5 1 ⟨#[115, 99, 111, 114, 101]⟩ with
    | true =>
      refine CallE.par (Y := [(n6, _), (n5, _), (n4, _)]) (CallE.of (X := fun _ _ => False) (word_y pb cb lp lcap L A2 hp2 (j + 1 + 1) x5 hx5 _ h5)) (dis3 (ps_none gB6) (ps_none gB5) (ps_none gB4)) hX2.ps (dis3 gX6 gX5 gX4).symm (fun ch D h => h.elim) ?_
      rintro v D ⟨rfl, hD⟩ dD
      refine ⟨PS pb cb lp lcap L (nxS L (j + 1 + 1)) A2, hD, ?_⟩
      obtain ⟨q11, q12⟩ := nx_of hp2.he hx5 (by rw [isL_k h5]; decide)
      rw [q11]
      obtain ⟨x6, hx6, e6⟩ := at_of q12
      clear hD dD D
      simp only [PS, pB, List.cons_append, List.nil_append]
      intro ν fr; have nuE := And.intro (fr.mem (b := n6) (by simp)) (And.intro (fr.mem (b := n5) (by simp)) (And.intro (fr.mem (b := n4) (by simp)) (fr.nu)))
      simp (maxDischargeDepth := 16) only [evN, ↓evP, simprocAttr, forall_const, nuE, fr.2, vbQg, k1, k2, k3, k4, k5, k6, k7, k8, k9, k10, k11, k12, d45, d6, hp2.ne, hp2.en]
      clear nuE fr
      refine CallE.par (Y := [(n6, _), (n5, _), (n4, _)]) (numE_h pb cb lp lcap L A2 hp2 (j + 1 + 1 + 1) x6 hx6 1000) (dis3 (ps_none gB6) (ps_none gB5) (ps_none gB4)) hX2.ps (dis3 gX6 gX5 gX4).symm (fun ch D ⟨h6, h7⟩ => PuX.of h7 (by decide) (.t hH hq (show ruT L j = (2, j + 1 + 1 + 1, 0, 0) by unfold ruT; rw [e3, if_neg (by rw [h3]; decide), e4, h4]; simp only []; rw [show j + 2 = j + 1 + 1 from rfl, e5, if_pos h5, show j + 3 = j + 1 + 1 + 1 from rfl, e6, if_pos h6]) (by decide))) ?_
      rintro v D ⟨h6, rfl, hD⟩ dD
      refine ⟨_, hD, ?_⟩
      obtain ⟨q13, q14⟩ := nx_of hp2.he hx6 (nuB_k h6)
      rw [q13]
      obtain ⟨x7, hx7, e7⟩ := at_of q14
      clear hD dD D
      simp only [PS, pB, List.cons_append, List.nil_append]
      intro ν fr; have nuE := And.intro (fr.mem (b := n6) (by simp)) (And.intro (fr.mem (b := n5) (by simp)) (And.intro (fr.mem (b := n4) (by simp)) (fr.nu)))
      simp (maxDischargeDepth := 16) only [evN, ↓evP, simprocAttr, forall_const, nuE, fr.2, vbQg, k1, k2, k3, k4, k5, k6, k7, k8, k9, k10, k11, k12, d45, d6, hp2.ne, hp2.en]
      clear nuE fr
      refine CallE.par (Y := [(n6, _), (n5, _), (n4, _)]) (markE_h pb cb lp lcap L A2 hp2 (j + 1 + 1 + 1 + 1) x7 hx7 ⟨#[59]⟩) (dis3 (ps_none gB6) (ps_none gB5) (ps_none gB4)) hX2.ps (dis3 gX6 gX5 gX4).symm (fun ch D ⟨h7, h8⟩ => PuX.of h8 (by decide) (.t hH hq (show ruT L j = (2, j + 1 + 1 + 1 + 1, 0, 0) by unfold ruT; rw [e3, if_neg (by rw [h3]; decide), e4, h4]; simp only []; rw [show j + 2 = j + 1 + 1 from rfl, e5, if_pos h5, show j + 3 = j + 1 + 1 + 1 from rfl, e6, if_neg (by rw [h6]; decide), show j + 4 = j + 1 + 1 + 1 + 1 from rfl, e7, if_pos h7]) (by decide))) ?_
      rintro v D ⟨h7, hD⟩ dD
      refine ⟨_, hD, ?_⟩
      obtain ⟨q15, q16⟩ := nx_of hp2.he hx7 (by rw [isL_k h7]; decide)
      rw [q15]
      have hT : ruT L j = (0, j + 1 + 1 + 1 + 1 + 1, a, x6.n) := by unfold ruT; rw [e3, if_neg (by rw [h3]; decide), e4, h4]; simp only []; rw [show j + 2 = j + 1 + 1 from rfl, e5, if_pos h5, show j + 3 = j + 1 + 1 + 1 from rfl, e6, if_neg (by rw [h6]; decide), show j + 4 = j + 1 + 1 + 1 + 1 from rfl, e7, if_neg (by rw [h7]; decide)]
      clear hD dD D
      simp only [PS, pB, List.cons_append, List.nil_append]
      intro ν fr; have nuE := And.intro (fr.mem (b := n6) (by simp)) (And.intro (fr.mem (b := n5) (by simp)) (And.intro (fr.mem (b := n4) (by simp)) (fr.nu)))
      simp (maxDischargeDepth := 16) only [evN, ↓evP, simprocAttr, forall_const, nuE, fr.2, vbQg, k1, k2, k3, k4, k5, k6, k7, k8, k9, k10, k11, k12, d45, d6, hp2.ne, hp2.en]
      clear nuE fr
      have hfin := PuO.ok (us := us) hH hq hT
      rw [e1] at hfin
      exact ⟨_, _, ⟨x1.t, r, a, x6.n⟩, A2, hfin, rfl, ⟨rfl, hr, rfl, rfl⟩, q16, hs, hp2, hX2.ps, SubA.fresh (by simp [Vm.look, d6, d45, PS, k1, k2, k3, k4, k5, k6, k7, k8, k9, k10, k11, k12]; exact look_app_none (ps_base hp2 |>.none gB6) gX6) (SubA.fresh (by simp [Vm.look, d6, d45, PS, k1, k2, k3, k4, k5, k6, k7, k8, k9, k10, k11, k12]; exact look_app_none (ps_base hp2 |>.none gB5) gX5) (SubA.fresh (by simp [Vm.look, d6, d45, PS, k1, k2, k3, k4, k5, k6, k7, k8, k9, k10, k11, k12]; exact look_app_none (ps_base hp2 |>.none gB4) gX4) (SubA.refl _)))⟩
    | false =>
      refine CallE.par (Y := [(n6, _), (n5, _), (n4, _)]) (CallE.of (X := fun _ _ => False) (word_n pb cb lp lcap L A2 hp2 (j + 1 + 1) x5 hx5 _ h5)) (dis3 (ps_none gB6) (ps_none gB5) (ps_none gB4)) hX2.ps (dis3 gX6 gX5 gX4).symm (fun ch D h => h.elim) ?_
      rintro v D ⟨rfl, hD⟩ dD
      refine ⟨PS pb cb lp lcap L (j + 1 + 1) A2, hD, ?_⟩
      clear hD dD D
      simp only [PS, pB, List.cons_append, List.nil_append]
      intro ν fr; have nuE := And.intro (fr.mem (b := n6) (by simp)) (And.intro (fr.mem (b := n5) (by simp)) (And.intro (fr.mem (b := n4) (by simp)) (fr.nu)))
      simp (maxDischargeDepth := 16) only [evN, ↓evP, simprocAttr, forall_const, nuE, fr.2, vbQg, k1, k2, k3, k4, k5, k6, k7, k8, k9, k10, k11, k12, d45, d6, hp2.ne, hp2.en]
      clear nuE fr
      refine CallE.par (Y := [(n6, _), (n5, _), (n4, _)]) (markE_h pb cb lp lcap L A2 hp2 (j + 1 + 1) x5 hx5 ⟨#[59]⟩) (dis3 (ps_none gB6) (ps_none gB5) (ps_none gB4)) hX2.ps (dis3 gX6 gX5 gX4).symm (fun ch D ⟨h7, h8⟩ => PuX.of h8 (by decide) (.t hH hq (show ruT L j = (2, j + 1 + 1, 0, 0) by unfold ruT; rw [e3, if_neg (by rw [h3]; decide), e4, h4]; simp only []; rw [show j + 2 = j + 1 + 1 from rfl, e5, if_neg (by rw [h5]; decide), if_pos h7]) (by decide))) ?_
      rintro v D ⟨h7, hD⟩ dD
      refine ⟨_, hD, ?_⟩
      obtain ⟨q15, q16⟩ := nx_of hp2.he hx5 (by rw [isL_k h7]; decide)
      rw [q15]
      have hT : ruT L j = (0, j + 1 + 1 + 1, a, 0) := by unfold ruT; rw [e3, if_neg (by rw [h3]; decide), e4, h4]; simp only []; rw [show j + 2 = j + 1 + 1 from rfl, e5, if_neg (by rw [h5]; decide), if_neg (by rw [h7]; decide)]
      clear hD dD D
      simp only [PS, pB, List.cons_append, List.nil_append]
      intro ν fr; have nuE := And.intro (fr.mem (b := n6) (by simp)) (And.intro (fr.mem (b := n5) (by simp)) (And.intro (fr.mem (b := n4) (by simp)) (fr.nu)))
      simp (maxDischargeDepth := 16) only [evN, ↓evP, simprocAttr, forall_const, nuE, fr.2, vbQg, k1, k2, k3, k4, k5, k6, k7, k8, k9, k10, k11, k12, d45, d6, hp2.ne, hp2.en]
      clear nuE fr
      have hfin := PuO.ok (us := us) hH hq hT
      rw [e1] at hfin
      exact ⟨_, _, ⟨x1.t, r, a, 0⟩, A2, hfin, rfl, ⟨rfl, hr, rfl, rfl⟩, q16, hs, hp2, hX2.ps, SubA.fresh (by simp [Vm.look, d6, d45, PS, k1, k2, k3, k4, k5, k6, k7, k8, k9, k10, k11, k12]; exact look_app_none (ps_base hp2 |>.none gB6) gX6) (SubA.fresh (by simp [Vm.look, d6, d45, PS, k1, k2, k3, k4, k5, k6, k7, k8, k9, k10, k11, k12]; exact look_app_none (ps_base hp2 |>.none gB5) gX5) (SubA.fresh (by simp [Vm.look, d6, d45, PS, k1, k2, k3, k4, k5, k6, k7, k8, k9, k10, k11, k12]; exact look_app_none (ps_base hp2 |>.none gB4) gX4) (SubA.refl _)))⟩
end Go.Proofs.YtgglccpckhpocaaDoor
namespace Go.Proofs.YtgglccpckhpocaaDoor
open Go.Vm
set_option maxHeartbeats 4000000
set_option maxRecDepth 20000
inductive RlO (L : List LR) : List Ru → Nat → List Ru → Nat → Prop
  | fin {us : List Ru} {i : Nat} : (lxA L i).k = 0 → RlO L us i us i
  | step {us vs : List Ru} {u : Ru} {i j k : Nat} : (lxA L i).k ≠ 0 → PuO L us i u j → RlO L (us ++ [u]) j vs k → RlO L us i vs k
inductive RlE (L : List LR) : List Ru → Nat → Int → Nat → Prop
  | err {us : List Ru} {e : Int} {i j : Nat} : (lxA L i).k ≠ 0 → PuE L us i e j → RlE L us i e j
  | step {us : List Ru} {u : Ru} {e : Int} {i j k : Nat} : (lxA L i).k ≠ 0 → PuO L us i u j → RlE L (us ++ [u]) j e k → RlE L us i e k
theorem ruT_le {L : List LR} {j k : Nat} {a s : Int} (h : ruT L j = (0, k, a, s)) : j < k := by
  unfold ruT at h
  split at h
  · simp at h
  · split at h
    · simp at h
    · repeat' split at h
      all_goals (simp only [Prod.mk.injEq] at h; omega)
theorem PuO.lt {L : List LR} {us : List Ru} {i k : Nat} {u : Ru} (h : PuO L us i u k) : i < k := by
  cases h with
  | ok h1 h2 h3 =>
    have := h2.le
    have := ruT_le h3
    omega
theorem PuO.few {L : List LR} {us : List Ru} {i k : Nat} {u : Ru} (h : PuO L us i u k) : us.length < 64 := by
  cases h with
  | ok h1 h2 h3 =>
    unfold ruH at h1
    split at h1
    · cases h1
    · rename_i hn
      split at h1
      · cases h1
      · rename_i hm
        have : isL (lxA L i) 1 ruB = true := by simpa using hm
        rcases Nat.lt_or_ge us.length 64 with h | h
        · exact h
        · exact absurd ⟨h, this⟩ hn
def AllR (A : AH) (us : List Ru) (rs : List Rur) : Prop := ∀ (k : Nat) (u : Ru) (r : Rur), us[k]? = some u → rs[k]? = some r → RuR A u r
theorem AllR.mono {A B : AH} {us : List Ru} {rs : List Rur} (h : AllR A us rs) (hs : SubA A B) : AllR B us rs := fun k u r h1 h2 => (h k u r h1 h2).mono hs
theorem AllR.push {A : AH} {us : List Ru} {rs : List Rur} {u : Ru} {r : Rur} (h : AllR A us rs) (hl : rs.length = us.length) (hu : RuR A u r) : AllR A (us ++ [u]) (rs ++ [r]) := by
  intro m y s hy hs
  by_cases hm : m < us.length
  · rw [List.getElem?_append_left hm] at hy
    rw [List.getElem?_append_left (by omega)] at hs
    exact h m y s hy hs
  · rw [List.getElem?_append_right (by omega)] at hy hs
    rw [hl] at hs
    generalize m - us.length = q at hy hs
    match q with
    | 0 => simp at hy hs; subst hy; subst hs; exact hu
    | q + 1 => simp at hy
theorem _root_.Go.Vm.Dis.swapo {B X : AH} {b : Nat} {o u : Obj} (h : Dis B ((b, o) :: X)) : Dis B ((b, u) :: X) := fun x hx => h x (by
  simp only [Vm.look] at hx ⊢
  split
  · simp
  · rename_i hn; rwa [if_neg hn] at hx)
theorem sc_u1 (a b c d e f g h : Value) : sliceCells Tryd.prog 32 1 [(0, .agg #[a, b, c, d, e, f, g, h])] = some (37, #[a, b, c, d, e, f, g, h]) := by kernel_rfl
def lbB (v : Value) : Obj := .cells #[v] 32
def PsX (L : List LR) (ch : List PanicEntry) (D : AH) : Prop := ∃ e j x, e ≠ 0 ∧ RlE L [] 0 e j ∧ L[j]? = some x ∧ ch = flr e (x.a : Int)
theorem prsE_h (pb cb : Nat) (lp : Option Addr) (lcap : Nat) (L : List LR) (A : AH) (hp : PsOk pb cb lp L A) (hi : 0 < L.length) (lb : Nat) (hx : Vm.look (PS pb cb lp lcap L 0 A) lb = none) : CallE Tryd.prog 24 #[.pointer (some ⟨pb, 0, none⟩), .pointer (some ⟨lb, 0, none⟩)] ((lb, lbB (.slice none 0 0)) :: PS pb cb lp lcap L 0 A) (PsX L) (fun u_ A_ => ∃ us rs v B j A', RlO L [] 0 us j ∧ OwnL ruC 8 37 v B rs ∧ rs.length = us.length ∧ AllR A' us rs ∧ j < L.length ∧ PsOk pb cb lp L A' ∧ Dis B ((lb, lbB v) :: PS pb cb lp lcap L j A') ∧ Vm.look (PS pb cb lp lcap L j A') lb = none ∧ SubA ((lb, lbB v) :: PS pb cb lp lcap L j (A' ++ B)) A_) := by
  refine callE_of_denA ⟨Tryd.prog, 24, Tryd.f24, 16, [0, 1], ⟨[26], some (PsX L)⟩, [], _⟩ rfl (args := [_, _]) Tryd.func24 rfl (by kernel_rfl) Tryd.ntmps24 (by simp) (by kernel_rfl) ?_
  intro ν fr; have nuE := fr.nu
  simp (maxDischargeDepth := 16) only [evN, ↓evP, simprocAttr, forall_const, nuE, fr.2, vbQg]
  clear nuE fr
  obtain ⟨us, rs, v, B, j, A', hv, hB, hj0, hA0, ho, hlen, hnm, hall, hj, hp', dB, hlb, hO, hE, h64⟩ : ∃ (us : List Ru) (rs : List Rur) (v : Value) (B : AH) (j : Nat) (A' : AH), v = .slice none 0 0 ∧ B = [] ∧ j = 0 ∧ A' = A ∧ OwnL ruC 8 37 v B rs ∧ rs.length = us.length ∧ rs.map Rur.nm = us.map Ru.nm ∧ AllR A' us rs ∧ j < L.length ∧ PsOk pb cb lp L A' ∧ Dis B ((lb, lbB v) :: PS pb cb lp lcap L j A') ∧ Vm.look (PS pb cb lp lcap L j A') lb = none ∧ (∀ vs k, RlO L us j vs k → RlO L [] 0 vs k) ∧ (∀ e k, RlE L us j e k → RlE L [] 0 e k) ∧ us.length ≤ 64 :=
    ⟨[], [], _, [], 0, A, rfl, rfl, rfl, rfl, OwnL.nil _ _ _, rfl, rfl, fun k u r h => by simp at h, hi, hp, Dis.nil _, hx, fun _ _ h => h, fun _ _ h => h, by simp⟩
  refine LoopA.at (A := (lb, lbB v) :: PS pb cb lp lcap L j (A' ++ B)) (by rw [hv, hB, hj0, hA0, List.append_nil]; exact SubA.refl _) ?_
  clear hv hB hj0 hA0 hx hp hi
  generalize hm : L.length - j = m
  induction m using Nat.strongRecOn generalizing us rs v B j A' with
  | ind m ih =>
    obtain ⟨p, cap, rfl, hc1, hS⟩ := OwnL.read (f := ruC) (n := 8) ruC_len ho
    obtain ⟨x, hx, hlx⟩ := at_of hj
    obtain ⟨⟨m1, m2⟩, m3, m4⟩ := hp'.far hlb
    have dPB : Dis (PS pb cb lp lcap L j A') B := (Dis.subr dB (SubA.fresh hlb (SubA.refl _))).symm
    have lbB' : Vm.look B lb = none := dB lb (by simp [Vm.look])
    have hlb2 : Vm.look (PS pb cb lp lcap L j (A' ++ B)) lb = none := look_app_none (B := PS pb cb lp lcap L j A') hlb lbB'
    have pk := peekS_w ((pb, pB cb) :: A') cb L lp lcap hp'.base.1 hp'.base.2 j x hx ((lb, lbB (.slice p rs.length cap)) :: PS pb cb lp lcap L j (A' ++ B)) (SubA.fresh hlb2 (SubA.left (PS pb cb lp lcap L j A') B))
    simp only [PS, pB, lexV, lbB] at pk ⊢
    refine LoopA.intro (by kernel_rfl) ?_
    intro ν fr; have nuE := And.intro (fr.mem (b := lb) (by simp)) (fr.nu)
    by_cases hk : x.k = 0
    · simp (maxDischargeDepth := 16) only [evN, ↓evP, simprocAttr, forall_const, nuE, fr.2, vbQg, pk, m1, m2, m3, m4, hp'.ne, hp'.en, hk]
      exact ⟨us, rs, _, B, j, A', hO _ _ (.fin (by rw [hlx]; exact hk)), ho, hlen, hall, hj, hp', dB, (ps_base hp').none hlb, SubA.refl _⟩
    · have hk' : (x.k != 0) = true := by simp [hk]
      simp (maxDischargeDepth := 16) only [evN, ↓evP, simprocAttr, forall_const, nuE, fr.2, vbQg, pk, m1, m2, m3, m4, hp'.ne, hp'.en, hk']
      refine MeantA.plan [(0, 0), (1, 0), (2, 0), (3, 0), (4, 0), (5, 0), (6, 2)] [(lb, .cells #[.slice p rs.length cap] 32)] (SubA.left [_] _) (by kernel_rfl) (by kernel_rfl) (by kernel_rfl) (by kernel_rfl) (by kernel_rfl) (by kernel_rfl) ?_
      clear nuE fr
      intro ν fr; have nuE := And.intro (fr.mem (b := lb) (by simp)) (fr.nu)
      simp (maxDischargeDepth := 16) only [evN, ↓evP, simprocAttr, forall_const, nuE, fr.2, vbQg, m1, m2, m3, m4, hp'.ne, hp'.en]
      have hk2 : (lxA L j).k ≠ 0 := by rw [hlx]; exact hk
      refine CallE.own (Y := [(lb, _)]) (ruleE_h pb cb lp lcap L A' B hp' j hj dPB us rs p cap (by omega) hnm hS) (Dis.one hlb2).symm (fun ch D ⟨e, j, x, h1, h2, h3, h4⟩ => ⟨e, j, x, h1, hE _ _ (.err hk2 h2), h3, h4⟩) ?_
      rintro v D ⟨u, k, r, A2, hu, rfl, hru, hkl, hs2, hp2, hX2, hD⟩ dD
      refine ⟨_, hD, ?_⟩
      have g2 : Vm.look (PS pb cb lp lcap L k (A2 ++ B)) lb = none := hD.none (dD lb (by simp [Vm.look]))
      have g2' := (SubA.left (PS pb cb lp lcap L k A2) B).none g2
      clear hD dD D nuE fr
      simp only [PS, pB, List.cons_append, List.nil_append, ruV]
      intro ν fr; have nuE := And.intro (fr.mem (b := lb) (by simp)) (fr.nu)
      have g7 : Vm.look ((lb, _) :: PS pb cb lp lcap L k (A2 ++ B)) (ν 0) = none := fr.2 0
      simp (maxDischargeDepth := 16) only [evN, ↓evP, simprocAttr, forall_const, nuE, fr.2, vbQg, sc_u1]
      have dst_ : ((ν 0 = lb) = False) ∧ ((lb = ν 0) = False) := (by simp [nuE]); generalize ν 0 = n7 at dst_  g7 ⊢
      clear nuE fr
      have h64' := hu.few
      have sB : SubA B ((lb, .cells #[.slice p rs.length cap] 32) :: PS pb cb lp lcap L k (A2 ++ B)) := SubA.skip lbB' hX2.right
      refine RunA.use ?_
      refine append_src (m := 1) (news := ruC r) (B := B) slc32 zro37 rfl (by decide) ho (SubA.trans sB (SubA.fresh g7 (SubA.refl _))) (.inr ⟨n7, 0, rfl, by simp [Vm.look, rdCS_cells, ruC]⟩) (by simp [ruC, Value.oneCell']) (by simp only [maxLen]; omega) (by omega) ?_
      intro v' B' ho2 hb2
      have ho3 : OwnL ruC 8 37 v' B' (rs ++ [r]) := by
        unfold OwnL
        rw [List.length_append, List.flatMap_append]
        simpa using ho2
      obtain ⟨p', cap', rfl, _⟩ := ho3.slice
      have sW : SubA ((lb, .cells #[.slice p rs.length cap] 32) :: PS pb cb lp lcap L k A2) ((lb, .cells #[.slice p rs.length cap] 32) :: PS pb cb lp lcap L k (A2 ++ B)) := SubA.left ((lb, .cells #[.slice p rs.length cap] 32) :: PS pb cb lp lcap L k A2) B
      have dB2 : Dis B ((lb, .cells #[.slice p rs.length cap] 32) :: PS pb cb lp lcap L k A2) := dis_cons' lbB' hX2.symm
      have dB' : Dis B' ((lb, .cells #[.slice p rs.length cap] 32) :: PS pb cb lp lcap L k A2) := ap_dis hb2 dB2 (SubA.trans sW (SubA.fresh g7 (SubA.refl _)))
      refine ⟨((lb, .cells #[.slice p rs.length cap] 32) :: PS pb cb lp lcap L k A2) ++ B', SubA.both (dB'.sub (SubA.trans sW (SubA.fresh g7 (SubA.refl _)))) (SubA.left _ _), ?_⟩
      simp only [PS, pB, List.cons_append]
      intro ν fr; have nuE := And.intro (fr.mem (b := lb) (by simp)) (fr.nu)
      simp (maxDischargeDepth := 16) only [evN, ↓evP, simprocAttr, forall_const, nuE, fr.2, vbQg]
      have h9 := (ih (L.length - k) (by have := hu.lt; omega) (us ++ [u]) (rs ++ [r]) _ B' k A2 ho3 (by simp [hlen]) (by simp [hnm, hru.1]) ((hall.mono hs2).push hlen hru) hkl hp2 (Dis.swapo dB') g2' (fun vs m h => hO _ _ (.step hk2 hu h)) (fun e m h => hE _ _ (.step hk2 hu h)) (by simp; omega) rfl)
      exact LoopA.weak h9 (by simp only [subE, get_cons, Nat.reduceEqDiff, ↓reduceIte, reduceCtorEq, Nat.reduceAdd, and_self, and_true]) (SubA.refl _)
theorem RlO.fin_k {L : List LR} {us vs : List Ru} {i j : Nat} (h : RlO L us i vs j) : (lxA L j).k = 0 := by
  induction h with
  | fin h => exact h
  | step _ _ _ ih => exact ih
theorem RlO.few {L : List LR} {us vs : List Ru} {i j : Nat} (h : RlO L us i vs j) (h0 : us.length ≤ 64) : vs.length ≤ 64 := by
  induction h with
  | fin h => exact h0
  | step _ h1 _ ih => exact ih (by have := h1.few; simp; omega)
inductive PaO (s : ByteArray) : Int → Nat → List Ru → Prop
  | scan : (scanF s).1 ≠ 0 → PaO s (scanF s).1 (scanF s).2.1 []
  | er {e : Int} {j : Nat} {x : LR} : (scanF s).1 = 0 → e ≠ 0 → RlE (scanF s).2.2 [] 0 e j → (scanF s).2.2[j]? = some x → PaO s e x.a []
  | ok {us : List Ru} {j : Nat} : (scanF s).1 = 0 → RlO (scanF s).2.2 [] 0 us j → PaO s 0 0 us
def RuL (B : AH) (us : List Ru) (p : Option Addr) : Prop := ∃ rs : List Rur, rs.length = us.length ∧ StR ruC 8 B p rs ∧ AllR B us rs
theorem RuL.mono {A B : AH} {us : List Ru} {p : Option Addr} (h : RuL A us p) (hs : SubA A B) : RuL B us p := by
  obtain ⟨rs, h1, h2, h3⟩ := h
  exact ⟨rs, h1, h2.mono hs, h3.mono hs⟩
theorem parR_h (A : AH) (s : ByteArray) (hs : s.size ≤ 100000) : CallA Tryd.prog 10 #[.string s] A (fun u_ A_ => ∃ v B, u_ = v ∧ (∃ e at_ us p cap, PaO s e at_ us ∧ us.length ≤ 64 ∧ us.length ≤ cap ∧ v = .tuple #[.slice p us.length cap, .int .i64 e, .int .i64 (at_ : Nat)] ∧ RuL B us p) ∧ Dis B A ∧ SubA (B ++ A) A_) := by
  refine callA_of_denA ⟨Tryd.prog, 10, Tryd.f10, 19, [0, 2, 3, 4, 5, 6, 7], ⟨[21], none⟩, [], _⟩ rfl (args := [_]) Tryd.func10 rfl (by kernel_rfl) Tryd.ntmps10 (by simp) (by kernel_rfl) ?_
  intro ν fr; have nuE := fr.nu
  have f1 := fr.2 0
  simp (maxDischargeDepth := 16) only [evN, ↓evP, simprocAttr, forall_const, nuE, fr.2, vbQg]
  have dst_ : True := (by simp [nuE]); generalize ν 0 = lb at dst_  f1 ⊢
  clear nuE fr dst_
  refine CallA.toX (read_h [(lb, lbB (.slice none 0 0))] s hs 24 (.pointer (some ⟨lb, 0, none⟩)) (fun e j => RlE (scanF s).2.2 [] 0 e j) (fun j A' => ∃ us p cap, RlO (scanF s).2.2 [] 0 us j ∧ us.length ≤ cap ∧ RuL A' us p ∧ Vm.look A' lb = some (lbB (.slice p us.length cap))) (by kernel_rfl) ?_) (SubA.left [_] _) A (SubA.fresh f1 (SubA.refl _)) (Dis.one f1) ?_
  · intro pb cb lp lcap B h0 hp dB n1 n2
    have hpos : 0 < (scanF s).2.2.length := by
      obtain ⟨K, hS, _⟩ := scan_out h0
      rw [hS]; simp
    have hx : Vm.look (PS pb cb lp lcap (scanF s).2.2 0 B) lb = none := by
      have m1 := (look_ne n1 (show Vm.look [(lb, lbB (.slice none 0 0))] lb = some (lbB (.slice none 0 0)) by simp [Vm.look])).1
      have m2 := (look_ne n2 (show Vm.look [(lb, lbB (.slice none 0 0))] lb = some (lbB (.slice none 0 0)) by simp [Vm.look])).1
      simp only [PS, Vm.look, m1, m2, if_false]
      exact dB lb (by simp [Vm.look])
    refine CallE.useX (prsE_h pb cb lp lcap (scanF s).2.2 B hp hpos lb hx) (SubA.both (X := [(lb, lbB (.slice none 0 0))]) (Dis.one hx).symm.right (SubA.left (PS pb cb lp lcap (scanF s).2.2 0 B) _)) [] (SubA.nil _) (fun x hx => absurd rfl hx) ?_ ?_
    · rintro ch D ⟨e, j, x, h1, h2, h3, h4⟩ _
      exact ⟨[], SubA.nil _, e, j, x, h1, h2, h3, h4⟩
    · rintro v D ⟨us, rs, v, B', j, A', hO, ho, hlen, hall, hj, hp', dB', hlb, hD⟩ _
      obtain ⟨p, cap, rfl, hc1, hS⟩ := OwnL.read (f := ruC) (n := 8) ruC_len ho
      have m3 := (hp'.far hlb).1
      have m4 := (hp'.far hlb).2
      have hlA : Vm.look A' lb = none := (ps_base hp').none hlb
      have hlB : Vm.look B' lb = none := dB' lb (by simp [Vm.look])
      have hcb : Vm.look B' cb = none := dB' cb (by simp [Vm.look, m4.1, PS])
      have hpb : Vm.look B' pb = none := dB' pb (by simp [Vm.look, m3.1, PS, hp'.en])
      have dAB : Dis B' A' := Dis.subr dB' (SubA.trans (ps_base hp') (SubA.fresh hlb (SubA.refl _)))
      rw [hlen] at hD dB'
      refine ⟨PS pb cb lp lcap (scanF s).2.2 j ((A' ++ B') ++ [(lb, lbB (.slice p us.length cap))]), ?_, j, (A' ++ B') ++ [(lb, lbB (.slice p us.length cap))], ⟨us, p, cap, hO, by omega, ⟨rs, hlen, (hS.mono dAB.symm.right).mono (SubA.left _ _), (hall.mono (SubA.left _ _)).mono (SubA.left _ _)⟩, by rw [look_app (look_app_none hlA hlB)]; simp [Vm.look]⟩, hj, ?_, by rw [List.append_nil]; exact SubA.refl _⟩
      · refine SubA.trans (show SubA (PS pb cb lp lcap (scanF s).2.2 j (A' ++ B') ++ [(lb, lbB (.slice p us.length cap))]) ([(lb, lbB (.slice p us.length cap))] ++ PS pb cb lp lcap (scanF s).2.2 j (A' ++ B')) from SubA.both (Dis.one (look_app_none (B := PS pb cb lp lcap (scanF s).2.2 j A') hlb hlB)).right (SubA.left _ _)) hD
      · exact ⟨hp'.ne, hp'.en, look_app_none (look_app_none hp'.np hpb) (by simp [Vm.look, m3.1]), look_app_none (look_app_none hp'.nc hcb) (by simp [Vm.look, m4.1]), (hp'.hL.mono (SubA.left _ _)).mono (SubA.left _ _), hp'.hl, hp'.he⟩
  · rintro u D hu dD
    have h9 : (∃ (e : Int) (at_ : Nat), e ≠ 0 ∧ PaO s e at_ [] ∧ u = .tuple #[.int .i64 e, .int .i64 (at_ : Nat)]) ∨ ∃ A' us p cap, PaO s 0 0 us ∧ us.length ≤ 64 ∧ us.length ≤ cap ∧ RuL A' us p ∧ Vm.look A' lb = some (lbB (.slice p us.length cap)) ∧ u = .tuple #[.int .i64 0, .int .i64 0] ∧ SubA A' D := by
      rcases hu with ⟨h0, rfl, hD⟩ | ⟨h0, ⟨e, j, x, h1, h2, h3, rfl⟩ | ⟨j, A', x, ⟨us, p, cap, hq, hc, hr, hxb⟩, hx, ⟨hk, rfl, hD⟩ | ⟨hk, rfl⟩⟩⟩
      · exact .inl ⟨_, _, h0, .scan h0, rfl⟩
      · exact .inl ⟨_, _, h1, .er h0 h1 h2 h3, rfl⟩
      · exact .inr ⟨A', us, p, cap, .ok h0 hq, hq.few (by simp), hc, hr, hxb, rfl, hD⟩
      · exact absurd (by have := hq.fin_k; rwa [lxA_of hx] at this) hk
    clear hu
    rcases h9 with ⟨e, at_, he, hP, rfl⟩ | ⟨A', us, p, cap, hP, h64, hc, hr, hxb, rfl, hD⟩
    · refine ⟨A, dD.right, ?_⟩
      have ne0 : (e != 0) = true := by simp [he]
      clear dD
      intro ν fr; have nuE := fr.nu
      simp (maxDischargeDepth := 16) only [evN, ↓evP, simprocAttr, forall_const, nuE, fr.2, vbQg, ne0]
      exact ⟨_, [], rfl, ⟨e, at_, [], none, 0, hP, by simp, by simp, rfl, [], rfl, .inl rfl, fun k u r h => by simp at h⟩, Dis.nil _, SubA.refl _⟩
    · have dA : Dis A' A := dD.subl hD
      have lx : Vm.look (A' ++ A) lb = some (lbB (.slice p us.length cap)) := SubA.left A' A lb _ hxb
      refine ⟨A' ++ A, SubA.both (SubA.trans hD (SubA.left _ _)) dD.right, ?_⟩
      clear dD hD
      simp only [lbB] at lx ⊢
      intro ν fr; have nuE := fr.nu
      simp (maxDischargeDepth := 16) only [evN, ↓evP, simprocAttr, forall_const, nuE, fr.2, vbQg, lx]
      exact ⟨_, A', rfl, ⟨0, 0, us, p, cap, hP, h64, hc, rfl, hr⟩, dA, SubA.refl _⟩
end Go.Proofs.YtgglccpckhpocaaDoor
