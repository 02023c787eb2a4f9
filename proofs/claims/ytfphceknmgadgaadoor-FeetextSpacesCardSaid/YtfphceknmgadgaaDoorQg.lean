/-
ParseExpr of the program; what the grammar looks at; spaces around a text.
Conditions: none.
-/
import Derived.Test.YtfphceknmgadgaaDoorQf
set_option linter.unusedSimpArgs false
set_option linter.unusedVariables false
namespace Go.Proofs.YtfphceknmgadgaaDoor
open Go.Vm
set_option maxHeartbeats 4000000
set_option maxRecDepth 20000
theorem vbQg : type_of% (An @slIndexByte_v (An @indexByte_v (An @indexRune_v (An @containsRune_v (An @slHasPrefix_v (An @hasPrefix_v (An @classOf_v (An @isWordByte_v (An @wordAt_v (An @skip_v (An @number_v (An @literal_v (An @lexemeAt_v (An @isName_v @resV_v)))))))))))))) := ⟨@slIndexByte_v, @indexByte_v, @indexRune_v, @containsRune_v, @slHasPrefix_v, @hasPrefix_v, @classOf_v, @isWordByte_v, @wordAt_v, @skip_v, @number_v, @literal_v, @lexemeAt_v, @isName_v, @resV_v⟩
def z0 : Xs := .mk 0 eB eB 0 []
def r0 : Xr := ⟨0, eB, eB, 0, none, 0, 0⟩
inductive PxO (s : ByteArray) : Int → Nat → Xs → Prop
  | scan : (scanF s).1 ≠ 0 → PxO s (scanF s).1 (scanF s).2.1 z0
  | er {e : Int} {j : Nat} {x : LR} : (scanF s).1 = 0 → e ≠ 0 → Pr (scanF s).2.2 (.lv 0) 0 (.er e j) → (scanF s).2.2[j]? = some x → PxO s e x.a z0
  | more {t : Xs} {j : Nat} {x : LR} : (scanF s).1 = 0 → Pr (scanF s).2.2 (.lv 0) 0 (.ok t j) → (scanF s).2.2[j]? = some x → x.k ≠ 0 → PxO s 2 x.a z0
  | ok {t : Xs} {j : Nat} {x : LR} : (scanF s).1 = 0 → Pr (scanF s).2.2 (.lv 0) 0 (.ok t j) → (scanF s).2.2[j]? = some x → x.k = 0 → PxO s 0 0 t
theorem PxO.det {s : ByteArray} {e e' : Int} {a a' : Nat} {t t' : Xs} (h : PxO s e a t) (h' : PxO s e' a' t') : e = e' ∧ a = a' ∧ t = t' := by
  cases h with
  | scan h0 => cases h' with
    | scan => exact ⟨rfl, rfl, rfl⟩
    | er g0 => exact absurd g0 h0
    | more g0 => exact absurd g0 h0
    | ok g0 => exact absurd g0 h0
  | er h0 h1 h2 h3 => cases h' with
    | scan g0 => exact absurd h0 g0
    | er g0 g1 g2 g3 =>
      cases h2.det g2
      rw [h3] at g3
      cases g3
      exact ⟨rfl, rfl, rfl⟩
    | more g0 g1 g2 g3 => cases h2.det g1
    | ok g0 g1 g2 g3 => cases h2.det g1
  | more h0 h1 h2 h3 => cases h' with
    | scan g0 => exact absurd h0 g0
    | er g0 g1 g2 g3 => cases h1.det g2
    | more g0 g1 g2 g3 =>
      cases h1.det g1
      rw [h2] at g2
      cases g2
      exact ⟨rfl, rfl, rfl⟩
    | ok g0 g1 g2 g3 =>
      cases h1.det g1
      rw [h2] at g2
      cases g2
      exact absurd g3 h3
  | ok h0 h1 h2 h3 => cases h' with
    | scan g0 => exact absurd h0 g0
    | er g0 g1 g2 g3 => cases h1.det g2
    | more g0 g1 g2 g3 =>
      cases h1.det g1
      rw [h2] at g2
      cases g2
      exact absurd h3 g3
    | ok g0 g1 g2 g3 =>
      cases h1.det g1
      exact ⟨rfl, rfl, rfl⟩
theorem parX_h (A : AH) (s : ByteArray) (hs : s.size ≤ 100000) : CallA Tryd.prog 45 #[.string s] A (fun u_ A_ => ∃ v B, u_ = v ∧ (∃ e at_ t r, PxO s e at_ t ∧ v = .tuple #[xrV r, .int .i64 e, .int .i64 (at_ : Nat)] ∧ ExR B t r) ∧ Dis B A ∧ SubA (B ++ A) A_) := by
  refine callA_of_denA ⟨Tryd.prog, 45, Tryd.f45, 20, [0, 2, 3, 4, 5, 6, 7], ⟨[54], none⟩, [], _⟩ rfl (args := [_]) Tryd.func45 rfl (by kernel_rfl) Tryd.ntmps45 (by simp) (by kernel_rfl) ?_
  intro ν fr; have nuE := fr.nu
  have f0 := fr.2 0
  have f1 := fr.2 1
  have e01 : (ν 1 = ν 0) = False := by simp [nuE]
  simp (maxDischargeDepth := 16) only [evN, ↓evP, simprocAttr, forall_const, nuE, fr.2, vbQg]
  have dst_ : ((ν 0 = ν 1) = False) ∧ ((ν 1 = ν 0) = False) := (by simp [nuE]); generalize ν 0 = n2 at dst_  f0 f1 e01 ⊢; generalize ν 1 = xb at dst_  f0 f1 e01 ⊢
  clear nuE fr dst_
  refine CallA.toX (read_h [(xb, zX)] s hs 55 (.pointer (some ⟨xb, 0, none⟩)) (fun e j => Pr (scanF s).2.2 (.lv 0) 0 (.er e j)) (fun j A' => ∃ t r, Pr (scanF s).2.2 (.lv 0) 0 (.ok t j) ∧ ExR A' t r ∧ Vm.look A' xb = some (xB r)) (by kernel_rfl) ?_) (SubA.left [_] _) ((n2, zX) :: A) ?_ ?_ ?_
  · intro pb cb lp lcap B h0 hp dB n1 n2
    have hpos : 0 < (scanF s).2.2.length := by
      obtain ⟨K, hS, _⟩ := scan_out h0
      rw [hS]; simp
    have hx : Vm.look (PS pb cb lp lcap (scanF s).2.2 0 B) xb = none := by
      have m1 := (look_ne n1 (show Vm.look [(xb, zX)] xb = some zX by simp [Vm.look])).1
      have m2 := (look_ne n2 (show Vm.look [(xb, zX)] xb = some zX by simp [Vm.look])).1
      simp only [PS, Vm.look, m1, m2, if_false]
      exact dB xb (by simp [Vm.look])
    refine CallE.useX (pexE_h pb cb lp lcap (scanF s).2.2 B hp 0 hpos xb hx) (SubA.both (X := [(xb, zX)]) (Dis.one hx).symm.right (SubA.left (PS pb cb lp lcap (scanF s).2.2 0 B) _)) [] (SubA.nil _) (fun x hx => absurd rfl hx) ?_ ?_
    · rintro ch D ⟨e, j, x, h1, h2, h3, h4, _⟩ _
      exact ⟨[], SubA.nil _, e, j, x, h1, h2, h3, h4⟩
    · rintro v D ⟨t, j, r, A', hq, hr, hj, hsub, hp', hxb, hD⟩ _
      have m3 := (hp'.far hxb).1
      have m4 := (hp'.far hxb).2
      have hxA : Vm.look A' xb = none := (show SubA A' (PS pb cb lp lcap (scanF s).2.2 j A') from SubA.skip (by simp [Vm.look, hp'.nc, hp'.ne]) (SubA.skip hp'.np (SubA.refl _))).none hxb
      refine ⟨PS pb cb lp lcap (scanF s).2.2 j (A' ++ [(xb, xB r)]), ?_, j, A' ++ [(xb, xB r)], ⟨t, r, hq, hr.mono (SubA.left _ _), by rw [look_app hxA]; simp [Vm.look]⟩, hj, ?_, by rw [List.append_nil]; exact SubA.refl _⟩
      · refine SubA.trans (show SubA (PS pb cb lp lcap (scanF s).2.2 j A' ++ [(xb, xB r)]) ([(xb, xB r)] ++ PS pb cb lp lcap (scanF s).2.2 j A') from SubA.both (Dis.one hxb).right (SubA.left _ _)) hD
      · exact ⟨hp'.ne, hp'.en, look_app_none hp'.np (by simp [Vm.look, m3.1]), look_app_none hp'.nc (by simp [Vm.look, m4.1]), hp'.hL.mono (SubA.left _ _), hp'.hl, hp'.he⟩
  · exact SubA.fresh (look_c1 (eq_false fun h => by rw [h] at e01; simp at e01) f1) (SubA.refl _)
  · exact Dis.one (look_c1 (eq_false fun h => by rw [h] at e01; simp at e01) f1)
  · rintro u D hu dD
    have h9 : (∃ (e : Int) (at_ : Nat), e ≠ 0 ∧ PxO s e at_ z0 ∧ u = .tuple #[.int .i64 e, .int .i64 (at_ : Nat)]) ∨ ∃ A' t r, PxO s 0 0 t ∧ ExR A' t r ∧ Vm.look A' xb = some (xB r) ∧ u = .tuple #[.int .i64 0, .int .i64 0] ∧ SubA A' D := by
      rcases hu with ⟨h0, rfl, hD⟩ | ⟨h0, ⟨e, j, x, h1, h2, h3, rfl⟩ | ⟨j, A', x, ⟨t, r, hq, hr, hxb⟩, hx, ⟨hk, rfl, hD⟩ | ⟨hk, rfl⟩⟩⟩
      · exact .inl ⟨_, _, h0, .scan h0, rfl⟩
      · exact .inl ⟨_, _, h1, .er h0 h1 h2 h3, rfl⟩
      · exact .inr ⟨A', t, r, .ok h0 hq hx hk, hr, hxb, rfl, hD⟩
      · exact .inl ⟨_, _, by decide, .more h0 hq hx hk, rfl⟩
    clear hu
    rcases h9 with ⟨e, at_, he, hP, rfl⟩ | ⟨A', t, r, hP, hr, hxb, rfl, hD⟩
    · refine ⟨(n2, zX) :: A, dD.right, ?_⟩
      have ne0 : (e != 0) = true := by simp [he]
      clear dD
      simp only [zX]
      intro ν fr; have nuE := And.intro (fr.mem (b := n2) (by simp)) (fr.nu)
      simp (maxDischargeDepth := 16) only [evN, ↓evP, simprocAttr, forall_const, nuE, fr.2, vbQg, ne0]
      exact ⟨_, [], rfl, ⟨e, at_, z0, r0, hP, rfl, ExR.leaf _ _ _ _ _ _ _⟩, Dis.nil _, SubA.fresh f0 (SubA.refl _)⟩
    · have dD2 : Dis A' ((n2, zX) :: A) := dD.subl hD
      have f0' : Vm.look A' n2 = none := dD2 n2 (by simp [Vm.look])
      have dA : Dis A' A := Dis.subr dD2 (SubA.fresh f0 (SubA.refl _))
      have e10 : (n2 = xb) = False := eq_false fun h => by rw [h] at e01; simp at e01
      have fA : Vm.look (A' ++ A) n2 = none := look_app_none f0' f0
      have lx : Vm.look (A' ++ A) xb = some (xB r) := SubA.left A' A xb _ hxb
      refine ⟨(n2, zX) :: (A' ++ A), ?_, ?_⟩
      · refine SubA.both (X := [(n2, zX)]) (SubA.trans (SubA.left [_] A) dD.right) (SubA.both (SubA.trans hD (SubA.left _ _)) (SubA.trans (SubA.fresh f0 (SubA.refl _)) dD.right))
      · clear dD hD dD2
        simp only [zX, xB] at lx ⊢
        intro ν fr; have nuE := And.intro (fr.mem (b := n2) (by simp)) (fr.nu)
        simp (maxDischargeDepth := 16) only [evN, ↓evP, simprocAttr, forall_const, nuE, fr.2, vbQg, e10, lx]
        exact ⟨_, A', rfl, ⟨0, 0, t, r, hP, rfl, hr⟩, dA, SubA.fresh fA (SubA.refl _)⟩
end Go.Proofs.YtfphceknmgadgaaDoor
namespace Go.Proofs.YtfphceknmgadgaaDoor
open Go.Vm
set_option maxHeartbeats 4000000
set_option maxRecDepth 20000
def KeyL (L M : List LR) : Prop := ∀ i, keyX (lxA L i) = keyX (lxA M i)
theorem key_lx {x y : LR} (h : keyX x = keyX y) : x.k = y.k ∧ x.t = y.t ∧ x.n = y.n := by simpa [keyX] using h
theorem KeyL.of {L M : List LR} (h : L.map keyX = M.map keyX) : KeyL L M := by
  intro i
  have hi : (L.map keyX)[i]? = (M.map keyX)[i]? := by rw [h]
  rw [List.getElem?_map, List.getElem?_map] at hi
  unfold lxA
  rw [List.getD_eq_getElem?_getD, List.getD_eq_getElem?_getD]
  cases h1 : L[i]? <;> cases h2 : M[i]? <;> simp_all
theorem KeyL.symm {L M : List LR} (h : KeyL L M) : KeyL M L := fun i => (h i).symm
section
variable {L M : List LR} (H : KeyL L M)
include H
theorem KeyL.k (i : Nat) : (lxA L i).k = (lxA M i).k := (key_lx (H i)).1
theorem KeyL.t (i : Nat) : (lxA L i).t = (lxA M i).t := (key_lx (H i)).2.1
theorem KeyL.n (i : Nat) : (lxA L i).n = (lxA M i).n := (key_lx (H i)).2.2
theorem KeyL.is (i : Nat) (k : Int) (t : ByteArray) : isL (lxA L i) k t = isL (lxA M i) k t := by unfold isL; rw [H.k, H.t]
theorem KeyL.nm (i : Nat) : nmB (lxA L i) = nmB (lxA M i) := by unfold nmB; rw [H.k, H.t]
theorem KeyL.nu (i : Nat) (m : Int) : nuB (lxA L i) m = nuB (lxA M i) m := by unfold nuB; rw [H.k, H.n]
theorem KeyL.op (l i : Nat) : opX l (lxA L i) = opX l (lxA M i) := by unfold opX; simp only [H.is]
theorem KeyL.cm (i : Nat) : cmX (lxA L i) = cmX (lxA M i) := by unfold cmX; simp only [H.is]
theorem KeyL.in_ (i : Nat) : inB (lxA L i) = inB (lxA M i) := by unfold inB; simp only [H.is]
theorem KeyL.un (i : Nat) : unC (lxA L i) = unC (lxA M i) := by unfold unC; simp only [H.is, H.k, H.nm]
theorem KeyL.us (i : Nat) : usX L i = usX M i := by unfold usX; simp only [H.is, H.nu, H.nm, H.t, H.n]
theorem Pr.key {q : Qr} {i : Nat} {r : Rz} (h : Pr L q i r) : Pr M q i r := by
  induction h with
  | opE a b _ ih => exact .opE a b ih
  | opO a b _ _ ih1 ih2 => exact .opO a b ih1 ih2
  | lpN a => rw [H.op] at a; exact .lpN a
  | lpE a _ ih => rw [H.op] at a; exact .lpE a ih
  | lpO a _ _ ih1 ih2 => rw [H.op] at a; exact .lpO a ih1 ih2
  | cmE _ ih => exact .cmE ih
  | cmN _ a b ih => rw [H.cm] at a; rw [H.in_] at b; exact .cmN ih a b
  | cmF _ a _ ih1 ih2 => rw [H.cm] at a; exact .cmF ih1 a ih2
  | cmO _ a _ ih1 ih2 => rw [H.cm] at a; exact .cmO ih1 a ih2
  | inP _ a b c ih => rw [H.cm] at a; rw [H.in_] at b; rw [H.is] at c; exact .inP ih a b c
  | inC _ a b c _ ih1 ih2 => rw [H.cm] at a; rw [H.in_] at b; rw [H.is] at c; exact .inC ih1 a b c ih2
  | chE _ ih => exact .chE ih
  | chM _ a _ ih1 ih2 => rw [H.is] at a; exact .chM ih1 a ih2
  | chO _ a b ih => rw [H.is] at a b; exact .chO ih a b
  | chB _ a b ih => rw [H.is] at a b; exact .chB ih a b
  | unO a _ ih => rw [H.un] at a; exact .unO a ih
  | unE a _ ih => rw [H.un] at a; exact .unE a ih
  | usO a b => rw [H.un] at a; rw [H.us] at b; exact .usO a b
  | usE a b c => rw [H.un] at a; rw [H.us] at b; exact .usE a b c
  | paE a _ ih => rw [H.un] at a; exact .paE a ih
  | paO a _ b ih => rw [H.un] at a; rw [H.is] at b; exact .paO a ih b
  | paB a _ b ih => rw [H.un] at a; rw [H.is] at b; exact .paB a ih b
  | nu a => rw [H.un] at a; rw [H.n]; exact .nu a
  | te a => rw [H.un] at a; rw [H.t]; exact .te a
  | na a => rw [H.un] at a; rw [H.t]; exact .na a
  | ba a => rw [H.un] at a; exact .ba a
end
end Go.Proofs.YtfphceknmgadgaaDoor
namespace Go.Proofs.YtfphceknmgadgaaDoor
open Go.Vm
set_option maxHeartbeats 1000000
set_option maxRecDepth 20000
theorem scanG_end {s : ByteArray} {i : Nat} (n : Nat) (h : s.size ≤ i) : scanG s (n + 1) i = (0, 0, [endR s]) := by rw [scanG, if_pos h]
theorem scanG_err {s : ByteArray} {i : Nat} (n : Nat) (h : ¬ s.size ≤ i) (he : (lexR s i).e ≠ 0) : scanG s (n + 1) i = ((lexR s i).e, i, []) := by rw [scanG, if_neg h, if_pos he]
theorem scanG_ok {s : ByteArray} {i : Nat} (n : Nat) (h : ¬ s.size ≤ i) (he : (lexR s i).e = 0) {j : Nat} (hj : (lexR s i).nx + skN false (s.toList.drop (lexR s i).nx) = j) : scanG s (n + 1) i = ((scanG s n j).1, (scanG s n j).2.1, if (scanG s n j).1 = 0 then lexR s i :: (scanG s n j).2.2 else []) := by
  subst hj
  rw [scanG, if_neg h, if_neg (by rw [he]; simp)]
def shX (d : Nat) (x : LR) : LR := { x with a := x.a + d, nx := x.nx + d }
theorem xt_pre {f : List UInt8} {s s' : ByteArray} (h : s'.toList = f ++ s.toList) (i j : Nat) : s'.extract (i + f.length) (j + f.length) = s.extract i j := by
  apply ba_list
  rw [xt_list, xt_list, h, List.drop_take, List.drop_take, List.drop_append, show i + f.length - f.length = i by omega, List.drop_eq_nil_of_le (by omega), List.nil_append]
  congr 1
  omega
theorem lexR_pre {f : List UInt8} {s s' : ByteArray} (h : s'.toList = f ++ s.toList) (i : Nat) : lexR s' (i + f.length) = if (lexR s i).e = 0 then shX f.length (lexR s i) else lexR s i := by
  have hd : ∀ k, s'.toList.drop (k + f.length) = s.toList.drop k := fun k => by rw [h, List.drop_append, List.drop_eq_nil_of_le (by omega), List.nil_append]; congr 1; omega
  have hx := xt_pre h
  have e2 : i + f.length + 2 = i + 2 + f.length := by omega
  have e1 : i + f.length + 1 = i + 1 + f.length := by omega
  unfold lexR
  rw [hd]
  cases hl : s.toList.drop i with
  | nil => simp [bad]
  | cons c l =>
    have ew : i + f.length + wlen (c :: l) = i + wlen (c :: l) + f.length := by omega
    simp only [e2, e1, ew, hx]
    by_cases h1 : pre2 (c :: l) = true
    · simp only [h1, if_true]; simp [shX]
    simp only [h1, if_false]
    by_cases h2 : letterB c.toNat = true
    · simp only [h2, if_true]
      by_cases h3 : 16 < wlen (c :: l)
      · simp [h3, bad]
      · simp [h3, shX]
    simp only [h2, if_false]
    by_cases h3 : digitB c.toNat = true
    · simp only [h3, if_true]
      by_cases h4 : (numF (s.extract i (i + wlen (c :: l))).toList).2 ≠ 0
      · simp [h4, bad]
      · simp [h4, shX]
    simp only [h3, if_false]
    by_cases h4 : c.toNat = 34
    · simp only [h4, if_true, textR, e1, hd]
      cases litR (s.toList.drop (i + 1)) with
      | none => simp [bad]
      | some k =>
        by_cases h5 : 100 < k
        · simp [h5, bad]
        · have e3 : i + 1 + f.length + k = i + 1 + k + f.length := by omega
          have e4 : i + f.length + k + 2 = i + k + 2 + f.length := by omega
          simp only [h5, if_false, e3, e4, hx]
          simp [shX]
    simp only [h4, if_false]
    by_cases h5 : markB c.toNat = true
    · simp [h5, shX]
    · simp [h5, bad]
def kaX (d : Nat) (x : LR) : (Int × ByteArray × Int) × Nat := (keyX x, x.a + d)
theorem scanG_pre {f : List UInt8} {s s' : ByteArray} (h : s'.toList = f ++ s.toList) : ∀ (n' n i : Nat), s.size < i + n → s.size < i + n' → i ≤ s.size → (scanG s' n' (i + f.length)).1 = (scanG s n i).1 ∧ (scanG s' n' (i + f.length)).2.1 = (if (scanG s n i).1 = 0 then (scanG s n i).2.1 else (scanG s n i).2.1 + f.length) ∧ (scanG s' n' (i + f.length)).2.2.map (kaX 0) = (scanG s n i).2.2.map (kaX f.length) := by
  have hd : ∀ k, s'.toList.drop (k + f.length) = s.toList.drop k := fun k => by rw [h, List.drop_append, List.drop_eq_nil_of_le (by omega), List.nil_append]; congr 1; omega
  have hz : s'.size = s.size + f.length := by rw [← size_list, h, List.length_append, size_list]; omega
  intro n'
  induction n' with
  | zero => intro n i h1 h2 h3; omega
  | succ n' ih =>
    intro n i h1 h2 h3
    cases n with
    | zero => omega
    | succ n =>
      by_cases hi : s.size ≤ i
      · rw [scanG_end n hi, scanG_end n' (by omega)]
        simp [kaX, keyX, endR, hz]
      · have hl := lexR_pre h i
        by_cases he : (lexR s i).e = 0
        · rw [if_pos he] at hl
          obtain ⟨g1, g2⟩ := lexR_next s i (by omega) he
          have en : (lexR s' (i + f.length)).nx = (lexR s i).nx + f.length := by rw [hl]; rfl
          have ee : (lexR s' (i + f.length)).e = 0 := by rw [hl]; exact he
          have hk := skN_le false (s.toList.drop (lexR s i).nx)
          rw [List.length_drop, size_list] at hk
          rw [scanG_ok n hi he rfl, scanG_ok n' (by omega) ee (j := (lexR s i).nx + skN false (s.toList.drop (lexR s i).nx) + f.length) (by rw [en, hd]; omega), hl]
          obtain ⟨q1, q2, q3⟩ := ih n ((lexR s i).nx + skN false (s.toList.drop (lexR s i).nx)) (by omega) (by omega) (by omega)
          refine ⟨q1, q2, ?_⟩
          simp only [q1]
          split
          · simp only [List.map_cons, q3]; simp [kaX, keyX, shX]
          · rfl
        · rw [if_neg he] at hl
          have ee : (lexR s' (i + f.length)).e = (lexR s i).e := by rw [hl]
          rw [scanG_err n hi he, scanG_err n' (by omega) (by rw [ee]; exact he), ee]
          simp [he]
theorem scanF_pre {f : List UInt8} {s s' : ByteArray} (h : s'.toList = f ++ s.toList) (hf : ∀ l, skN false (f ++ l) = f.length + skN false l) (hz : s'.size ≤ 4000) : (scanF s').1 = (scanF s).1 ∧ (scanF s').2.1 = (if (scanF s).1 = 0 then (scanF s).2.1 else (scanF s).2.1 + f.length) ∧ (scanF s').2.2.map (kaX 0) = (scanF s).2.2.map (kaX f.length) := by
  have hz' : s'.size = s.size + f.length := by rw [← size_list, h, List.length_append, size_list]; omega
  have hk := skN_le false s.toList
  rw [size_list] at hk
  unfold scanF
  rw [if_neg (by omega), if_neg (by omega), h, hf, Nat.add_comm f.length]
  exact scanG_pre h _ _ _ (by omega) (by omega) (by omega)
theorem wlen_suf (r : List UInt8) : ∀ l, wlen (l ++ 10 :: r) = wlen l
  | [] => by simp [wlen, wordB, letterB, digitB]
  | c :: l => by simp only [List.cons_append, wlen, wlen_suf r l]
theorem litR_suf (r : List UInt8) : ∀ l, litR (l ++ 10 :: r) = litR l
  | [] => by simp [litR, badC]
  | c :: l => by simp only [List.cons_append, litR, litR_suf r l]
theorem pre2_suf (c : UInt8) (l r : List UInt8) : pre2 (c :: (l ++ 10 :: r)) = pre2 (c :: l) := by
  cases l with
  | nil => simp [pre2, List.isPrefixOf]
  | cons d l => simp [pre2, List.isPrefixOf]
theorem xt_suf {r : List UInt8} {s s' : ByteArray} (h : s'.toList = s.toList ++ r) {i j : Nat} (hj : j ≤ s.size) : s'.extract i j = s.extract i j := by
  apply ba_list
  rw [xt_list, xt_list, h, List.take_append_of_le_length (by rw [size_list]; exact hj)]
theorem litR_le : ∀ {l : List UInt8} {k : Nat}, litR l = some k → k + 1 ≤ l.length
  | [], k, h => by simp [litR] at h
  | c :: l, k, h => by
    simp only [litR] at h
    split at h
    · cases h; simp
    · split at h
      · cases h
      · split at h
        · rename_i q hq; cases h; have := litR_le hq; simp; omega
        · cases h
theorem lexR_suf {r : List UInt8} {s s' : ByteArray} (h : s'.toList = s.toList ++ 10 :: r) (i : Nat) (hi : i < s.size) : lexR s' i = lexR s i := by
  have hd : ∀ k, k ≤ s.size → s'.toList.drop k = s.toList.drop k ++ 10 :: r := fun k hk => by rw [h, List.drop_append_of_le_length (by rw [size_list]; exact hk)]
  obtain ⟨c, l, hl⟩ := drop_byte hi
  have hlen := congrArg List.length hl
  rw [List.length_drop, size_list, List.length_cons] at hlen
  have hw := wlen_le (c :: l)
  rw [List.length_cons] at hw
  unfold lexR
  rw [hd i (by omega), hl]
  have e5 : c :: l ++ 10 :: r = c :: (l ++ 10 :: r) := rfl
  have e6 : wlen (c :: (l ++ 10 :: r)) = wlen (c :: l) := wlen_suf r (c :: l)
  simp only [e5, pre2_suf, e6]
  rw [xt_suf h (j := i + wlen (c :: l)) (by omega), xt_suf h (j := i + 1) (by omega)]
  by_cases h1 : pre2 (c :: l) = true
  · simp only [h1, if_true]
    have : 0 < l.length := by
      simp only [pre2, Bool.or_eq_true] at h1
      rcases h1 with h1 | h1 <;> exact (isPre2 _ _ _ _ h1).2.2
    rw [xt_suf h (by omega)]
  have ht : textR s' i = textR s i := by
    unfold textR
    rw [hd (i + 1) (by omega), litR_suf]
    cases hq : litR (s.toList.drop (i + 1)) with
    | none => rfl
    | some k =>
      have := litR_le hq
      rw [List.length_drop, size_list] at this
      simp only
      rw [xt_suf h (by omega)]
  simp only [h1, if_false, ht, Bool.false_eq_true]
end Go.Proofs.YtfphceknmgadgaaDoor
