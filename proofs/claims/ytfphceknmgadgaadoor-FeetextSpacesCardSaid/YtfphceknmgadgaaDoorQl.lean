/-
Examples; equal rules are found equal; the law of spaces.
Conditions: none.
-/
import Derived.Test.YtfphceknmgadgaaDoorQk
import Derived.Test.YtfphceknmgadgaaDoorQi
import Derived.Test.YtfphceknmgadgaaDoorVmAF
import Derived.Test.YtfphceknmgadgaaDoorQa
set_option linter.unusedSimpArgs false
set_option linter.unusedVariables false
namespace Go.Proofs.YtfphceknmgadgaaDoor
open Go.Vm
set_option maxHeartbeats 4000000
set_option maxRecDepth 20000
theorem vbQl : type_of% (An @slIndexByte_v (An @indexByte_v (An @indexRune_v (An @containsRune_v (An @slHasPrefix_v (An @hasPrefix_v (An @classOf_v (An @isWordByte_v (An @wordAt_v (An @skip_v (An @number_v (An @literal_v (An @lexemeAt_v (An @isName_v (An @resV_v (An @fDigit_v (An @fInWord_v (An @aDig_v (An @aftV_v (An @fracV_v (An @frn_v (An @fallD_v (An @hund_v (An @hasS_v (An @cutL_v (An @cutS_v (An @idxP_v (An @cutI_v (An @cutV_v @ppV_v))))))))))))))))))))))))))))) := ⟨@slIndexByte_v, @indexByte_v, @indexRune_v, @containsRune_v, @slHasPrefix_v, @hasPrefix_v, @classOf_v, @isWordByte_v, @wordAt_v, @skip_v, @number_v, @literal_v, @lexemeAt_v, @isName_v, @resV_v, @fDigit_v, @fInWord_v, @aDig_v, @aftV_v, @fracV_v, @frn_v, @fallD_v, @hund_v, @hasS_v, @cutL_v, @cutS_v, @idxP_v, @cutI_v, @cutV_v, @ppV_v⟩
def pX (L : List LR) : Nat → Qr → Nat → Option Rz
  | 0, _, _ => none
  | f + 1, .lv l, i =>
    if l = 2 then
      match pX L f (.lv 3) i with
      | none => none
      | some (.er e j) => some (.er e j)
      | some (.ok t j) =>
        match cmX (lxA L j) with
        | some o =>
          match pX L f (.lv 3) (j + 1) with
          | none => none
          | some (.er e k) => some (.er e k)
          | some (.ok u k) => some (.ok (twoX o t u) k)
        | none => if inB (lxA L j) = false then some (.ok t j) else if isL (lxA L (j + 1)) 4 ⟨#[40]⟩ = true then pX L f (.ch [t]) (j + 2) else some (.er 2 (j + 1))
    else if l < 5 then
      match pX L f (.lv (l + 1)) i with
      | none => none
      | some (.er e j) => some (.er e j)
      | some (.ok t j) => pX L f (.lp l t) j
    else if l = 5 then
      match unC (lxA L i) with
      | .one o =>
        match pX L f (.lv 5) (i + 1) with
        | none => none
        | some (.er e k) => some (.er e k)
        | some (.ok u k) => some (.ok (oneX o u) k)
      | .use o => if (usX L (i + 1)).1 = 0 then some (.ok (.mk o (usX L (i + 1)).2.2.1 eB (usX L (i + 1)).2.2.2 []) (usX L (i + 1)).2.1) else some (.er (usX L (i + 1)).1 (usX L (i + 1)).2.1)
      | .par =>
        match pX L f (.lv 0) (i + 1) with
        | none => none
        | some (.er e k) => some (.er e k)
        | some (.ok t j) => if isL (lxA L j) 4 ⟨#[41]⟩ = true then some (.ok t (j + 1)) else some (.er 2 j)
      | .num => some (.ok (.mk 1 eB eB (lxA L i).n []) (i + 1))
      | .txt => some (.ok (.mk 2 eB (lxA L i).t 0 []) (i + 1))
      | .nam => some (.ok (.mk 3 (lxA L i).t eB 0 []) (i + 1))
      | .bad => some (.er 2 i)
    else none
  | f + 1, .lp l t, j =>
    match opX l (lxA L j) with
    | none => some (.ok t j)
    | some o =>
      match pX L f (.lv (l + 1)) (j + 1) with
      | none => none
      | some (.er e k) => some (.er e k)
      | some (.ok u k) => pX L f (.lp l (twoX o t u)) k
  | f + 1, .ch xs, i =>
    match pX L f (.lv 3) i with
    | none => none
    | some (.er e j) => some (.er e j)
    | some (.ok u j) => if isL (lxA L j) 4 ⟨#[44]⟩ = true then pX L f (.ch (xs ++ [u])) (j + 1) else if isL (lxA L j) 4 ⟨#[41]⟩ = true then some (.ok (.mk 15 eB eB 0 (xs ++ [u])) (j + 1)) else some (.er 2 j)
theorem pX_sound (L : List LR) : ∀ (f : Nat) (q : Qr) (i : Nat) (r : Rz), pX L f q i = some r → Pr L q i r := by
  intro f
  induction f with
  | zero => intro q i r h; simp [pX] at h
  | succ f ih =>
    intro q i r h
    cases q with
    | lv l =>
      rw [pX] at h
      split at h
      · rename_i hl
        subst hl
        split at h
        · cases h
        · rename_i e j h1
          cases h
          exact .cmE (ih _ _ _ h1)
        · rename_i t j h1
          split at h
          · rename_i o ho
            split at h
            · cases h
            · rename_i e k h2
              cases h
              exact .cmF (ih _ _ _ h1) ho (ih _ _ _ h2)
            · rename_i u k h2
              cases h
              exact .cmO (ih _ _ _ h1) ho (ih _ _ _ h2)
          · rename_i ho
            split at h
            · rename_i hi
              cases h
              exact .cmN (ih _ _ _ h1) ho hi
            · rename_i hi
              have hi' : inB (lxA L j) = true := by simpa using hi
              split at h
              · rename_i hp
                exact .inC (ih _ _ _ h1) ho hi' hp (ih _ _ _ h)
              · rename_i hp
                cases h
                exact .inP (ih _ _ _ h1) ho hi' (by simpa using hp)
      · rename_i hl
        split at h
        · rename_i hl5
          split at h
          · cases h
          · rename_i e j h1
            cases h
            exact .opE hl hl5 (ih _ _ _ h1)
          · rename_i t j h1
            exact .opO hl hl5 (ih _ _ _ h1) (ih _ _ _ h)
        · split at h
          · rename_i h5
            subst h5
            split at h
            · rename_i o hu
              split at h
              · cases h
              · rename_i e k h2
                cases h
                exact .unE hu (ih _ _ _ h2)
              · rename_i u k h2
                cases h
                exact .unO hu (ih _ _ _ h2)
            · rename_i o hu
              split at h
              · rename_i h0
                cases h
                exact .usO hu (by rw [← h0])
              · rename_i h0
                cases h
                exact .usE hu rfl h0
            · rename_i hu
              split at h
              · cases h
              · rename_i e k h2
                cases h
                exact .paE hu (ih _ _ _ h2)
              · rename_i t j h2
                split at h
                · rename_i hp
                  cases h
                  exact .paO hu (ih _ _ _ h2) hp
                · rename_i hp
                  cases h
                  exact .paB hu (ih _ _ _ h2) (by simpa using hp)
            · rename_i hu; cases h; exact .nu hu
            · rename_i hu; cases h; exact .te hu
            · rename_i hu; cases h; exact .na hu
            · rename_i hu; cases h; exact .ba hu
          · cases h
    | lp l t =>
      rw [pX] at h
      split at h
      · rename_i ho; cases h; exact .lpN ho
      · rename_i o ho
        split at h
        · cases h
        · rename_i e k h2
          cases h
          exact .lpE ho (ih _ _ _ h2)
        · rename_i u k h2
          exact .lpO ho (ih _ _ _ h2) (ih _ _ _ h)
    | ch xs =>
      rw [pX] at h
      split at h
      · cases h
      · rename_i e j h1
        cases h
        exact .chE (ih _ _ _ h1)
      · rename_i u j h1
        split at h
        · rename_i hm
          exact .chM (ih _ _ _ h1) hm (ih _ _ _ h)
        · rename_i hm
          split at h
          · rename_i hp
            cases h
            exact .chO (ih _ _ _ h1) (by simpa using hm) hp
          · rename_i hp
            cases h
            exact .chB (ih _ _ _ h1) (by simpa using hm) (by simpa using hp)
def nX (s : ByteArray) : Xs := .mk 3 s eB 0 []
def nuX (n : Int) : Xs := .mk 1 eB eB n []
def fx1 : ByteArray := ⟨#[102, 101, 101, 32, 102, 111, 111, 100, 32, 119, 104, 101, 110, 32, 99, 97, 116, 101, 103, 111, 114, 121, 32, 105, 110, 32, 40, 53, 52, 49, 49, 44, 32, 53, 52, 49, 50, 41, 58, 32, 49, 46, 48, 53, 37, 32, 43, 32, 49, 48, 32, 109, 97, 120, 32, 53, 48, 48, 59]⟩
def fx2 : ByteArray := ⟨#[102, 101, 101, 32, 97, 32, 119, 104, 101, 110, 32, 49, 32, 61, 32, 49, 58, 32, 49, 32, 37, 59]⟩
def fx3 : ByteArray := ⟨#[102, 101, 101, 32, 109, 105, 110, 32, 119, 104, 101, 110, 32, 49, 32, 61, 32, 49, 58, 32, 49, 37, 59]⟩
def ft1 : Xs := .mk 15 eB eB 0 [nX ⟨#[99, 97, 116, 101, 103, 111, 114, 121]⟩, nuX 5411, nuX 5412]
def ft2 : Xs := twoX 8 (nuX 1) (nuX 1)
def fu1 : Fu := ⟨⟨#[102, 111, 111, 100]⟩, ft1, 105, 10, 0, 500⟩
def fe1 : ByteArray := ⟨#[99, 97, 116, 101, 103, 111, 114, 121, 32, 105, 110, 32, 40, 53, 52, 49, 49, 44, 32, 53, 52, 49, 50, 41]⟩
def fe2 : ByteArray := ⟨#[49, 32, 61, 32, 49]⟩
theorem fe1_o : PxO fe1 0 0 ft1 := .ok (j := 7) (by decide +kernel) (pX_sound _ 40 _ _ _ (by kernel_rfl)) (show (scanF fe1).2.2[7]? = some (lxA (scanF fe1).2.2 7) by kernel_rfl) (by decide +kernel)
theorem fe2_o : PxO fe2 0 0 ft2 := .ok (j := 3) (by decide +kernel) (pX_sound _ 40 _ _ _ (by kernel_rfl)) (show (scanF fe2).2.2[3]? = some (lxA (scanF fe2).2.2 3) by kernel_rfl) (by decide +kernel)
theorem fx1_o : PfO fx1 0 0 [fu1] := by
  have hL : (scanF (plB fx1)).1 = 0 := by decide +kernel
  refine .ok hL (.step (u := fu1) (j := 18) (by decide +kernel) ?_ (.fin (by decide +kernel)))
  have h := FuO.ok (s := fx1) (pl := plB fx1) (L := (scanF (plB fx1)).2.2) (us := []) (i := 0) (t := ft1) (b := 105) (fx := 10) (mn := 0) (mx := 500) (k := 18) (by decide +kernel) (by rw [show exS (plB fx1) (scanF (plB fx1)).2.2 0 = fe1 by decide +kernel]; exact fe1_o) (by kernel_rfl)
  rw [show (lxA (scanF (plB fx1)).2.2 (0 + 1)).t = ⟨#[102, 111, 111, 100]⟩ by kernel_rfl] at h
  exact h
theorem fx2_o : PfO fx2 2 18 [] := by
  have hL : (scanF (plB fx2)).1 = 0 := by decide +kernel
  refine .er hL (.err (by decide +kernel) ?_)
  have h := FuE.t (s := fx2) (pl := plB fx2) (L := (scanF (plB fx2)).2.2) (us := []) (i := 0) (t := ft2) (k := 7) (by decide +kernel) (by rw [show exS (plB fx2) (scanF (plB fx2)).2.2 0 = fe2 by decide +kernel]; exact fe2_o) (by kernel_rfl)
  rw [show atA (scanF (plB fx2)).2.2 7 = 18 by decide +kernel] at h
  exact h
theorem fx3_o : PfO fx3 2 4 [] := by
  have hL : (scanF (plB fx3)).1 = 0 := by decide +kernel
  refine .er hL (.err (by decide +kernel) ?_)
  have h := FuE.h (s := fx3) (pl := plB fx3) (L := (scanF (plB fx3)).2.2) (us := []) (i := 0) (e := 2) (j := 1) (by decide +kernel)
  rw [show atA (scanF (plB fx3)).2.2 1 = 4 by decide +kernel] at h
  exact h
end Go.Proofs.YtfphceknmgadgaaDoor
namespace Go.Proofs.YtfphceknmgadgaaDoor
open Go.Vm
set_option maxHeartbeats 4000000
set_option maxRecDepth 20000
theorem smS_h (A : AH) (op n : Int) (nm tx : ByteArray) (args : List Xs) (p q : Option Addr) (cap qcap : Nat) (rs ss : List Xr) (hl : args.length ≤ 140737488355328) (hrs : rs.length = args.length) (hss : ss.length = args.length) (hS : StR xrC 5 A p rs) (hS2 : StR xrC 5 A q ss) (ih : ∀ (k : Nat) (x : Xs) (r s : Xr), args[k]? = some x → rs[k]? = some r → ss[k]? = some s → ∀ B, SubA A B → valA Tryd.prog 14 #[xrV r, xrV s] B = some (.bool true)) : CallA Tryd.prog 14 #[.agg #[.int .i64 op, .string nm, .string tx, .int .i64 n, .slice p args.length cap], .agg #[.int .i64 op, .string nm, .string tx, .int .i64 n, .slice q args.length qcap]] A (fun u_ A_ => u_ = .bool true ∧ SubA A A_) := by
  refine callA_of_denA ⟨Tryd.prog, 14, Tryd.f14, 60, [0, 1, 2, 3, 4, 5], ⟨[], none⟩, [(6, .q false)], _⟩ rfl (args := [_, _]) Tryd.func14 rfl (by kernel_rfl) Tryd.ntmps14 (by simp) (by kernel_rfl) ?_
  intro ν fr; have nuE := fr.nu
  have f0 := fr.2 0
  have f1 := fr.2 1
  have n01 : (ν 1 = ν 0) = False := by simp [nuE]
  simp (maxDischargeDepth := 16) only [evN, ↓evP, simprocAttr, forall_const, nuE, fr.2, vbQl]
  have dst_ : ((ν 0 = ν 1) = False) ∧ ((ν 1 = ν 0) = False) := (by simp [nuE]); generalize ν 0 = n2 at dst_  f0 f1 n01 ⊢; generalize ν 1 = n3 at dst_  f0 f1 n01 ⊢
  clear nuE fr
  have d0 := dst_
  obtain ⟨e, l, he, hd, hle⟩ : ∃ (e : Nat) (l : List Xs), e = 0 ∧ l = args.drop e ∧ e ≤ args.length := ⟨0, _, rfl, rfl, by omega⟩
  rw [show (5, some (Value.int .i64 0)) = (5, some (Value.int .i64 (e : Int))) by rw [he]; rfl]
  clear he
  have sA : ∀ o o', SubA A ((n3, o) :: (n2, o') :: A) := fun o o' => SubA.fresh (look_c1 (by simp [d0]) f1) (SubA.fresh f0 (SubA.refl _))
  induction l generalizing e with
  | nil =>
    obtain ⟨hn1, hn2⟩ := drop_nil hd hle
    have lt : ((e : Int) < (args.length : Int)) = False := eq_false (by omega)
    refine LoopA.intro (by kernel_rfl) ?_
    intro ν fr; have nuE := And.intro (fr.mem (b := n3) (by simp)) (And.intro (fr.mem (b := n2) (by simp)) (fr.nu))
    simp (maxDischargeDepth := 16) only [evN, ↓evP, simprocAttr, forall_const, nuE, fr.2, vbQl, lt, d0]
    exact sA _ _
  | cons x l ihl =>
    obtain ⟨ha, hlt, hd', htk⟩ := drop_some hd
    have lt : ((e : Int) < (args.length : Int)) = True := eq_true (by omega)
    have li : ((e : Int) < 0) = False := eq_false (by omega)
    have we : IntKind.i64.wrap ((e : Int) + 1) = ((e + 1 : Nat) : Int) := by rw [w_i64 (by omega) (by omega)]; omega
    obtain ⟨r, hr⟩ : ∃ r, rs[e]? = some r := ⟨_, List.getElem?_eq_getElem (by omega)⟩
    obtain ⟨s, hs⟩ : ∃ s, ss[e]? = some s := ⟨_, List.getElem?_eq_getElem (by omega)⟩
    obtain ⟨bk, off, cs, ty, fr0, hp0, hbk, hcr, hcc⟩ := hS.at hr
    obtain ⟨bk', off', cs', ty', fr0', hp0', hbk', hcr', hcc'⟩ := hS2.at hs
    subst hp0
    subst hp0'
    simp only [xrC] at hcr hcr'
    obtain ⟨q1, q2⟩ := look_ne f0 hbk
    obtain ⟨q3, q4⟩ := look_ne f1 hbk
    obtain ⟨q5, q6⟩ := look_ne f0 hbk'
    obtain ⟨q7, q8⟩ := look_ne f1 hbk'
    have iv := ih e x r s ha hr hs _ (sA (.cells #[.int .i64 op, .string nm, .string tx, .int .i64 n, .slice (some ⟨bk', off', none⟩) args.length qcap] 34) (.cells #[.int .i64 op, .string nm, .string tx, .int .i64 n, .slice (some ⟨bk, off, none⟩) args.length cap] 34))
    simp only [xrV, xrC] at iv
    refine LoopA.intro (by kernel_rfl) ?_
    intro ν fr; have nuE := And.intro (fr.mem (b := n3) (by simp)) (And.intro (fr.mem (b := n2) (by simp)) (fr.nu))
    simp (maxDischargeDepth := 16) only [evN, ↓evP, simprocAttr, forall_const, nuE, fr.2, vbQl, d0, lt, li, hbk, hbk', hcr, hcr', q1, q2, q3, q4, q5, q6, q7, q8, iv, we]
    exact LoopA.weak (ihl (e + 1) hd' (by omega)) (by simp only [subE, get_cons, Nat.reduceEqDiff, ↓reduceIte, reduceCtorEq, Nat.reduceAdd, and_self, and_true]) (SubA.refl _)
theorem smS_w (A : AH) (op n : Int) (nm tx : ByteArray) (args : List Xs) (p q : Option Addr) (cap qcap : Nat) (rs ss : List Xr) (hl : args.length ≤ 140737488355328) (hrs : rs.length = args.length) (hss : ss.length = args.length) (hS : StR xrC 5 A p rs) (hS2 : StR xrC 5 A q ss) (ih : ∀ (k : Nat) (x : Xs) (r s : Xr), args[k]? = some x → rs[k]? = some r → ss[k]? = some s → ∀ B, SubA A B → valA Tryd.prog 14 #[xrV r, xrV s] B = some (.bool true)) (B_ : AH) (hB_ : SubA A B_) : valA Tryd.prog 14 #[.agg #[.int .i64 op, .string nm, .string tx, .int .i64 n, .slice p args.length cap], .agg #[.int .i64 op, .string nm, .string tx, .int .i64 n, .slice q args.length qcap]] B_ = some (.bool true) := valA_eq (pureA_at (by kernel_rfl) (smS_h A op n nm tx args p q cap qcap rs ss hl hrs hss hS hS2 ih) hB_)
theorem sameE {A : AH} {t : Xs} {r : Xr} (h : ExR A t r) : ∀ {s : Xr}, ExR A t s → ∀ B, SubA A B → valA Tryd.prog 14 #[xrV r, xrV s] B = some (.bool true) := by
  induction h with
  | @mk op n nm tx args p cap rs h0 h0' h1 h2 h3 ih =>
    intro s hs B hB
    cases hs with
    | @mk _ _ _ _ _ q qcap ss g0 g0' g1 g2 g3 =>
      exact smS_w A op n nm tx args p q cap qcap rs ss h0 h1 g1 h2 g2 (fun k x r s hx hr hs C hC => ih k x r hx hr (g3 k x s hx hs) C hC) B hB
theorem smF_h (A : AH) (us : List Fu) (p q : Option Addr) (cap qcap : Nat) (hl : us.length ≤ 140737488355328) (hR : FuL A us p) (hQ : FuL A us q) : CallA Tryd.prog 6 #[.slice p us.length cap, .slice q us.length qcap] A (fun u_ A_ => u_ = .bool true ∧ SubA A A_) := by
  refine callA_of_denA ⟨Tryd.prog, 6, Tryd.f6, 94, [0, 1, 4, 5], ⟨[], none⟩, [(6, .q false)], _⟩ rfl (args := [_, _]) Tryd.func6 rfl (by kernel_rfl) Tryd.ntmps6 (by simp) (by kernel_rfl) ?_
  intro ν fr; have nuE := fr.nu
  obtain ⟨rs, hrl, hS, hall⟩ := hR
  obtain ⟨ss, hsl, hS2, hall2⟩ := hQ
  simp (maxDischargeDepth := 16) only [evN, ↓evP, simprocAttr, forall_const, nuE, fr.2, vbQl]
  clear nuE fr
  obtain ⟨e, l, he, hd, hle⟩ : ∃ (e : Nat) (l : List Fu), e = 0 ∧ l = us.drop e ∧ e ≤ us.length := ⟨0, _, rfl, rfl, by omega⟩
  rw [show (5, some (Value.int .i64 0)) = (5, some (Value.int .i64 (e : Int))) by rw [he]; rfl]
  clear he
  induction l generalizing e with
  | nil =>
    obtain ⟨hn1, hn2⟩ := drop_nil hd hle
    have lt : ((e : Int) < (us.length : Int)) = False := eq_false (by omega)
    refine LoopA.intro (by kernel_rfl) ?_
    intro ν fr; have nuE := fr.nu
    simp (maxDischargeDepth := 16) only [evN, ↓evP, simprocAttr, forall_const, nuE, fr.2, vbQl, lt]
  | cons x l ihl =>
    obtain ⟨ha, hlt, hd', htk⟩ := drop_some hd
    have lt : ((e : Int) < (us.length : Int)) = True := eq_true (by omega)
    have li : ((e : Int) < 0) = False := eq_false (by omega)
    have we : IntKind.i64.wrap ((e : Int) + 1) = ((e + 1 : Nat) : Int) := by rw [w_i64 (by omega) (by omega)]; omega
    obtain ⟨r, hr⟩ : ∃ r, rs[e]? = some r := ⟨_, List.getElem?_eq_getElem (by omega)⟩
    obtain ⟨s, hs⟩ : ∃ s, ss[e]? = some s := ⟨_, List.getElem?_eq_getElem (by omega)⟩
    obtain ⟨bk, off, cs, ty, fr0, hp0, hbk, hcr, hcc⟩ := hS.at hr
    obtain ⟨bk', off', cs', ty', fr0', hp0', hbk', hcr', hcc'⟩ := hS2.at hs
    obtain ⟨r1, r2, r3, r4, r5, r6⟩ := hall e x r ha hr
    obtain ⟨s1, s2, s3, s4, s5, s6⟩ := hall2 e x s ha hs
    subst hp0
    subst hp0'
    have c0 : cs[off + e * 10]? = some (.string x.nm) := hcc 0 _ (by simp [fuC, r1])
    have c6 : cs[off + e * 10 + 6]? = some (.int .i64 x.bps) := hcc 6 _ (by simp [fuC, r3])
    have c7 : cs[off + e * 10 + 7]? = some (.int .i64 x.fx) := hcc 7 _ (by simp [fuC, r4])
    have c8 : cs[off + e * 10 + 8]? = some (.int .i64 x.mn) := hcc 8 _ (by simp [fuC, r5])
    have c9 : cs[off + e * 10 + 9]? = some (.int .i64 x.mx) := hcc 9 _ (by simp [fuC, r6])
    have w5 : rdCS (some (.cells cs ty fr0)) (off + e * 10 + 1) 5 = some #[.int .i64 r.w.op, .string r.w.nm, .string r.w.tx, .int .i64 r.w.n, .slice r.w.p r.w.len r.w.cap] := by
      have h := rdCS_sub hcr (k := 1) (n := 5) (by decide)
      simpa [fuC] using h
    have c0' : cs'[off' + e * 10]? = some (.string x.nm) := hcc' 0 _ (by simp [fuC, s1])
    have c6' : cs'[off' + e * 10 + 6]? = some (.int .i64 x.bps) := hcc' 6 _ (by simp [fuC, s3])
    have c7' : cs'[off' + e * 10 + 7]? = some (.int .i64 x.fx) := hcc' 7 _ (by simp [fuC, s4])
    have c8' : cs'[off' + e * 10 + 8]? = some (.int .i64 x.mn) := hcc' 8 _ (by simp [fuC, s5])
    have c9' : cs'[off' + e * 10 + 9]? = some (.int .i64 x.mx) := hcc' 9 _ (by simp [fuC, s6])
    have w5' : rdCS (some (.cells cs' ty' fr0')) (off' + e * 10 + 1) 5 = some #[.int .i64 s.w.op, .string s.w.nm, .string s.w.tx, .int .i64 s.w.n, .slice s.w.p s.w.len s.w.cap] := by
      have h := rdCS_sub hcr' (k := 1) (n := 5) (by decide)
      simpa [fuC] using h
    have iv := sameE r2 s2 A (SubA.refl _)
    simp only [xrV, xrC] at iv
    refine LoopA.intro (by kernel_rfl) ?_
    intro ν fr; have nuE := fr.nu
    simp (maxDischargeDepth := 16) only [evN, ↓evP, simprocAttr, forall_const, nuE, fr.2, vbQl, lt, li, hbk, hbk', c0, c6, c7, c8, c9, w5, c0', c6', c7', c8', c9', w5', iv, we]
    exact LoopA.weak (ihl (e + 1) hd' (by omega)) (by simp only [subE, get_cons, Nat.reduceEqDiff, ↓reduceIte, reduceCtorEq, Nat.reduceAdd, and_self, and_true]) (SubA.refl _)
theorem smF_w (A : AH) (us : List Fu) (p q : Option Addr) (cap qcap : Nat) (hl : us.length ≤ 140737488355328) (hR : FuL A us p) (hQ : FuL A us q) (B_ : AH) (hB_ : SubA A B_) : valA Tryd.prog 6 #[.slice p us.length cap, .slice q us.length qcap] B_ = some (.bool true) := valA_eq (pureA_at (by kernel_rfl) (smF_h A us p q cap qcap hl hR hQ) hB_)
end Go.Proofs.YtfphceknmgadgaaDoor
namespace Go.Proofs.YtfphceknmgadgaaDoor
open Go.Vm
set_option maxHeartbeats 8000000
set_option maxRecDepth 20000
theorem pp1 (A : AH) : valA Tryd.prog 7 #[.string ⟨#[49, 46, 50, 37]⟩] A = some (.tuple #[.int .i64 120, .int .i64 0]) := by
  have h := ppV_v ⟨#[49, 46, 50, 37]⟩ (by decide) A
  rw [show ppR (ByteArray.toList ⟨#[49, 46, 50, 37]⟩) = (120, 0) by decide +kernel] at h
  exact h
theorem pp2 (A : AH) : valA Tryd.prog 7 #[.string ⟨#[49, 46, 50, 48, 37]⟩] A = some (.tuple #[.int .i64 0, .int .i64 2]) := by
  have h := ppV_v ⟨#[49, 46, 50, 48, 37]⟩ (by decide) A
  rw [show ppR (ByteArray.toList ⟨#[49, 46, 50, 48, 37]⟩) = (0, 2) by decide +kernel] at h
  exact h
theorem pp3 (A : AH) : valA Tryd.prog 7 #[.string ⟨#[49, 48, 48, 46, 48, 49, 37]⟩] A = some (.tuple #[.int .i64 0, .int .i64 4]) := by
  have h := ppV_v ⟨#[49, 48, 48, 46, 48, 49, 37]⟩ (by decide) A
  rw [show ppR (ByteArray.toList ⟨#[49, 48, 48, 46, 48, 49, 37]⟩) = (0, 4) by decide +kernel] at h
  exact h
theorem pc5 {A B : AH} (hT : TabA A) (hB : SubA A B) : valA Tryd.prog 8 #[.int .i64 5] B = some (.string ⟨#[48, 46, 48, 53, 37]⟩) := by
  have h := pctV_w A hT 5 B hB
  rw [show bs (pcF 5) = ⟨#[48, 46, 48, 53, 37]⟩ by decide +kernel] at h
  exact h
theorem awk37_h (A : AH) (hT : TabA A) : CallA Tryd.prog 4 #[] A (fun u_ A_ => u_ = .bool true ∧ SubA A A_) := by
  refine callA_of_denA ⟨Tryd.prog, 4, Tryd.f4, 123, [0, 1, 2, 3, 5, 6, 8, 9, 10, 11, 13, 15], ⟨[5], none⟩, [], _⟩ rfl (args := []) Tryd.func4 rfl (by kernel_rfl) Tryd.ntmps4 (by simp) (by kernel_rfl) ?_
  intro ν fr; have nuE := fr.nu
  simp (maxDischargeDepth := 16) only [evN, ↓evP, simprocAttr, forall_const, nuE, fr.2, vbQl]
  clear nuE fr
  refine CallA.newX (fpar_h fx1 (by decide)) (SubA.nil _) ?_
  rintro v1 B1 ⟨e, at_, us, p1, k1, hP, h64, hc1, rfl, rs, hrl, hS, hall⟩ hd1
  obtain ⟨rfl, rfl, rfl⟩ := hP.det fx1_o
  refine ⟨B1 ++ A, SubA.refl _, ?_⟩
  clear hP h64
  simp only [List.length_cons, List.length_nil, Nat.zero_add] at hc1 hrl ⊢
  intro ν fr; have nuE := fr.nu
  simp (maxDischargeDepth := 16) only [evN, ↓evP, simprocAttr, forall_const, nuE, fr.2, vbQl]
  clear nuE fr
  refine CallA.newX (fpar_h fx2 (by decide)) (SubA.nil _) ?_
  rintro v2 B2 ⟨e, at_, us, p2, k2, hP, h64, hc2, rfl, _⟩ hd2
  obtain ⟨rfl, rfl, rfl⟩ := hP.det fx2_o
  refine ⟨B1 ++ A, hd2.right, ?_⟩
  clear hP h64
  simp only [List.length_nil]
  intro ν fr; have nuE := fr.nu
  simp (maxDischargeDepth := 16) only [evN, ↓evP, simprocAttr, forall_const, nuE, fr.2, vbQl]
  clear nuE fr
  refine CallA.newX (fpar_h fx3 (by decide)) (SubA.nil _) ?_
  rintro v3 B3 ⟨e, at_, us, p3, k3, hP, h64, hc3, rfl, _⟩ hd3
  obtain ⟨rfl, rfl, rfl⟩ := hP.det fx3_o
  refine ⟨B1 ++ A, hd3.right, ?_⟩
  clear hP h64
  obtain ⟨r, rfl⟩ : ∃ r, rs = [r] := List.length_eq_one_iff.1 hrl
  obtain ⟨bk, off, cs, ty, fr0, hp0, hbk, hcr, hcc⟩ := hS.at (show [r][0]? = some r from rfl)
  obtain ⟨r1, r2, r3, r4, r5, r6⟩ := hall 0 fu1 r rfl rfl
  subst hp0
  have hbk' : Vm.look (B1 ++ A) bk = some (.cells cs ty fr0) := SubA.left B1 A _ _ hbk
  have c0 : cs[off]? = some (.string ⟨#[102, 111, 111, 100]⟩) := by have := hcc 0 _ (by simp [fuC, r1]; rfl); simpa [fu1] using this
  have c6 : cs[off + 6]? = some (.int .i64 105) := by have := hcc 6 _ (by simp [fuC, r3]; rfl); simpa [fu1] using this
  have c7 : cs[off + 7]? = some (.int .i64 10) := by have := hcc 7 _ (by simp [fuC, r4]; rfl); simpa [fu1] using this
  have c8 : cs[off + 8]? = some (.int .i64 0) := by have := hcc 8 _ (by simp [fuC, r5]; rfl); simpa [fu1] using this
  have c9 : cs[off + 9]? = some (.int .i64 500) := by have := hcc 9 _ (by simp [fuC, r6]; rfl); simpa [fu1] using this
  have v5 := pc5 hT hd1.right
  simp only [List.length_nil]
  intro ν fr; have nuE := fr.nu
  simp (maxDischargeDepth := 16) only [evN, ↓evP, simprocAttr, forall_const, nuE, fr.2, vbQl, pp1, pp2, pp3, hbk', c0, c6, c7, c8, c9, v5]
  exact hd1.right
theorem awk37_w (A : AH) (hT : TabA A) (B_ : AH) (hB_ : SubA A B_) : valA Tryd.prog 4 #[] B_ = some (.bool true) := valA_eq (pureA_at (by kernel_rfl) (awk37_h A hT) hB_)
end Go.Proofs.YtfphceknmgadgaaDoor
namespace Go.Proofs.YtfphceknmgadgaaDoor
open Go.Vm
set_option maxHeartbeats 8000000
set_option maxRecDepth 20000
theorem sc_f0 : sliceCells Tryd.prog 24 0 [] = some (36, #[]) := by kernel_rfl
theorem sc_s5 (a b c d e : ByteArray) : sliceCells Tryd.prog 23 5 [(0, .string a), (1, .string b), (2, .string c), (3, .string d), (4, .string e)] = some (9, #[.string a, .string b, .string c, .string d, .string e]) := by kernel_rfl
theorem AllF.app {A : AH} {us vs : List Fu} {rs ss : List Fuv} (h : AllF A us rs) (hl : rs.length = us.length) (g : AllF A vs ss) : AllF A (us ++ vs) (rs ++ ss) := by
  intro m y s hy hs
  by_cases hm : m < us.length
  · rw [List.getElem?_append_left hm] at hy
    rw [List.getElem?_append_left (by omega)] at hs
    exact h m y s hy hs
  · rw [List.getElem?_append_right (by omega)] at hy hs
    rw [hl] at hs
    exact g _ y s hy hs
theorem fuC_one : ∀ (rs : List Fuv), ∀ u ∈ rs.flatMap fuC, u.oneCell' = true := by
  intro rs u hu
  obtain ⟨r, _, hr⟩ := List.mem_flatMap.1 hu
  simp only [fuC, List.mem_cons, List.not_mem_nil, or_false] at hr
  rcases hr with rfl | rfl | rfl | rfl | rfl | rfl | rfl | rfl | rfl | rfl <;> rfl
theorem spacesF_h (A : AH) (hT : TabA A) (s t : ByteArray) (zs : s.size ≤ 140737488351232) (zt : t.size ≤ 140737488351232) (c : UInt8) : CallA Tryd.prog 3 #[.string s, .string t, .int .u8 (c.toNat : Int)] A (fun u_ A_ => u_ = .bool true ∧ SubA A A_) := by
  refine callA_of_denA ⟨Tryd.prog, 3, Tryd.f3, 99, [0, 1, 2, 6, 7, 8, 9, 11, 12, 14, 15, 17, 18], ⟨[5], none⟩, [], _⟩ rfl (args := [_, _, _]) Tryd.func3 rfl (by kernel_rfl) Tryd.ntmps3 (by simp) (by kernel_rfl) ?_
  intro ν fr; have nuE := fr.nu
  have av := awk37_w A hT A (SubA.refl _)
  have wz : IntKind.i64.wrap ((s.size : Int) + (t.size : Int)) = ((s.size + t.size : Nat) : Int) := by rw [w_i64 (by omega) (by omega)]; omega
  by_cases hs : s.size + t.size ≤ 3900
  rotate_left
  · have lt : (3900 < ((s.size + t.size : Nat) : Int)) = True := eq_true (by omega)
    simp (maxDischargeDepth := 16) only [evN, ↓evP, simprocAttr, forall_const, nuE, fr.2, vbQl, wz, lt, av]
  have lt : (3900 < ((s.size + t.size : Nat) : Int)) = False := eq_false (by omega)
  obtain ⟨k, sp, hk, hget, hsp⟩ : ∃ (k : Nat) (sp : ByteArray), c.toNat % 5 = k ∧ [Value.string ⟨#[32]⟩, Value.string ⟨#[10]⟩, Value.string ⟨#[9, 32, 10]⟩, Value.string ⟨#[35, 32, 49, 46, 53, 37, 32, 97, 32, 114, 101, 109, 97, 114, 107, 59, 32, 10]⟩, Value.string ⟨#[10, 35, 10]⟩][k * 1]? = some (.string sp) ∧ sp.toList ∈ spB := by
    have : c.toNat % 5 < 5 := Nat.mod_lt _ (by decide)
    obtain h | h | h | h | h : c.toNat % 5 = 0 ∨ c.toNat % 5 = 1 ∨ c.toNat % 5 = 2 ∨ c.toNat % 5 = 3 ∨ c.toNat % 5 = 4 := by omega
    · exact ⟨_, ⟨#[32]⟩, h, rfl, by decide +kernel⟩
    · exact ⟨_, ⟨#[10]⟩, h, rfl, by decide +kernel⟩
    · exact ⟨_, ⟨#[9, 32, 10]⟩, h, rfl, by decide +kernel⟩
    · exact ⟨_, ⟨#[35, 32, 49, 46, 53, 37, 32, 97, 32, 114, 101, 109, 97, 114, 107, 59, 32, 10]⟩, h, rfl, by decide +kernel⟩
    · exact ⟨_, ⟨#[10, 35, 10]⟩, h, rfl, by decide +kernel⟩
  have wm : ((c.toNat : Int).tmod 5) = (k : Int) := by rw [Int.tmod_eq_emod_of_nonneg (by omega)]; omega
  have k5 : ((k : Int) < 5) = True := eq_true (by omega)
  simp (maxDischargeDepth := 16) only [evN, ↓evP, simprocAttr, forall_const, nuE, fr.2, vbQl, wz, lt, wm, k5, hget, sc_s5]
  have s0 := fr.2 0
  have dst_ : True := (by simp [nuE]); generalize ν 0 = n0 at dst_  s0 ⊢
  clear nuE fr
  obtain ⟨_, hbl⟩ := spB_blank hsp
  rw [size_list] at hbl
  refine CallA.newX (fpar_h s (by omega)) (SubA.nil _) ?_
  rintro v1 B1 ⟨e1, a1, us, p1, k1, hP1, hl1, hc1, rfl, hR1⟩ d1
  refine ⟨B1 ++ A, SubA.trans (SubA.app (SubA.fresh s0 (SubA.refl _))) (SubA.refl _), ?_⟩
  have dA1 : Dis B1 A := Dis.subr d1 (SubA.fresh s0 (SubA.refl _))
  clear d1
  intro ν fr; have nuE := fr.nu
  simp (maxDischargeDepth := 16) only [evN, ↓evP, simprocAttr, forall_const, nuE, fr.2, vbQl]
  clear nuE fr
  refine CallA.newX (fpar_h t (by omega)) (SubA.nil _) ?_
  rintro v2 B2 ⟨e2, a2, vs, p2, k2, hP2, hl2, hc2, rfl, hR2⟩ d2
  refine ⟨B2 ++ (B1 ++ A), SubA.refl _, ?_⟩
  intro ν fr; have nuE := fr.nu
  have av2 := awk37_w A hT (B2 ++ (B1 ++ A)) (SubA.trans dA1.right d2.right)
  by_cases z1 : e1 = 0
  rotate_left
  · have y1 : (e1 != 0) = true := by simp [z1]
    simp (maxDischargeDepth := 16) only [evN, ↓evP, simprocAttr, forall_const, nuE, fr.2, vbQl, y1, eq_false z1, av2]
    exact SubA.trans dA1.right d2.right
  by_cases z2 : e2 = 0
  rotate_left
  · have y1 : (e1 != 0) = false := by simp [z1]
    have y2 : (e2 != 0) = true := by simp [z2]
    simp (maxDischargeDepth := 16) only [evN, ↓evP, simprocAttr, forall_const, nuE, fr.2, vbQl, y1, y2, z1, eq_false z2, av2]
    exact SubA.trans dA1.right d2.right
  subst z1
  subst z2
  have hp1 := (hP1.ok_inv).2.1
  have n1 : s.size + (ByteArray.mk #[10]).size ≤ 9223372036854775807 := by show s.size + 1 ≤ _; omega
  have n2 : (s ++ ByteArray.mk #[10]).size + t.size ≤ 9223372036854775807 := by rw [ByteArray.size_append]; show s.size + 1 + t.size ≤ _; omega
  have c1 : (s ++ ByteArray.mk #[10] ++ t).toList = s.toList ++ 10 :: t.toList := by simp [ByteArray.toList_eq, ByteArray.data_append]
  have z1 : (s ++ ByteArray.mk #[10] ++ t).size = s.size + 1 + t.size := by rw [ByteArray.size_append, ByteArray.size_append]; rfl
  simp (maxDischargeDepth := 16) only [evN, ↓evP, simprocAttr, forall_const, nuE, fr.2, vbQl, n1, n2]
  clear nuE fr
  refine CallA.newX (fpar_h (s ++ ByteArray.mk #[10] ++ t) (by omega)) (SubA.nil _) ?_
  rintro v3 B3 ⟨e3, a3, ws, p3, k3, hP3, hl3, hc3, rfl, hR3⟩ d3
  refine ⟨B3 ++ (B2 ++ (B1 ++ A)), SubA.refl _, ?_⟩
  have m1 : sp.size + s.size ≤ 9223372036854775807 := by omega
  have m2 : (sp ++ s).size + (ByteArray.mk #[10]).size ≤ 9223372036854775807 := by rw [ByteArray.size_append]; show sp.size + s.size + 1 ≤ _; omega
  have m3 : (sp ++ s ++ ByteArray.mk #[10]).size + sp.size ≤ 9223372036854775807 := by rw [ByteArray.size_append, ByteArray.size_append]; show sp.size + s.size + 1 + sp.size ≤ _; omega
  have m4 : (sp ++ s ++ ByteArray.mk #[10] ++ sp).size + t.size ≤ 9223372036854775807 := by rw [ByteArray.size_append, ByteArray.size_append, ByteArray.size_append]; show sp.size + s.size + 1 + sp.size + t.size ≤ _; omega
  have m5 : (sp ++ s ++ ByteArray.mk #[10] ++ sp ++ t).size + (ByteArray.mk #[10]).size ≤ 9223372036854775807 := by rw [ByteArray.size_append, ByteArray.size_append, ByteArray.size_append, ByteArray.size_append]; show sp.size + s.size + 1 + sp.size + t.size + 1 ≤ _; omega
  have m6 : (sp ++ s ++ ByteArray.mk #[10] ++ sp ++ t ++ ByteArray.mk #[10]).size + sp.size ≤ 9223372036854775807 := by rw [ByteArray.size_append, ByteArray.size_append, ByteArray.size_append, ByteArray.size_append, ByteArray.size_append]; show sp.size + s.size + 1 + sp.size + t.size + 1 + sp.size ≤ _; omega
  obtain ⟨F, hF⟩ : ∃ F, sp ++ s ++ ByteArray.mk #[10] ++ sp ++ t ++ ByteArray.mk #[10] ++ sp = F := ⟨_, rfl⟩
  have c2 : F.toList = sp.toList ++ (s.toList ++ 10 :: (sp.toList ++ (t.toList ++ 10 :: sp.toList))) := by rw [← hF]; simp [ByteArray.toList_eq, ByteArray.data_append]
  have zF : F.size ≤ 100000 := by rw [← size_list, c2]; simp only [List.length_append, List.length_cons, size_list]; omega
  intro ν fr; have nuE := fr.nu
  simp (maxDischargeDepth := 16) only [evN, ↓evP, simprocAttr, forall_const, nuE, fr.2, vbQl, m1, m2, m3, m4, m5, m6, hF]
  clear nuE fr
  refine CallA.newX (fpar_h F zF) (SubA.nil _) ?_
  rintro v4 B4 ⟨e4, a4, ws', p4, k4, hP4, hl4, hc4, rfl, hR4⟩ d4
  obtain ⟨rfl, rfl, happ⟩ := spaces_law hsp hP1 hP2 c1 c2 hs hP3 hP4
  refine ⟨B4 ++ (B3 ++ (B2 ++ (B1 ++ A))), SubA.refl _, ?_⟩
  have sA : SubA A (B4 ++ (B3 ++ (B2 ++ (B1 ++ A)))) := SubA.trans (SubA.trans (SubA.trans dA1.right d2.right) d3.right) d4.right
  have q1 : FuL (B4 ++ (B3 ++ (B2 ++ (B1 ++ A)))) us p1 := (((hR1.mono (SubA.left B1 A)).mono d2.right).mono d3.right).mono d4.right
  have q2 : FuL (B4 ++ (B3 ++ (B2 ++ (B1 ++ A)))) vs p2 := ((hR2.mono (SubA.left B2 _)).mono d3.right).mono d4.right
  have q3 : FuL (B4 ++ (B3 ++ (B2 ++ (B1 ++ A)))) ws p3 := (hR3.mono (SubA.left B3 _)).mono d4.right
  have q4 : FuL (B4 ++ (B3 ++ (B2 ++ (B1 ++ A)))) ws p4 := hR4.mono (SubA.left B4 _)
  generalize B4 ++ (B3 ++ (B2 ++ (B1 ++ A))) = M at sA q1 q2 q3 q4
  clear hR1 hR2 hR3 hR4 d2 d3 d4 dA1 av2 B1 B2 B3 B4
  intro ν fr; have nuE := fr.nu
  have av3 := awk37_w A hT M sA
  have iv := smF_w M ws p3 p4 k3 k4 (by omega) q3 q4 M (SubA.refl _)
  have e33 : (e3 == e3) = true := by simp
  by_cases z3 : e3 = 0
  rotate_left
  · have y3 : (e3 == 0) = false := by simp [z3]
    simp (maxDischargeDepth := 16) only [evN, ↓evP, simprocAttr, forall_const, nuE, fr.2, vbQl, y3, eq_false z3, iv, e33, av3]
    exact sA
  subst z3
  have happ := happ rfl
  have h0 := fr.2 0
  simp (maxDischargeDepth := 16) only [evN, ↓evP, simprocAttr, forall_const, nuE, fr.2, vbQl, sc_f0]
  have dst_ : True := (by simp [nuE]); generalize ν 0 = n0 at dst_  h0 ⊢
  clear nuE fr
  obtain ⟨r1, e1, S1, F1⟩ := q1
  obtain ⟨r2, e2, S2, F2⟩ := q2
  have o0 : OwnL fuC 10 36 (.slice (some ⟨n0, 0, none⟩) 0 0) [(n0, .cells #[] 36)] ([] : List Fuv) := OwnL.at0 fuC 10 36 n0
  have sM : SubA M ((n0, Obj.cells #[] 36) :: M) := SubA.fresh h0 (SubA.refl _)
  refine RunA.use ?_
  rw [← e1]
  refine append_src (m := r1.length) (news := r1.flatMap fuC) (B := [(n0, .cells #[] 36)]) slc24 zro36 rfl (by decide) o0 (SubA.left [_] _) (StR.src (S1.mono sM)) (fuC_one r1) (by simp only [List.length_nil, maxLen]; omega) (by simp only [List.length_nil]; omega) ?_
  intro v' B' ho hb
  have ho : OwnL fuC 10 36 v' B' r1 := by
    unfold OwnL
    simpa using ho
  have dB' : Dis B' M := ap_dis hb (Dis.one h0) sM
  obtain ⟨p', cap', rfl, _⟩ := ho.slice
  refine ⟨B' ++ M, SubA.app sM, ?_⟩
  intro ν fr; have nuE := fr.nu
  simp (maxDischargeDepth := 16) only [evN, ↓evP, simprocAttr, forall_const, nuE, fr.2, vbQl]
  clear nuE fr
  refine RunA.use ?_
  rw [← e2]
  refine append_src (m := r2.length) (news := r2.flatMap fuC) (B := B') slc24 zro36 rfl (by decide) ho (SubA.left _ _) (StR.src (S2.mono dB'.right)) (fuC_one r2) (by simp only [maxLen]; omega) (by omega) ?_
  intro v2 B2 ho2 hb2
  have ho2 : OwnL fuC 10 36 v2 B2 (r1 ++ r2) := by
    unfold OwnL
    rw [List.length_append, List.flatMap_append]
    exact ho2
  have dB2 : Dis B2 M := ap_dis hb2 dB' dB'.right
  obtain ⟨p2', cap2, rfl, _, hS2⟩ := OwnL.read (f := fuC) (n := 10) fuC_len ho2
  refine ⟨B2 ++ M, SubA.app dB'.right, ?_⟩
  have q5 : FuL (B2 ++ M) ws p2' := ⟨r1 ++ r2, by rw [happ]; simp [e1, e2], hS2.mono (SubA.left _ _), by rw [happ]; exact (F1.app e1 F2).mono dB2.right⟩
  have el : (r1 ++ r2).length = ws.length := by rw [happ]; simp [e1, e2]
  rw [el]
  have iv5 := smF_w (B2 ++ M) ws p3 p2' k3 cap2 (by omega) (q3.mono dB2.right) q5 (B2 ++ M) (SubA.refl _)
  have iv6 := smF_w M ws p3 p4 k3 k4 (by omega) q3 q4 (B2 ++ M) dB2.right
  have av4 := awk37_w A hT (B2 ++ M) (SubA.trans sA dB2.right)
  intro ν fr; have nuE := fr.nu
  simp (maxDischargeDepth := 16) only [evN, ↓evP, simprocAttr, forall_const, nuE, fr.2, vbQl, iv5, iv6, av4]
  exact SubA.trans sA dB2.right
theorem spacesF_v (A : AH) (hT : TabA A) (s t : ByteArray) (zs : s.size ≤ 140737488351232) (zt : t.size ≤ 140737488351232) (c : UInt8) : valA Tryd.prog 3 #[.string s, .string t, .int .u8 (c.toNat : Int)] A = some (.bool true) := valA_eq (pureA_at (by kernel_rfl) (spacesF_h A hT s t zs zt c) (SubA.refl _))
theorem wf_u8 {n : Int} (h : (Lit.int .u8 n).wf = true) : ∃ c : UInt8, n = (c.toNat : Int) := by
  simp only [Lit.wf, Bool.and_eq_true, decide_eq_true_eq] at h
  have h1 : (0 : Int) ≤ n := h.1
  have h2 : n ≤ 255 := h.2
  refine ⟨UInt8.ofNat n.toNat, ?_⟩
  simp; omega
theorem fitsZS {N : Nat} {s : ByteArray} (z : FitsZ N .str [.string s]) : s.size ≤ N := by
  simpa [FitsZ] using z
theorem fspaces_walk (w : World) (ht : Lib.TabIs Tryd.prog w "internal/strconv.uint64pow10" .u64 Lib.pow10Tab) (s : ByteArray) (zs : Vm.FitsZ 140737488351232 .str [.string s]) (t : ByteArray) (zt : Vm.FitsZ 140737488351232 .str [.string t]) (g : Int) (wg : (Lit.int .u8 g).wf = true) :
    CallsH Tryd.prog 3 #[.string s, .string t, .int .u8 g] w.heap fun e h' => e = .returned (.bool true) ∧ Grew w.heap h' := by
  obtain ⟨B, hB, hT⟩ := TabA.of ht
  obtain ⟨c, rfl⟩ := wf_u8 wg
  exact callsH_of_pure (spacesF_v B hT s t (fitsZS zs) (fitsZS zt) c) (by kernel_rfl) hB
end Go.Proofs.YtfphceknmgadgaaDoor
