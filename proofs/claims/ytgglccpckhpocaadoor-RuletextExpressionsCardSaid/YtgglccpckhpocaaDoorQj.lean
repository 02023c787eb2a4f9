/-
Rules written; equal ones found equal; the grammar as a function.
Conditions: none.
-/
import Derived.Test.YtgglccpckhpocaaDoorQi
set_option linter.unusedSimpArgs false
set_option linter.unusedVariables false
namespace Go.Proofs.YtgglccpckhpocaaDoor
open Go.Vm
set_option maxHeartbeats 4000000
set_option maxRecDepth 20000
theorem vbQj : type_of% (An @slIndexByte_v (An @indexByte_v (An @indexRune_v (An @containsRune_v (An @slHasPrefix_v (An @hasPrefix_v (An @classOf_v (An @isWordByte_v (An @letter_v (An @digit_v (An @wordAt_v (An @rword_v (An @skip_v (An @number_v (An @literal_v (An @lexemeAt_v (An @isName_v (An @risName_v (An @resV_v (An @soft_usd (An @soft_ust (An @cnvN_pu (An @cnvN_up (An @eqS_pp (An @isNameV_v (An @isLitV_v (An @hasF_v (An @lvV_v @syV_v)))))))))))))))))))))))))))) := ⟨@slIndexByte_v, @indexByte_v, @indexRune_v, @containsRune_v, @slHasPrefix_v, @hasPrefix_v, @classOf_v, @isWordByte_v, @letter_v, @digit_v, @wordAt_v, @rword_v, @skip_v, @number_v, @literal_v, @lexemeAt_v, @isName_v, @risName_v, @resV_v, @soft_usd, @soft_ust, @cnvN_pu, @cnvN_up, @eqS_pp, @isNameV_v, @isLitV_v, @hasF_v, @lvV_v, @syV_v⟩
def actT (a : Int) : List UInt8 := if a = 0 then [112, 97, 115, 115] else if a = 1 then [114, 101, 102, 101, 114] else if a = 2 then [100, 101, 99, 108, 105, 110, 101] else []
def scT (s : Int) : List UInt8 := if s = 0 then [] else [32, 115, 99, 111, 114, 101, 32] ++ Lib.itoa s
def ruTx (u : Ru) : List UInt8 := [114, 117, 108, 101, 32] ++ u.nm.data.toList ++ [32, 119, 104, 101, 110, 32] ++ tX u.w ++ ([58, 32] ++ actT u.act) ++ scT u.sc ++ [59, 10]
def okU (dn : List Ru) (u : Ru) : Bool := naB u.nm && !(hasU u.nm dn) && wX u.w && decide (0 ≤ u.act ∧ u.act ≤ 2) && decide (0 ≤ u.sc) && decide (u.sc ≤ 1000)
def wrG (dn : List Ru) : List Ru → Bool
  | [] => true
  | u :: l => okU dn u && wrG (dn ++ [u]) l
theorem lookM_cons (k : ByteArray) (v : Value) (m : SMap) (s : ByteArray) : lookM ((k, v) :: m) s = if s = k then some v else lookM m s := by
  unfold lookM
  simp only [posM]
  by_cases h : s = k
  · rw [if_pos h, if_pos h]; rfl
  · rw [if_neg h, if_neg h]; cases posM m s <;> rfl
theorem updM_nil (s : ByteArray) (v : Value) : updM [] s v = [(s, v)] := rfl
theorem updM_cons (k : ByteArray) (u : Value) (m : SMap) (s : ByteArray) (v : Value) : updM ((k, u) :: m) s v = if s = k then (s, v) :: m else (k, u) :: updM m s v := by
  unfold updM
  simp only [posM]
  by_cases h : s = k
  · rw [if_pos h, if_pos h]; rfl
  · rw [if_neg h, if_neg h]; cases posM m s <;> rfl
theorem lookM_upd (m : SMap) (s t : ByteArray) (v : Value) : lookM (updM m s v) t = if t = s then some v else lookM m t := by
  induction m with
  | nil => rw [updM_nil, lookM_cons]
  | cons p m ih =>
    obtain ⟨k, u⟩ := p
    rw [updM_cons]
    by_cases h : s = k
    · subst h; rw [if_pos rfl, lookM_cons, lookM_cons]; split <;> rfl
    · rw [if_neg h, lookM_cons, lookM_cons, ih]
      by_cases h1 : t = k
      · rw [if_pos h1, if_pos h1, if_neg (fun e => h (by rw [← e, h1]))]
      · rw [if_neg h1, if_neg h1]
def wrU_ (us : List Ru) : Bool := decide (us.length ≤ 64) && wrG [] us
def fmF (us : List Ru) : List UInt8 := us.flatMap ruTx
def fmT (us : List Ru) : List UInt8 := if wrU_ us = true then fmF us else []
theorem und_wm : Tryd.prog.underlying 62 = some (.map 9 4) := by kernel_rfl
theorem und_ws : Tryd.prog.underlying 9 = some .string := by kernel_rfl
theorem ba_iff {a b : ByteArray} : a.toList = b.toList ↔ a = b := by
  rw [ByteArray.toList_eq, ByteArray.toList_eq]
  exact ⟨fun h => ba_ext h, fun h => by rw [h]⟩
theorem wordV_h (a : Int) : CallA Tryd.prog 28 #[.int .i64 a] [] (fun u_ _ => u_ = .string (bs (actT a))) := by
  refine callA_of_denA ⟨Tryd.prog, 28, Tryd.f28, 10, [0, 2, 3], ⟨[], none⟩, [], _⟩ rfl (args := [_]) Tryd.func28 rfl (by kernel_rfl) Tryd.ntmps28 (by simp) (by kernel_rfl) ?_
  intro ν fr; have nuE := fr.nu
  simp (maxDischargeDepth := 16) only [evN, ↓evP, simprocAttr, forall_const, nuE, fr.2, vbQj, ↓sA_usd, ↓sA_ust, soft_usd, soft_ust, cnvN_pu, cnvN_up, eqS_pp]
  unfold actT
  repeat' split
  all_goals simp_all [bs]
theorem wordV_v (a : Int) (A_ : AH) : valA Tryd.prog 28 #[.int .i64 a] A_ = some (.string (bs (actT a))) := valA_eq (pureA_of (by kernel_rfl) (wordV_h a))
theorem actT_nil (a : Int) : (actT a = []) = ¬ (0 ≤ a ∧ a ≤ 2) := by
  unfold actT
  apply propext
  repeat' split
  all_goals simp
  all_goals omega
theorem actT_len (a : Int) : (actT a).length ≤ 7 := by
  unfold actT
  repeat' split
  all_goals simp
theorem fmP_h (A : AH) (hT : TabA A) (us : List Ru) (p : Option Addr) (cap : Nat) (hR : RuL A us p) (hz : ∀ u ∈ us, SzX u.w) (hl : (fmF us).length ≤ 1000000000) : CallA Tryd.prog 15 #[.slice p us.length cap] A (fun u_ A_ => u_ = .string (bs (fmT us)) ∧ SubA A A_) := by
  refine callA_of_denA ⟨Tryd.prog, 15, Tryd.f15, 76, [0, 2, 3, 4, 6, 11, 12, 13], ⟨[17, 29, 18], none⟩, [], _⟩ rfl (args := [_]) Tryd.func15 rfl (by kernel_rfl) Tryd.ntmps15 (by simp) (by kernel_rfl) ?_
  intro ν fr; have nuE := fr.nu
  obtain ⟨rs, hrl, hS, hall⟩ := hR
  by_cases h64 : us.length ≤ 64
  rotate_left
  · have g64 : (64 < (us.length : Int)) = True := eq_true (by omega)
    have hf : fmT us = [] := by unfold fmT wrU_; rw [if_neg (by simp [h64])]
    rw [hf]
    simp (maxDischargeDepth := 16) only [evN, ↓evP, simprocAttr, forall_const, nuE, fr.2, vbQj, ↓sA_usd, ↓sA_ust, soft_usd, soft_ust, cnvN_pu, cnvN_up, eqS_pp, wordV_v, g64]
    rfl
  have g64 : (64 < (us.length : Int)) = False := eq_false (by omega)
  have f0 := fr.2 0
  have f1 := fr.2 1
  have n01 : (ν 1 = ν 0) = False := by simp [nuE]
  simp (maxDischargeDepth := 16) only [evN, ↓evP, simprocAttr, forall_const, nuE, fr.2, vbQj, ↓sA_usd, ↓sA_ust, soft_usd, soft_ust, cnvN_pu, cnvN_up, eqS_pp, wordV_v, g64]
  have dst_ : ((ν 0 = ν 1) = False) ∧ ((ν 1 = ν 0) = False) := (by simp [nuE]); generalize ν 0 = b at dst_  f0 f1 n01 ⊢; generalize ν 1 = mb at dst_  f0 f1 n01 ⊢
  clear nuE fr g64
  have d0 := dst_
  obtain ⟨e, l, es, cl, m, E, he, hd, hle, hE, dE, fm, hm, hlk, hx, hes, hcl, hEE⟩ : ∃ (e : Nat) (l : List Ru) (es : Array MapEntry) (cl : Nat) (m : SMap) (E : AH), e = 0 ∧ l = us.drop e ∧ e ≤ us.length ∧ BldA E b (fmF (us.take e)) ∧ Dis E A ∧ Vm.look (E ++ A) mb = none ∧ MapIs es m ∧ (∀ k, lookM m k = if hasU k (us.take e) = true then some (.bool true) else none) ∧ fmT us = (if wrG (us.take e) l = true then fmF us else []) ∧ es = #[] ∧ cl = 0 ∧ E = [(b, .cells #[.pointer none, .slice none 0 0] 46)] :=
    ⟨0, _, _, _, [], _, rfl, rfl, by omega, BldA.new b, Dis.one f0, look_c1 d0.1 f1, MapIs.nil, fun k => rfl, by unfold fmT wrU_; simp [h64], rfl, rfl, rfl⟩
  rw [show (13, some (Value.int .i64 0)) = (13, some (Value.int .i64 (e : Int))) by rw [he]; rfl]
  refine LoopA.at (A := (mb, .map es cl) :: (E ++ A)) (by rw [hes, hcl, hEE]; exact SubA.refl _) ?_
  clear he hes hcl hEE f0 f1 n01
  have hlen : ∀ e, (fmF (us.take e)).length ≤ (fmF us).length := fun e => by
    unfold fmF
    have h := List.take_append_drop e us
    conv => rhs; rw [← h, List.flatMap_append, List.length_append]
    omega
  induction l generalizing e es cl m E with
  | nil =>
    obtain ⟨hn1, hn2⟩ := drop_nil hd hle
    have lt : ((e : Int) < (us.length : Int)) = False := eq_false (by omega)
    rw [hn2] at hE
    rw [hx]
    refine LoopA.intro (by kernel_rfl) ?_
    intro ν fr; have nuE := And.intro (fr.mem (b := mb) (by simp)) (fr.nu)
    simp (maxDischargeDepth := 16) only [evN, ↓evP, simprocAttr, forall_const, nuE, fr.2, vbQj, ↓sA_usd, ↓sA_ust, soft_usd, soft_ust, cnvN_pu, cnvN_up, eqS_pp, wordV_v, lt]
    refine CallA.useX (bldStr_h E b _ hE hl) (SubA.trans (SubA.left E A) (SubA.fresh fm (SubA.refl _))) A (SubA.trans dE.right (SubA.fresh fm (SubA.refl _))) dE ?_
    rintro v D ⟨rfl, hdom⟩ dD
    refine ⟨[], SubA.nil _, ?_⟩
    rw [List.nil_append]
    clear nuE fr
    intro ν fr; have nuE := fr.nu
    simp (maxDischargeDepth := 16) only [evN, ↓evP, simprocAttr, forall_const, nuE, fr.2, vbQj, ↓sA_usd, ↓sA_ust, soft_usd, soft_ust, cnvN_pu, cnvN_up, eqS_pp, wordV_v]
    rfl
  | cons u l ih =>
    obtain ⟨ha, hlt, hd', htk⟩ := drop_some hd
    have lt : ((e : Int) < (us.length : Int)) = True := eq_true (by omega)
    have li : ((e : Int) < 0) = False := eq_false (by omega)
    have we : IntKind.i64.wrap ((e : Int) + 1) = ((e + 1 : Nat) : Int) := by rw [w_i64 (by omega) (by omega)]; omega
    obtain ⟨r, hr⟩ : ∃ r, rs[e]? = some r := ⟨_, List.getElem?_eq_getElem (by omega)⟩
    obtain ⟨bk, off, cs, ty, fr0, hp0, hbk, hcr, hcc⟩ := hS.at hr
    subst hp0
    obtain ⟨hr1, hrw, hr3, hr4⟩ := hall e u r ha hr
    simp only [ruC, hr1, hr3, hr4] at hcr
    have hbkE := dE.right _ _ hbk
    obtain ⟨q1, q2⟩ := look_ne fm hbkE
    have hle1 := hlen (e + 1)
    rw [htk] at hle1
    simp only [fmF, List.flatMap_append, List.flatMap_cons, List.flatMap_nil, List.append_nil, List.length_append] at hle1
    have hpush : fmF (us.take (e + 1)) = fmF (us.take e) ++ ruTx u := by rw [htk]; simp [fmF]
    have bad : okU (us.take e) u = false → fmT us = [] := fun h => by rw [hx]; simp [wrG, h]
    have sA : SubA A ((mb, .map es cl) :: (E ++ A)) := SubA.trans dE.right (SubA.fresh fm (SubA.refl _))
    refine LoopA.intro (by kernel_rfl) ?_
    intro ν fr; have nuE := And.intro (fr.mem (b := mb) (by simp)) (fr.nu)
    have f6 := fr.2 0
    have iv := fun o => isW hrw (hz u (List.mem_of_getElem? ha)) ((ν 0, o) :: (mb, .map es cl) :: (E ++ A)) (SubA.trans sA (SubA.fresh f6 (SubA.refl _)))
    simp only [xrV, xrC] at iv
    have lk := fun o => rdA_lookup (s := u.nm) (A := (ν 0, o) :: (mb, .map es cl) :: (E ++ A)) (ok := false) (es := es) (cl := cl) (r := mb) und_wm und_ws zro4 (by simp [Vm.look, nuE]) hm
    rw [hlk u.nm] at lk
    cases hnm : naB u.nm with
    | false =>
      simp (maxDischargeDepth := 16) only [evN, ↓evP, simprocAttr, forall_const, nuE, fr.2, vbQj, ↓sA_usd, ↓sA_ust, soft_usd, soft_ust, cnvN_pu, cnvN_up, eqS_pp, wordV_v, lt, li, hbkE, q1, q2, hcr, hnm]
      rw [bad (by simp [okU, hnm])]
      exact ⟨rfl, SubA.trans sA (SubA.fresh f6 (SubA.refl _))⟩
    | true =>
    cases hh : hasU u.nm (us.take e) with
    | true =>
      simp only [hh, if_true, Option.getD_some, Bool.false_eq_true, if_false] at lk
      simp (maxDischargeDepth := 16) only [evN, ↓evP, simprocAttr, forall_const, nuE, fr.2, vbQj, ↓sA_usd, ↓sA_ust, soft_usd, soft_ust, cnvN_pu, cnvN_up, eqS_pp, wordV_v, lt, li, hbkE, q1, q2, hcr, hnm, lk]
      rw [bad (by simp [okU, hh])]
      exact ⟨rfl, SubA.trans sA (SubA.fresh f6 (SubA.refl _))⟩
    | false =>
    simp only [hh, if_false, Option.getD_none, Bool.false_eq_true] at lk
    cases hw : wX u.w with
    | false =>
      rw [hw] at iv
      simp (maxDischargeDepth := 16) only [evN, ↓evP, simprocAttr, forall_const, nuE, fr.2, vbQj, ↓sA_usd, ↓sA_ust, soft_usd, soft_ust, cnvN_pu, cnvN_up, eqS_pp, wordV_v, lt, li, hbkE, q1, q2, hcr, hnm, lk, iv]
      rw [bad (by simp [okU, hw])]
      exact ⟨rfl, SubA.trans sA (SubA.fresh f6 (SubA.refl _))⟩
    | true =>
    rw [hw] at iv
    by_cases hact : 0 ≤ u.act ∧ u.act ≤ 2
    rotate_left
    · have ea : (actT u.act = []) = True := by rw [actT_nil]; simp only [hact, not_false_eq_true]
      simp (maxDischargeDepth := 16) only [evN, ↓evP, simprocAttr, forall_const, nuE, fr.2, vbQj, ↓sA_usd, ↓sA_ust, soft_usd, soft_ust, cnvN_pu, cnvN_up, eqS_pp, wordV_v, lt, li, hbkE, q1, q2, hcr, hnm, lk, iv, em_nil, bs_list, ea]
      rw [bad (by simp only [okU, hact, decide_false, Bool.and_false, Bool.false_and])]
      exact ⟨rfl, SubA.trans sA (SubA.fresh f6 (SubA.refl _))⟩
    have ea : (actT u.act = []) = False := by rw [actT_nil]; simp [hact]
    by_cases h0 : u.sc < 0
    · simp (maxDischargeDepth := 16) only [evN, ↓evP, simprocAttr, forall_const, nuE, fr.2, vbQj, ↓sA_usd, ↓sA_ust, soft_usd, soft_ust, cnvN_pu, cnvN_up, eqS_pp, wordV_v, lt, li, hbkE, q1, q2, hcr, hnm, lk, iv, em_nil, bs_list, ea, eq_true h0]
      rw [bad (by simp only [okU, show ¬ (0 ≤ u.sc) by omega, decide_false, Bool.and_false, Bool.false_and])]
      exact ⟨rfl, SubA.trans sA (SubA.fresh f6 (SubA.refl _))⟩
    by_cases h1 : 1000 < u.sc
    · simp (maxDischargeDepth := 16) only [evN, ↓evP, simprocAttr, forall_const, nuE, fr.2, vbQj, ↓sA_usd, ↓sA_ust, soft_usd, soft_ust, cnvN_pu, cnvN_up, eqS_pp, wordV_v, lt, li, hbkE, q1, q2, hcr, hnm, lk, iv, em_nil, bs_list, ea, eq_false h0, eq_true h1]
      rw [bad (by simp only [okU, show ¬ (u.sc ≤ 1000) by omega, decide_false, Bool.and_false])]
      exact ⟨rfl, SubA.trans sA (SubA.fresh f6 (SubA.refl _))⟩
    have hok : okU (us.take e) u = true := by
      simp only [okU, hnm, hh, hw, hact, Bool.not_false, Bool.and_true, decide_true, Bool.true_and, and_self]
      simp; omega
    simp (maxDischargeDepth := 16) only [evN, ↓evP, simprocAttr, forall_const, nuE, fr.2, vbQj, ↓sA_usd, ↓sA_ust, soft_usd, soft_ust, cnvN_pu, cnvN_up, eqS_pp, wordV_v, lt, li, hbkE, q1, q2, hcr, hnm, lk, iv, em_nil, bs_list, ea, eq_false h0, eq_false h1]
    have dst_ : ((ν 0 = mb) = False) ∧ ((mb = ν 0) = False) := (by simp [nuE]); generalize ν 0 = n6 at dst_  f6 ⊢
    clear nuE fr iv lk
    have d6 := dst_
    refine rA_update (es := es) (cl := cl) (r := mb) und_wm und_ws (by simp [Vm.look, d6]) hm ?_
    intro es' cl' hm'
    simp only [putB, d6, if_false, if_true]
    intro ν fr; have nuE := And.intro (fr.mem (b := n6) (by simp)) (And.intro (fr.mem (b := mb) (by simp)) (fr.nu))
    have hsz : (fmF (us.take e)).length + (ruTx u).length ≤ 1000000000 := by
      have := hlen (e + 1)
      rw [hpush, List.length_append] at this
      omega
    clear hle1
    have nmz : u.nm.size ≤ 16 := by
      have h := hnm
      unfold naB nameF at h
      simp only [Bool.and_eq_true, decide_eq_true_eq] at h
      exact h.1.2.1
    have hlk' : ∀ k, lookM (updM m u.nm (.bool true)) k = if hasU k (us.take (e + 1)) = true then some (.bool true) else none := by
      intro k
      rw [lookM_upd, hlk k, htk]
      have happ : hasU k (us.take e ++ [u]) = (hasU k (us.take e) || decide (u.nm.toList = k.toList)) := by simp [hasU]
      rw [happ]
      by_cases hk : k = u.nm
      · subst hk; simp
      · have : ¬ u.nm.toList = k.toList := fun h => hk (ba_iff.1 h).symm
        simp [hk, this]
    have hx' : fmT us = (if wrG (us.take (e + 1)) l = true then fmF us else []) := by
      rw [hx, htk]
      simp only [wrG, hok, Bool.true_and]
    have g6 : Vm.look (E ++ A) n6 = none := by simpa [Vm.look, d6] using f6
    have acl : (actT u.act).length ≤ 7 := actT_len _
    have s1 : (ByteArray.size ⟨#[114, 117, 108, 101, 32]⟩ + u.nm.size ≤ 9223372036854775807) := by simp only [ByteArray.size_append, bs_size, lz, List.size_toArray, List.length_cons, List.length_nil]; omega
    have s2 : ((⟨#[114, 117, 108, 101, 32]⟩ ++ u.nm : ByteArray).size + ByteArray.size ⟨#[32, 119, 104, 101, 110, 32]⟩ ≤ 9223372036854775807) := by simp only [ByteArray.size_append, bs_size, lz, List.size_toArray, List.length_cons, List.length_nil]; omega
    have s3 : (⟨#[114, 117, 108, 101, 32]⟩ ++ u.nm ++ ⟨#[32, 119, 104, 101, 110, 32]⟩ : ByteArray) = bs ([114, 117, 108, 101, 32] ++ u.nm.data.toList ++ [32, 119, 104, 101, 110, 32]) := ba_ext (by simp [bs])
    have s4 : (ByteArray.size ⟨#[58, 32]⟩ + (bs (actT u.act)).size ≤ 9223372036854775807) := by simp only [ByteArray.size_append, bs_size, lz, List.size_toArray, List.length_cons, List.length_nil]; omega
    have s5 : (⟨#[58, 32]⟩ ++ bs (actT u.act) : ByteArray) = bs ([58, 32] ++ actT u.act) := ba_ext (by simp [bs])
    simp (maxDischargeDepth := 16) only [evN, ↓evP, simprocAttr, forall_const, nuE, fr.2, vbQj, ↓sA_usd, ↓sA_ust, soft_usd, soft_ust, cnvN_pu, cnvN_up, eqS_pp, wordV_v, s1, s2, s3]
    clear nuE fr
    have hnl : u.nm.data.toList.length = u.nm.size := rfl
    simp only [ruTx, List.length_append, List.length_cons, List.length_nil] at hsz
    refine bdU (Y := [(n6, _), (mb, _)]) (bldWS_h E b _ _ hE (by simp) (by simp only [List.length_append, List.length_cons, List.length_nil]; omega)) dE (dis2 g6 fm) ?_
    intro E1 hE1 dE1 dYE1
    simp only [List.cons_append, List.nil_append]
    intro ν fr; have nuE := And.intro (fr.mem (b := n6) (by simp)) (And.intro (fr.mem (b := mb) (by simp)) (fr.nu))
    simp (maxDischargeDepth := 16) only [evN, ↓evP, simprocAttr, forall_const, nuE, fr.2, vbQj, ↓sA_usd, ↓sA_ust, soft_usd, soft_ust, cnvN_pu, cnvN_up, eqS_pp, wordV_v, d6]
    clear nuE fr
    refine wrU (Y := [(n6, _), (mb, _)]) (wr_all hT b hrw hw 1 E1 _ hE1 dE1 (by rw [opT_one]; simp only [List.length_append, List.length_cons, List.length_nil]; omega)) dYE1 ?_
    intro E2 hE2 dE2 dYE2
    rw [opT_one] at hE2
    simp only [List.cons_append, List.nil_append]
    intro ν fr; have nuE := And.intro (fr.mem (b := n6) (by simp)) (And.intro (fr.mem (b := mb) (by simp)) (fr.nu))
    simp (maxDischargeDepth := 16) only [evN, ↓evP, simprocAttr, forall_const, nuE, fr.2, vbQj, ↓sA_usd, ↓sA_ust, soft_usd, soft_ust, cnvN_pu, cnvN_up, eqS_pp, wordV_v, s4, s5, d6]
    clear nuE fr
    refine bdU (Y := [(n6, _), (mb, _)]) (bldWS_h E2 b _ _ hE2 (by simp) (by simp only [List.length_append, List.length_cons, List.length_nil]; omega)) dE2 dYE2 ?_
    intro E3 hE3 dE3 dYE3
    simp only [List.cons_append, List.nil_append]
    intro ν fr; have nuE := And.intro (fr.mem (b := n6) (by simp)) (And.intro (fr.mem (b := mb) (by simp)) (fr.nu))
    by_cases hsc : u.sc = 0
    · have hst : scT u.sc = [] := by unfold scT; rw [if_pos hsc]
      rw [hst] at hsz
      simp only [List.length_nil] at hsz
      have hsc' : (u.sc != 0) = false := by simp [hsc]
      simp (maxDischargeDepth := 16) only [evN, ↓evP, simprocAttr, forall_const, nuE, fr.2, vbQj, ↓sA_usd, ↓sA_ust, soft_usd, soft_ust, cnvN_pu, cnvN_up, eqS_pp, wordV_v, d6, hsc']
      clear nuE fr
      refine bdU (Y := [(n6, _), (mb, _)]) (bldWS_h E3 b _ [59, 10] hE3 (by simp) (by simp only [List.length_append, List.length_cons, List.length_nil]; omega)) dE3 dYE3 ?_
      intro E4 hE4 dE4 dYE4
      simp only [List.cons_append, List.nil_append]
      intro ν fr; have nuE := And.intro (fr.mem (b := n6) (by simp)) (And.intro (fr.mem (b := mb) (by simp)) (fr.nu))
      simp (maxDischargeDepth := 16) only [evN, ↓evP, simprocAttr, forall_const, nuE, fr.2, vbQj, ↓sA_usd, ↓sA_ust, soft_usd, soft_ust, cnvN_pu, cnvN_up, eqS_pp, wordV_v, we]
      have k6 := dYE4 n6 (by simp [Vm.look])
      have km := dYE4 mb (by simp [Vm.look, d6])
      exact LoopA.weak (ih (e + 1) es' cl' _ E4 hd' (by omega) (by rw [hpush]; simpa [ruTx, hst] using hE4) dE4 km hm' hlk' hx') (by simp only [subE, get_cons, Nat.reduceEqDiff, ↓reduceIte, reduceCtorEq, Nat.reduceAdd, and_self, and_true]) (SubA.fresh (look_c1 (by simp [d6]) k6) (SubA.refl _))
    · have hst : scT u.sc = [32, 115, 99, 111, 114, 101, 32] ++ Lib.itoa u.sc := by unfold scT; rw [if_neg hsc]
      have hsc' : (u.sc != 0) = true := by simp [hsc]
      have il := itoa_len (n := u.sc) (by omega) (by omega)
      rw [hst] at hsz
      simp only [List.length_append, List.length_cons, List.length_nil] at hsz
      have s6 : (ByteArray.size ⟨#[32, 115, 99, 111, 114, 101, 32]⟩ + (bs (Lib.itoa u.sc)).size ≤ 9223372036854775807) := by simp only [ByteArray.size_append, bs_size, lz, List.size_toArray, List.length_cons, List.length_nil]; omega
      have s7 : (⟨#[32, 115, 99, 111, 114, 101, 32]⟩ ++ bs (Lib.itoa u.sc) : ByteArray) = bs ([32, 115, 99, 111, 114, 101, 32] ++ Lib.itoa u.sc) := ba_ext (by simp [bs])
      have z6 := dYE3 n6 (by simp [Vm.look])
      have zm := dYE3 mb (by simp [Vm.look, d6])
      have itv := fun o o' => itoa_w A hT u.sc (by omega) (by omega) ((n6, o) :: (mb, o') :: (E3 ++ A)) (SubA.trans dE3.right (SubA.fresh (look_c1 (by simp [d6]) z6) (SubA.fresh zm (SubA.refl _))))
      simp (maxDischargeDepth := 16) only [evN, ↓evP, simprocAttr, forall_const, nuE, fr.2, vbQj, ↓sA_usd, ↓sA_ust, soft_usd, soft_ust, cnvN_pu, cnvN_up, eqS_pp, wordV_v, d6, hsc', itv, s6, s7]
      clear nuE fr itv
      refine bdU (Y := [(n6, _), (mb, _)]) (bldWS_h E3 b _ _ hE3 (by simp) (by simp only [List.length_append, List.length_cons, List.length_nil]; omega)) dE3 dYE3 ?_
      intro E5 hE5 dE5 dYE5
      simp only [List.cons_append, List.nil_append]
      intro ν fr; have nuE := And.intro (fr.mem (b := n6) (by simp)) (And.intro (fr.mem (b := mb) (by simp)) (fr.nu))
      simp (maxDischargeDepth := 16) only [evN, ↓evP, simprocAttr, forall_const, nuE, fr.2, vbQj, ↓sA_usd, ↓sA_ust, soft_usd, soft_ust, cnvN_pu, cnvN_up, eqS_pp, wordV_v, d6]
      clear nuE fr
      refine bdU (Y := [(n6, _), (mb, _)]) (bldWS_h E5 b _ [59, 10] hE5 (by simp) (by simp only [List.length_append, List.length_cons, List.length_nil]; omega)) dE5 dYE5 ?_
      intro E4 hE4 dE4 dYE4
      simp only [List.cons_append, List.nil_append]
      intro ν fr; have nuE := And.intro (fr.mem (b := n6) (by simp)) (And.intro (fr.mem (b := mb) (by simp)) (fr.nu))
      simp (maxDischargeDepth := 16) only [evN, ↓evP, simprocAttr, forall_const, nuE, fr.2, vbQj, ↓sA_usd, ↓sA_ust, soft_usd, soft_ust, cnvN_pu, cnvN_up, eqS_pp, wordV_v, we]
      have k6 := dYE4 n6 (by simp [Vm.look])
      have km := dYE4 mb (by simp [Vm.look, d6])
      exact LoopA.weak (ih (e + 1) es' cl' _ E4 hd' (by omega) (by rw [hpush]; simpa [ruTx, hst] using hE4) dE4 km hm' hlk' hx') (by simp only [subE, get_cons, Nat.reduceEqDiff, ↓reduceIte, reduceCtorEq, Nat.reduceAdd, and_self, and_true]) (SubA.fresh (look_c1 (by simp [d6]) k6) (SubA.refl _))
theorem fmP_w (A : AH) (hT : TabA A) (us : List Ru) (p : Option Addr) (cap : Nat) (hR : RuL A us p) (hz : ∀ u ∈ us, SzX u.w) (hl : (fmF us).length ≤ 1000000000) (B_ : AH) (hB_ : SubA A B_) : valA Tryd.prog 15 #[.slice p us.length cap] B_ = some (.string (bs (fmT us))) := valA_eq (pureA_at (by kernel_rfl) (fmP_h A hT us p cap hR hz hl) hB_)
end Go.Proofs.YtgglccpckhpocaaDoor
namespace Go.Proofs.YtgglccpckhpocaaDoor
open Go.Vm
set_option maxHeartbeats 4000000
set_option maxRecDepth 20000
theorem smS_h (A : AH) (op n : Int) (nm tx : ByteArray) (args : List Xs) (p q : Option Addr) (cap qcap : Nat) (rs ss : List Xr) (hl : args.length ≤ 140737488355328) (hrs : rs.length = args.length) (hss : ss.length = args.length) (hS : StR xrC 5 A p rs) (hS2 : StR xrC 5 A q ss) (ih : ∀ (k : Nat) (x : Xs) (r s : Xr), args[k]? = some x → rs[k]? = some r → ss[k]? = some s → ∀ B, SubA A B → valA Tryd.prog 11 #[xrV r, xrV s] B = some (.bool true)) : CallA Tryd.prog 11 #[.agg #[.int .i64 op, .string nm, .string tx, .int .i64 n, .slice p args.length cap], .agg #[.int .i64 op, .string nm, .string tx, .int .i64 n, .slice q args.length qcap]] A (fun u_ A_ => u_ = .bool true ∧ SubA A A_) := by
  refine callA_of_denA ⟨Tryd.prog, 11, Tryd.f11, 60, [0, 1, 2, 3, 4, 5], ⟨[], none⟩, [(6, .q false)], _⟩ rfl (args := [_, _]) Tryd.func11 rfl (by kernel_rfl) Tryd.ntmps11 (by simp) (by kernel_rfl) ?_
  intro ν fr; have nuE := fr.nu
  have f0 := fr.2 0
  have f1 := fr.2 1
  have n01 : (ν 1 = ν 0) = False := by simp [nuE]
  simp (maxDischargeDepth := 16) only [evN, ↓evP, simprocAttr, forall_const, nuE, fr.2, vbQj, ↓sA_usd, ↓sA_ust, soft_usd, soft_ust, cnvN_pu, cnvN_up, eqS_pp, wordV_v]
  have dst_ : ((ν 0 = ν 1) = False) ∧ ((ν 1 = ν 0) = False) := (by simp [nuE]); generalize ν 0 = n2 at dst_  f0 f1 n01 ⊢; generalize ν 1 = n3 at dst_  f0 f1 n01 ⊢
  clear nuE fr
  have d0 := dst_
  obtain ⟨e, l, he, hd, hle⟩ : ∃ (e : Nat) (l : List Xs), e = 0 ∧ l = args.drop e ∧ e ≤ args.length := ⟨0, _, rfl, rfl, by omega⟩
  rw [show (5, some (Value.int .i64 0)) = (5, some (Value.int .i64 (e : Int))) by rw [he]; rfl]
  clear he
  have sA : ∀ o o', SubA A ((n3, o) :: (n2, o') :: A) := fun o o' => SubA.fresh (look_c1 (by simp [d0]) f1) (SubA.fresh f0 (SubA.refl _))
  induction l generalizing e with
  | nil =>
    obtain ⟨hn1, hn2⟩ := drop_nil hd hle
    have lt : ((e : Int) < (args.length : Int)) = False := eq_false (by omega)
    refine LoopA.intro (by kernel_rfl) ?_
    intro ν fr; have nuE := And.intro (fr.mem (b := n3) (by simp)) (And.intro (fr.mem (b := n2) (by simp)) (fr.nu))
    simp (maxDischargeDepth := 16) only [evN, ↓evP, simprocAttr, forall_const, nuE, fr.2, vbQj, ↓sA_usd, ↓sA_ust, soft_usd, soft_ust, cnvN_pu, cnvN_up, eqS_pp, wordV_v, lt, d0]
    exact sA _ _
  | cons x l ihl =>
    obtain ⟨ha, hlt, hd', htk⟩ := drop_some hd
    have lt : ((e : Int) < (args.length : Int)) = True := eq_true (by omega)
    have li : ((e : Int) < 0) = False := eq_false (by omega)
    have we : IntKind.i64.wrap ((e : Int) + 1) = ((e + 1 : Nat) : Int) := by rw [w_i64 (by omega) (by omega)]; omega
    obtain ⟨r, hr⟩ : ∃ r, rs[e]? = some r := ⟨_, List.getElem?_eq_getElem (by omega)⟩
    obtain ⟨s, hs⟩ : ∃ s, ss[e]? = some s := ⟨_, List.getElem?_eq_getElem (by omega)⟩
    obtain ⟨bk, off, cs, ty, fr0, hp0, hbk, hcr, hcc⟩ := hS.at hr
    obtain ⟨bk', off', cs', ty', fr0', hp0', hbk', hcr', hcc'⟩ := hS2.at hs
    subst hp0
    subst hp0'
    simp only [xrC] at hcr hcr'
    obtain ⟨q1, q2⟩ := look_ne f0 hbk
    obtain ⟨q3, q4⟩ := look_ne f1 hbk
    obtain ⟨q5, q6⟩ := look_ne f0 hbk'
    obtain ⟨q7, q8⟩ := look_ne f1 hbk'
    have iv := ih e x r s ha hr hs _ (sA (.cells #[.int .i64 op, .string nm, .string tx, .int .i64 n, .slice (some ⟨bk', off', none⟩) args.length qcap] 24) (.cells #[.int .i64 op, .string nm, .string tx, .int .i64 n, .slice (some ⟨bk, off, none⟩) args.length cap] 24))
    simp only [xrV, xrC] at iv
    refine LoopA.intro (by kernel_rfl) ?_
    intro ν fr; have nuE := And.intro (fr.mem (b := n3) (by simp)) (And.intro (fr.mem (b := n2) (by simp)) (fr.nu))
    simp (maxDischargeDepth := 16) only [evN, ↓evP, simprocAttr, forall_const, nuE, fr.2, vbQj, ↓sA_usd, ↓sA_ust, soft_usd, soft_ust, cnvN_pu, cnvN_up, eqS_pp, wordV_v, d0, lt, li, hbk, hbk', hcr, hcr', q1, q2, q3, q4, q5, q6, q7, q8, iv, we]
    exact LoopA.weak (ihl (e + 1) hd' (by omega)) (by simp only [subE, get_cons, Nat.reduceEqDiff, ↓reduceIte, reduceCtorEq, Nat.reduceAdd, and_self, and_true]) (SubA.refl _)
theorem smS_w (A : AH) (op n : Int) (nm tx : ByteArray) (args : List Xs) (p q : Option Addr) (cap qcap : Nat) (rs ss : List Xr) (hl : args.length ≤ 140737488355328) (hrs : rs.length = args.length) (hss : ss.length = args.length) (hS : StR xrC 5 A p rs) (hS2 : StR xrC 5 A q ss) (ih : ∀ (k : Nat) (x : Xs) (r s : Xr), args[k]? = some x → rs[k]? = some r → ss[k]? = some s → ∀ B, SubA A B → valA Tryd.prog 11 #[xrV r, xrV s] B = some (.bool true)) (B_ : AH) (hB_ : SubA A B_) : valA Tryd.prog 11 #[.agg #[.int .i64 op, .string nm, .string tx, .int .i64 n, .slice p args.length cap], .agg #[.int .i64 op, .string nm, .string tx, .int .i64 n, .slice q args.length qcap]] B_ = some (.bool true) := valA_eq (pureA_at (by kernel_rfl) (smS_h A op n nm tx args p q cap qcap rs ss hl hrs hss hS hS2 ih) hB_)
theorem sameE {A : AH} {t : Xs} {r : Xr} (h : ExR A t r) : ∀ {s : Xr}, ExR A t s → ∀ B, SubA A B → valA Tryd.prog 11 #[xrV r, xrV s] B = some (.bool true) := by
  induction h with
  | @mk op n nm tx args p cap rs h0 h0' h1 h2 h3 ih =>
    intro s hs B hB
    cases hs with
    | @mk _ _ _ _ _ q qcap ss g0 g0' g1 g2 g3 =>
      exact smS_w A op n nm tx args p q cap qcap rs ss h0 h1 g1 h2 g2 (fun k x r s hx hr hs C hC => ih k x r hx hr (g3 k x s hx hs) C hC) B hB
end Go.Proofs.YtgglccpckhpocaaDoor
namespace Go.Proofs.YtgglccpckhpocaaDoor
open Go.Vm
set_option maxHeartbeats 4000000
set_option maxRecDepth 20000
def pX (L : List LR) : Nat → Qr → Nat → Option Rz
  | 0, _, _ => none
  | f + 1, .lv l, i =>
    if l = 2 then
      match pX L f (.lv 3) i with
      | none => none
      | some (.er e j) => some (.er e j)
      | some (.ok t j) =>
        match cmX (lxA L j) with
        | some o =>
          match pX L f (.lv 3) (j + 1) with
          | none => none
          | some (.er e k) => some (.er e k)
          | some (.ok u k) => some (.ok (twoX o t u) k)
        | none => if inB (lxA L j) = false then some (.ok t j) else if isL (lxA L (j + 1)) 4 ⟨#[40]⟩ = true then pX L f (.ch [t]) (j + 2) else some (.er 2 (j + 1))
    else if l < 5 then
      match pX L f (.lv (l + 1)) i with
      | none => none
      | some (.er e j) => some (.er e j)
      | some (.ok t j) => pX L f (.lp l t) j
    else if l = 5 then
      match unC (lxA L i) with
      | .one o =>
        match pX L f (.lv 5) (i + 1) with
        | none => none
        | some (.er e k) => some (.er e k)
        | some (.ok u k) => some (.ok (oneX o u) k)
      | .use o => if (usX L (i + 1)).1 = 0 then some (.ok (.mk o (usX L (i + 1)).2.2.1 eB (usX L (i + 1)).2.2.2 []) (usX L (i + 1)).2.1) else some (.er (usX L (i + 1)).1 (usX L (i + 1)).2.1)
      | .par =>
        match pX L f (.lv 0) (i + 1) with
        | none => none
        | some (.er e k) => some (.er e k)
        | some (.ok t j) => if isL (lxA L j) 4 ⟨#[41]⟩ = true then some (.ok t (j + 1)) else some (.er 2 j)
      | .num => some (.ok (.mk 1 eB eB (lxA L i).n []) (i + 1))
      | .txt => some (.ok (.mk 2 eB (lxA L i).t 0 []) (i + 1))
      | .nam => some (.ok (.mk 3 (lxA L i).t eB 0 []) (i + 1))
      | .bad => some (.er 2 i)
    else none
  | f + 1, .lp l t, j =>
    match opX l (lxA L j) with
    | none => some (.ok t j)
    | some o =>
      match pX L f (.lv (l + 1)) (j + 1) with
      | none => none
      | some (.er e k) => some (.er e k)
      | some (.ok u k) => pX L f (.lp l (twoX o t u)) k
  | f + 1, .ch xs, i =>
    match pX L f (.lv 3) i with
    | none => none
    | some (.er e j) => some (.er e j)
    | some (.ok u j) => if isL (lxA L j) 4 ⟨#[44]⟩ = true then pX L f (.ch (xs ++ [u])) (j + 1) else if isL (lxA L j) 4 ⟨#[41]⟩ = true then some (.ok (.mk 15 eB eB 0 (xs ++ [u])) (j + 1)) else some (.er 2 j)
theorem pX_sound (L : List LR) : ∀ (f : Nat) (q : Qr) (i : Nat) (r : Rz), pX L f q i = some r → Pr L q i r := by
  intro f
  induction f with
  | zero => intro q i r h; simp [pX] at h
  | succ f ih =>
    intro q i r h
    cases q with
    | lv l =>
      rw [pX] at h
      split at h
      · rename_i hl
        subst hl
        split at h
        · cases h
        · rename_i e j h1
          cases h
          exact .cmE (ih _ _ _ h1)
        · rename_i t j h1
          split at h
          · rename_i o ho
            split at h
            · cases h
            · rename_i e k h2
              cases h
              exact .cmF (ih _ _ _ h1) ho (ih _ _ _ h2)
            · rename_i u k h2
              cases h
              exact .cmO (ih _ _ _ h1) ho (ih _ _ _ h2)
          · rename_i ho
            split at h
            · rename_i hi
              cases h
              exact .cmN (ih _ _ _ h1) ho hi
            · rename_i hi
              have hi' : inB (lxA L j) = true := by simpa using hi
              split at h
              · rename_i hp
                exact .inC (ih _ _ _ h1) ho hi' hp (ih _ _ _ h)
              · rename_i hp
                cases h
                exact .inP (ih _ _ _ h1) ho hi' (by simpa using hp)
      · rename_i hl
        split at h
        · rename_i hl5
          split at h
          · cases h
          · rename_i e j h1
            cases h
            exact .opE hl hl5 (ih _ _ _ h1)
          · rename_i t j h1
            exact .opO hl hl5 (ih _ _ _ h1) (ih _ _ _ h)
        · split at h
          · rename_i h5
            subst h5
            split at h
            · rename_i o hu
              split at h
              · cases h
              · rename_i e k h2
                cases h
                exact .unE hu (ih _ _ _ h2)
              · rename_i u k h2
                cases h
                exact .unO hu (ih _ _ _ h2)
            · rename_i o hu
              split at h
              · rename_i h0
                cases h
                exact .usO hu (by rw [← h0])
              · rename_i h0
                cases h
                exact .usE hu rfl h0
            · rename_i hu
              split at h
              · cases h
              · rename_i e k h2
                cases h
                exact .paE hu (ih _ _ _ h2)
              · rename_i t j h2
                split at h
                · rename_i hp
                  cases h
                  exact .paO hu (ih _ _ _ h2) hp
                · rename_i hp
                  cases h
                  exact .paB hu (ih _ _ _ h2) (by simpa using hp)
            · rename_i hu; cases h; exact .nu hu
            · rename_i hu; cases h; exact .te hu
            · rename_i hu; cases h; exact .na hu
            · rename_i hu; cases h; exact .ba hu
          · cases h
    | lp l t =>
      rw [pX] at h
      split at h
      · rename_i ho; cases h; exact .lpN ho
      · rename_i o ho
        split at h
        · cases h
        · rename_i e k h2
          cases h
          exact .lpE ho (ih _ _ _ h2)
        · rename_i u k h2
          exact .lpO ho (ih _ _ _ h2) (ih _ _ _ h)
    | ch xs =>
      rw [pX] at h
      split at h
      · cases h
      · rename_i e j h1
        cases h
        exact .chE (ih _ _ _ h1)
      · rename_i u j h1
        split at h
        · rename_i hm
          exact .chM (ih _ _ _ h1) hm (ih _ _ _ h)
        · rename_i hm
          split at h
          · rename_i hp
            cases h
            exact .chO (ih _ _ _ h1) (by simpa using hm) hp
          · rename_i hp
            cases h
            exact .chB (ih _ _ _ h1) (by simpa using hm) (by simpa using hp)
def ex1 : ByteArray := ⟨#[114, 117, 108, 101, 32, 98, 105, 103, 32, 119, 104, 101, 110, 32, 97, 109, 111, 117, 110, 116, 32, 60, 61, 32, 49, 48, 48, 32, 111, 114, 32, 110, 111, 116, 32, 116, 111, 107, 101, 110, 58, 32, 114, 101, 102, 101, 114, 32, 115, 99, 111, 114, 101, 32, 53, 59]⟩
def ex2 : ByteArray := ⟨#[97, 32, 45, 32, 98, 32, 45, 32, 99, 32, 42, 32, 50]⟩
def ex3 : ByteArray := ⟨#[97, 32, 61, 32, 98, 32, 61, 32, 99]⟩
def ex4 : ByteArray := ⟨#[114, 117, 108, 101, 32, 119, 104, 101, 110, 32, 119, 104, 101, 110, 32, 49, 32, 61, 32, 49, 58, 32, 112, 97, 115, 115, 59]⟩
def nX (s : ByteArray) : Xs := .mk 3 s eB 0 []
def nuX (n : Int) : Xs := .mk 1 eB eB n []
def t1 : Xs := twoX 7 (twoX 11 (nX ⟨#[97, 109, 111, 117, 110, 116]⟩) (nuX 100)) (oneX 4 (nX ⟨#[116, 111, 107, 101, 110]⟩))
def t2 : Xs := twoX 13 (twoX 13 (nX ⟨#[97]⟩) (nX ⟨#[98]⟩)) (twoX 14 (nX ⟨#[99]⟩) (nuX 2))
def t3 : Xs := twoX 8 (twoX 8 (nX ⟨#[97]⟩) (nX ⟨#[98]⟩)) (nX ⟨#[99]⟩)
def u1 : Ru := ⟨⟨#[98, 105, 103]⟩, t1, 1, 5⟩
theorem ex1_s : (scanF ex1).1 = 0 := by decide +kernel
theorem ex1_o : PaO ex1 0 0 [u1] := by
  have h1 : PuO (scanF ex1).2.2 [] 0 u1 14 := by
    have h := PuO.ok (L := (scanF ex1).2.2) (us := []) (i := 0) (t := t1) (j := 9) (a := 1) (s := 5) (k := 14) (by decide +kernel) (pX_sound _ 40 _ _ _ (by kernel_rfl)) (by decide +kernel)
    rw [show (lxA (scanF ex1).2.2 (0 + 1)).t = ⟨#[98, 105, 103]⟩ by kernel_rfl] at h
    exact h
  exact .ok ex1_s (.step (by decide +kernel) h1 (.fin (by decide +kernel)))
theorem ex2_o : PxO ex2 0 0 t2 := by
  have h0 : (scanF ex2).1 = 0 := by decide +kernel
  have h1 : Pr (scanF ex2).2.2 (.lv 0) 0 (.ok t2 7) := pX_sound _ 40 _ _ _ (by kernel_rfl)
  have h2 : (scanF ex2).2.2[7]? = some (lxA (scanF ex2).2.2 7) := by kernel_rfl
  have h3 : (lxA (scanF ex2).2.2 7).k = 0 := by decide +kernel
  exact .ok h0 h1 h2 h3
theorem ex3_o : PxO ex3 2 6 z0 := by
  have h0 : (scanF ex3).1 = 0 := by decide +kernel
  have h1 : Pr (scanF ex3).2.2 (.lv 0) 0 (.ok (twoX 8 (nX ⟨#[97]⟩) (nX ⟨#[98]⟩)) 3) := pX_sound _ 40 _ _ _ (by kernel_rfl)
  have h2 : (scanF ex3).2.2[3]? = some (lxA (scanF ex3).2.2 3) := by kernel_rfl
  have h3 : (lxA (scanF ex3).2.2 3).k ≠ 0 := by decide +kernel
  have h := PxO.more h0 h1 h2 h3
  rw [show (lxA (scanF ex3).2.2 3).a = 6 by decide +kernel] at h
  exact h
theorem ex4_o : PaO ex4 2 5 [] := by
  have h0 : (scanF ex4).1 = 0 := by decide +kernel
  have h1 : ruH (scanF ex4).2.2 [] 0 = some (2, 1) := by decide +kernel
  have h2 : (scanF ex4).2.2[1]? = some (lxA (scanF ex4).2.2 1) := by kernel_rfl
  have h3 : (lxA (scanF ex4).2.2 0).k ≠ 0 := by decide +kernel
  have h := PaO.er h0 (by decide) (.err h3 (.h h1)) h2
  rw [show (lxA (scanF ex4).2.2 1).a = 5 by decide +kernel] at h
  exact h
theorem nameV_h (s : ByteArray) : CallA Tryd.prog 14 #[.string s] [] (fun u_ _ => u_ = .agg #[.int .i64 3, .string s, .string ⟨#[]⟩, .int .i64 0, .slice none 0 0]) := by
  refine callA_of_denA ⟨Tryd.prog, 14, Tryd.f14, 5, [0, 2], ⟨[], none⟩, [], _⟩ rfl (args := [_]) Tryd.func14 rfl (by kernel_rfl) Tryd.ntmps14 (by simp) (by kernel_rfl) ?_
  intro ν fr; have nuE := fr.nu
  simp (maxDischargeDepth := 16) only [evN, ↓evP, simprocAttr, forall_const, nuE, fr.2, vbQj, ↓sA_usd, ↓sA_ust, soft_usd, soft_ust, cnvN_pu, cnvN_up, eqS_pp, wordV_v]
theorem nameV_v (s : ByteArray) (A_ : AH) : valA Tryd.prog 14 #[.string s] A_ = some (.agg #[.int .i64 3, .string s, .string ⟨#[]⟩, .int .i64 0, .slice none 0 0]) := valA_eq (pureA_of (by kernel_rfl) (nameV_h s))
theorem twoA_h (A : AH) (op : Int) (a b : Xr) : CallA Tryd.prog 13 #[.int .i64 op, .agg #[.int .i64 a.op, .string a.nm, .string a.tx, .int .i64 a.n, .slice a.p a.len a.cap], .agg #[.int .i64 b.op, .string b.nm, .string b.tx, .int .i64 b.n, .slice b.p b.len b.cap]] A (fun u_ A_ => ∃ v B, u_ = v ∧ (∃ p c, v = xrV ⟨op, eB, eB, 0, p, 2, c⟩ ∧ StC B p [a, b] c) ∧ Dis B A ∧ SubA (B ++ A) A_) := by
  refine callA_of_denA ⟨Tryd.prog, 13, Tryd.f13, 12, [0, 1, 2, 4, 5, 6], ⟨[], none⟩, [], _⟩ rfl (args := [_, _, _]) Tryd.func13 rfl (by kernel_rfl) Tryd.ntmps13 (by simp) (by kernel_rfl) ?_
  intro ν fr; have nuE := fr.nu
  have f0 := fr.2 0
  have f1 := fr.2 1
  have f2 := fr.2 2
  have f3 := fr.2 3
  simp (maxDischargeDepth := 16) only [evN, ↓evP, simprocAttr, forall_const, nuE, fr.2, vbQj, ↓sA_usd, ↓sA_ust, soft_usd, soft_ust, cnvN_pu, cnvN_up, eqS_pp, wordV_v, nameV_v, sc_x2]
  exact ⟨_, _, rfl, ⟨_, _, rfl, by simp, xr_two (ν 3) _ a b []⟩, Dis.one f3, SubA.app (B := [_]) (SubA.fresh (by simp [Vm.look, nuE, f2]) (SubA.fresh (by simp [Vm.look, nuE, f1]) (SubA.fresh f0 (SubA.refl _))))⟩
end Go.Proofs.YtgglccpckhpocaaDoor
namespace Go.Proofs.YtgglccpckhpocaaDoor
open Go.Vm
theorem PuE.det {L : List LR} {us : List Ru} {i j j' : Nat} {e e' : Int} (h : PuE L us i e j) (h' : PuE L us i e' j') : e = e' ∧ j = j' := by
  cases h with
  | h h1 => cases h' with
    | h g1 => rw [h1] at g1; cases g1; exact ⟨rfl, rfl⟩
    | x g1 => rw [h1] at g1; cases g1
    | t g1 => rw [h1] at g1; cases g1
  | x h1 h2 => cases h' with
    | h g1 => rw [h1] at g1; cases g1
    | x g1 g2 => cases h2.det g2; exact ⟨rfl, rfl⟩
    | t g1 g2 => cases h2.det g2
  | t h1 h2 h3 h4 => cases h' with
    | h g1 => rw [h1] at g1; cases g1
    | x g1 g2 => cases h2.det g2
    | t g1 g2 g3 g4 => cases h2.det g2; rw [h3] at g3; cases g3; exact ⟨rfl, rfl⟩
theorem PuE.not {L : List LR} {us : List Ru} {i j j' : Nat} {e : Int} {u : Ru} (h : PuE L us i e j) (h' : PuO L us i u j') : False := by
  cases h' with
  | ok g1 g2 g3 => cases h with
    | h h1 => rw [g1] at h1; cases h1
    | x h1 h2 => cases h2.det g2
    | t h1 h2 h3 h4 => cases h2.det g2; rw [h3] at g3; cases g3; exact h4 rfl
theorem PuO.det {L : List LR} {us : List Ru} {i j j' : Nat} {u u' : Ru} (h : PuO L us i u j) (h' : PuO L us i u' j') : u = u' ∧ j = j' := by
  cases h with
  | ok h1 h2 h3 => cases h' with
    | ok g1 g2 g3 => cases h2.det g2; rw [h3] at g3; cases g3; exact ⟨rfl, rfl⟩
theorem RlO.det {L : List LR} {us vs : List Ru} {i j : Nat} (h : RlO L us i vs j) : ∀ {vs' : List Ru} {j' : Nat}, RlO L us i vs' j' → vs = vs' ∧ j = j' := by
  induction h with
  | fin h => intro vs' j' h'; cases h' with
    | fin => exact ⟨rfl, rfl⟩
    | step g => exact absurd h g
  | step h1 h2 h3 ih => intro vs' j' h'; cases h' with
    | fin g => exact absurd g h1
    | step g1 g2 g3 =>
      obtain ⟨rfl, rfl⟩ := h2.det g2
      exact ih g3
theorem RlE.det {L : List LR} {us : List Ru} {i j : Nat} {e : Int} (h : RlE L us i e j) : ∀ {e' : Int} {j' : Nat}, RlE L us i e' j' → e = e' ∧ j = j' := by
  induction h with
  | err h1 h2 => intro e' j' h'; cases h' with
    | err g1 g2 => exact h2.det g2
    | step g1 g2 g3 => exact absurd g2 fun g => h2.not g
  | step h1 h2 h3 ih => intro e' j' h'; cases h' with
    | err g1 g2 => exact absurd h2 fun g => g2.not g
    | step g1 g2 g3 =>
      obtain ⟨rfl, rfl⟩ := h2.det g2
      exact ih g3
theorem RlE.not {L : List LR} {us : List Ru} {i j : Nat} {e : Int} (h : RlE L us i e j) : ∀ {vs : List Ru} {j' : Nat}, RlO L us i vs j' → False := by
  induction h with
  | err h1 h2 => intro vs j' h'; cases h' with
    | fin g => exact h1 g
    | step g1 g2 g3 => exact h2.not g2
  | step h1 h2 h3 ih => intro vs j' h'; cases h' with
    | fin g => exact h1 g
    | step g1 g2 g3 =>
      obtain ⟨rfl, rfl⟩ := h2.det g2
      exact ih g3
theorem PaO.det {s : ByteArray} {e e' : Int} {a a' : Nat} {us us' : List Ru} (h : PaO s e a us) (h' : PaO s e' a' us') : e = e' ∧ a = a' ∧ us = us' := by
  cases h with
  | scan h0 => cases h' with
    | scan => exact ⟨rfl, rfl, rfl⟩
    | er g0 => exact absurd g0 h0
    | ok g0 => exact absurd g0 h0
  | er h0 h1 h2 h3 => cases h' with
    | scan g0 => exact absurd h0 g0
    | er g0 g1 g2 g3 =>
      obtain ⟨rfl, rfl⟩ := h2.det g2
      rw [h3] at g3
      cases g3
      exact ⟨rfl, rfl, rfl⟩
    | ok g0 g1 => exact absurd g1 fun g => h2.not g
  | ok h0 h1 => cases h' with
    | scan g0 => exact absurd h0 g0
    | er g0 g1 g2 g3 => exact absurd h1 fun g => g2.not g
    | ok g0 g1 =>
      obtain ⟨rfl, rfl⟩ := h1.det g1
      exact ⟨rfl, rfl, rfl⟩
end Go.Proofs.YtgglccpckhpocaaDoor
