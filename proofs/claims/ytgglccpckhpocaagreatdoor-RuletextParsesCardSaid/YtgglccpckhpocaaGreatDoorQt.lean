/-
The reference: Parse.
Conditions: none.
-/
import Derived.Test.YtgglccpckhpocaaGreatDoorQm
set_option linter.unusedSimpArgs false
set_option linter.unusedVariables false
namespace Go.Proofs.YtgglccpckhpocaaGreatDoor
open Go.Vm
set_option maxHeartbeats 4000000
set_option maxRecDepth 20000
theorem vbQt : type_of% (An @slIndexByte_v (An @indexByte_v (An @indexRune_v (An @containsRune_v (An @slHasPrefix_v (An @hasPrefix_v (An @classOf_v (An @isWordByte_v (An @letter_v (An @digit_v (An @wordAt_v (An @rword_v (An @skip_v (An @rskip_v (An @number_v (An @rnumber_v (An @literal_v (An @rtext_v (An @lexemeAt_v (An @rlexeme_v (An @isName_v (An @risName_v (An @resV_v (An @soft_usd (An @soft_ust (An @cnvN_pu (An @cnvN_up (An @eqS_pp (An @isNameV_v (An @isLitV_v (An @hasF_v (An @lvV_v (An @syV_v (An @wordV_v (An @nameV_v @rresV_v))))))))))))))))))))))))))))))))))) := ⟨@slIndexByte_v, @indexByte_v, @indexRune_v, @containsRune_v, @slHasPrefix_v, @hasPrefix_v, @classOf_v, @isWordByte_v, @letter_v, @digit_v, @wordAt_v, @rword_v, @skip_v, @rskip_v, @number_v, @rnumber_v, @literal_v, @rtext_v, @lexemeAt_v, @rlexeme_v, @isName_v, @risName_v, @resV_v, @soft_usd, @soft_ust, @cnvN_pu, @cnvN_up, @eqS_pp, @isNameV_v, @isLitV_v, @hasF_v, @lvV_v, @syV_v, @wordV_v, @nameV_v, @rresV_v⟩
theorem rtakeZ {rb : Nat} {lp : Option Addr} {lcap : Nat} {L : List LR} {A : AH} (hp : RsOk rb lp L A) {i : Nat} {x : LR} (hx : L[i]? = some x) (w k : Int) (t : ByteArray) (c : Bool) (hc : isL x k t = c) : CallA Tryz.prog 34 #[.pointer (some ⟨rb, 0, none⟩), .int .i64 k, .string t] (RS rb lp lcap L i 0 w A) fun u D => u = .bool c ∧ SubA (RS rb lp lcap L (if c = true then i + 1 else i) 0 w A) D := by
  have h := rtake_h rb lp lcap L A hp i x hx 0 w k t
  rwa [tk0, hc] at h
theorem raction_h (rb : Nat) (lp : Option Addr) (lcap : Nat) (L : List LR) (A : AH) (hp : RsOk rb lp L A) (i : Nat) (x : LR) (hx : L[i]? = some x) (e w : Int) : CallA Tryz.prog 33 #[.pointer (some ⟨rb, 0, none⟩)] (RS rb lp lcap L i e w A) (fun u_ A_ => u_ = .int .i64 (if e = 0 then (acX x).getD 2 else 2) ∧ SubA (RS rb lp lcap L (wnI e (acX x).isSome i) (wnE e (acX x).isSome) (wnW e w (acX x).isSome x) A) A_) := by
  refine callA_of_denA ⟨Tryz.prog, 33, Tryz.f33, 11, [0, 2], ⟨[34, 30], none⟩, [], _⟩ rfl (args := [_]) Tryz.func33 rfl (by kernel_rfl) Tryz.ntmps33 (by simp) (by kernel_rfl) ?_
  intro ν fr; have nuE := fr.nu
  by_cases he : e = 0
  rotate_left
  · simp (maxDischargeDepth := 16) only [evN, ↓evP, simprocAttr, forall_const, nuE, fr.2, vbQt, ↓sA_usd, ↓sA_ust]
    clear nuE fr
    refine CallA.ownX (Y := []) (ztk_h rb lp lcap L A i e w he _ _) (Dis.nil _).symm ?_
    rintro v D ⟨rfl, hD⟩ dD
    refine ⟨_, hD, ?_⟩
    clear hD dD D
    simp only [List.nil_append]
    intro ν fr; have nuE := fr.nu
    simp (maxDischargeDepth := 16) only [evN, ↓evP, simprocAttr, forall_const, nuE, fr.2, vbQt, ↓sA_usd, ↓sA_ust]
    clear nuE fr
    refine CallA.ownX (Y := []) (ztk_h rb lp lcap L A i e w he _ _) (Dis.nil _).symm ?_
    rintro v D ⟨rfl, hD⟩ dD
    refine ⟨_, hD, ?_⟩
    clear hD dD D
    simp only [List.nil_append]
    intro ν fr; have nuE := fr.nu
    simp (maxDischargeDepth := 16) only [evN, ↓evP, simprocAttr, forall_const, nuE, fr.2, vbQt, ↓sA_usd, ↓sA_ust]
    clear nuE fr
    refine CallA.ownX (Y := []) (rwant_h rb lp lcap L A hp i x hx e w 1 ⟨#[100, 101, 99, 108, 105, 110, 101]⟩) (Dis.nil _).symm ?_
    rintro v D ⟨rfl, hD⟩ dD
    refine ⟨_, hD, ?_⟩
    clear hD dD D
    simp only [List.nil_append]
    intro ν fr; have nuE := fr.nu
    simp (maxDischargeDepth := 16) only [evN, ↓evP, simprocAttr, forall_const, nuE, fr.2, vbQt, ↓sA_usd, ↓sA_ust]
    rw [if_neg he]
    exact ⟨rfl, by simp only [wnI, wnE, wnW, he, if_false, false_and]; exact SubA.refl _⟩
  subst he
  simp (maxDischargeDepth := 16) only [evN, ↓evP, simprocAttr, forall_const, nuE, fr.2, vbQt, ↓sA_usd, ↓sA_ust]
  clear nuE fr
  cases h1 : isL x 1 ⟨#[112, 97, 115, 115]⟩ with
  | true =>
    have ha : acX x = some 0 := by unfold acX; rw [h1]; rfl
    refine CallA.ownX (Y := []) (rtakeZ hp hx w 1 _ _ h1) (Dis.nil _).symm ?_
    rintro v D ⟨rfl, hD⟩ dD
    refine ⟨_, hD, ?_⟩
    clear hD dD D
    simp only [List.nil_append, if_true]
    intro ν fr; have nuE := fr.nu
    simp (maxDischargeDepth := 16) only [evN, ↓evP, simprocAttr, forall_const, nuE, fr.2, vbQt, ↓sA_usd, ↓sA_ust]
    rw [ha]
    exact ⟨rfl, SubA.refl _⟩
  | false =>
    refine CallA.ownX (Y := []) (rtakeZ hp hx w 1 _ _ h1) (Dis.nil _).symm ?_
    rintro v D ⟨rfl, hD⟩ dD
    refine ⟨_, hD, ?_⟩
    clear hD dD D
    simp only [List.nil_append, Bool.false_eq_true, if_false]
    intro ν fr; have nuE := fr.nu
    simp (maxDischargeDepth := 16) only [evN, ↓evP, simprocAttr, forall_const, nuE, fr.2, vbQt, ↓sA_usd, ↓sA_ust]
    clear nuE fr
    cases h2 : isL x 1 ⟨#[114, 101, 102, 101, 114]⟩ with
    | true =>
      have ha : acX x = some 1 := by unfold acX; rw [h1, h2]; rfl
      refine CallA.ownX (Y := []) (rtakeZ hp hx w 1 _ _ h2) (Dis.nil _).symm ?_
      rintro v D ⟨rfl, hD⟩ dD
      refine ⟨_, hD, ?_⟩
      clear hD dD D
      simp only [List.nil_append, if_true]
      intro ν fr; have nuE := fr.nu
      simp (maxDischargeDepth := 16) only [evN, ↓evP, simprocAttr, forall_const, nuE, fr.2, vbQt, ↓sA_usd, ↓sA_ust]
      rw [ha]
      exact ⟨rfl, SubA.refl _⟩
    | false =>
      refine CallA.ownX (Y := []) (rtakeZ hp hx w 1 _ _ h2) (Dis.nil _).symm ?_
      rintro v D ⟨rfl, hD⟩ dD
      refine ⟨_, hD, ?_⟩
      clear hD dD D
      simp only [List.nil_append, Bool.false_eq_true, if_false]
      intro ν fr; have nuE := fr.nu
      simp (maxDischargeDepth := 16) only [evN, ↓evP, simprocAttr, forall_const, nuE, fr.2, vbQt, ↓sA_usd, ↓sA_ust]
      clear nuE fr
      refine CallA.ownX (Y := []) (rwant_h rb lp lcap L A hp i x hx 0 w 1 ⟨#[100, 101, 99, 108, 105, 110, 101]⟩) (Dis.nil _).symm ?_
      rintro v D ⟨rfl, hD⟩ dD
      refine ⟨_, hD, ?_⟩
      clear hD dD D
      simp only [List.nil_append]
      intro ν fr; have nuE := fr.nu
      simp (maxDischargeDepth := 16) only [evN, ↓evP, simprocAttr, forall_const, nuE, fr.2, vbQt, ↓sA_usd, ↓sA_ust]
      cases h3 : isL x 1 ⟨#[100, 101, 99, 108, 105, 110, 101]⟩ with
      | true =>
        have ha : acX x = some 2 := by unfold acX; rw [h1, h2, h3]; rfl
        rw [ha]
        exact ⟨rfl, SubA.refl _⟩
      | false =>
        have ha : acX x = none := by unfold acX; rw [h1, h2, h3]; rfl
        rw [ha]
        exact ⟨rfl, SubA.refl _⟩
end Go.Proofs.YtgglccpckhpocaaGreatDoor
namespace Go.Proofs.YtgglccpckhpocaaGreatDoor
open Go.Vm
set_option maxHeartbeats 8000000
set_option maxRecDepth 20000
def RuErr (L : List LR) (us : List Ru) (i : Nat) (e w : Int) : Prop := e ≠ 0 ∧ ∃ (jj : Nat) (z : LR), PuE L us i e jj ∧ L[jj]? = some z ∧ w = (z.a : Int)
theorem wn_step {L : List LR} {us : List Ru} {i0 : Nat} {e w : Int} {i : Nat} {x : LR} {c : Bool} {OK OK' : Prop} (hi : i < L.length) (hx : L[i]? = some x) (he : EndL L) (hk : c = true → x.k ≠ 0) (h : (e = 0 ∧ w = 0 ∧ OK) ∨ RuErr L us i0 e w) (hok : OK → c = true → OK') (hbad : OK → c = false → PuE L us i0 2 i) :
    ∃ i' e' w', wnI e c i = i' ∧ wnE e c = e' ∧ wnW e w c x = w' ∧ i' < L.length ∧ ((e' = 0 ∧ w' = 0 ∧ i' = i + 1 ∧ OK') ∨ RuErr L us i0 e' w') := by
  refine ⟨_, _, _, rfl, rfl, rfl, ?_⟩
  rcases h with ⟨rfl, rfl, ho⟩ | ⟨h1, h2⟩
  · cases c with
    | true => exact ⟨by simp only [wnI, and_self, if_true]; exact nx_r he hx (hk rfl), .inl ⟨rfl, by simp [wnW], by simp [wnI], hok ho rfl⟩⟩
    | false => exact ⟨by simp only [wnI, Bool.false_eq_true, and_false, if_false]; exact hi, .inr ⟨by decide, i, x, hbad ho rfl, hx, by simp [wnW]⟩⟩
  · exact ⟨by simp only [wnI, h1, false_and, if_false]; exact hi, .inr ⟨by simp only [wnE, if_neg h1]; exact h1, by simp only [wnE, wnW, if_neg h1]; exact h2⟩⟩
theorem ruH_rule {L : List LR} {us : List Ru} {i : Nat} (h : ¬ (64 ≤ us.length ∧ isL (lxA L i) 1 ruB = true)) (h0 : isL (lxA L i) 1 ruB = false) : ruH L us i = some (2, i) := by
  unfold ruH; rw [if_neg h, if_pos h0]
theorem ruH_name {L : List LR} {us : List Ru} {i : Nat} (h : ¬ (64 ≤ us.length ∧ isL (lxA L i) 1 ruB = true)) (h0 : isL (lxA L i) 1 ruB = true) (h1 : nmB (lxA L (i + 1)) = false) : ruH L us i = some (2, i + 1) := by
  unfold ruH; rw [if_neg h, if_neg (by rw [h0]; decide), if_pos h1]
theorem ruH_has {L : List LR} {us : List Ru} {i : Nat} (h : ¬ (64 ≤ us.length ∧ isL (lxA L i) 1 ruB = true)) (h0 : isL (lxA L i) 1 ruB = true) (h1 : nmB (lxA L (i + 1)) = true) (h2 : hasU (lxA L (i + 1)).t us = true) : ruH L us i = some (7, i + 1) := by
  unfold ruH; rw [if_neg h, if_neg (by rw [h0]; decide), if_neg (by rw [h1]; decide), if_pos h2]
theorem ruH_when {L : List LR} {us : List Ru} {i : Nat} (h : ¬ (64 ≤ us.length ∧ isL (lxA L i) 1 ruB = true)) (h0 : isL (lxA L i) 1 ruB = true) (h1 : nmB (lxA L (i + 1)) = true) (h2 : hasU (lxA L (i + 1)).t us = false) (h3 : isL (lxA L (i + 2)) 1 ⟨#[119, 104, 101, 110]⟩ = false) : ruH L us i = some (2, i + 2) := by
  unfold ruH; rw [if_neg h, if_neg (by rw [h0]; decide), if_neg (by rw [h1]; decide), if_neg (by rw [h2]; decide), if_pos h3]
theorem ruH_none {L : List LR} {us : List Ru} {i : Nat} (h : ¬ (64 ≤ us.length ∧ isL (lxA L i) 1 ruB = true)) (h0 : isL (lxA L i) 1 ruB = true) (h1 : nmB (lxA L (i + 1)) = true) (h2 : hasU (lxA L (i + 1)).t us = false) (h3 : isL (lxA L (i + 2)) 1 ⟨#[119, 104, 101, 110]⟩ = true) : ruH L us i = none := by
  unfold ruH; rw [if_neg h, if_neg (by rw [h0]; decide), if_neg (by rw [h1]; decide), if_neg (by rw [h2]; decide), if_neg (by rw [h3]; decide)]
theorem join3 {a b c : Prop} [Decidable a] [Decidable b] [Decidable c] {F : Prop} {P : Program} {f : FuncId} {args : Array Value} {M : AH} {K : Nu → Nat → Value → AH → Prop} (Rel : AH → Prop) (key : ∀ M1, Rel M1 → CallS P f args M1 K) (ht : a ∧ b ∧ c → (∀ M1, Rel M1 → CallS P f args M1 K) → F) (he : ¬ (a ∧ b ∧ c) → Rel M) : if a then (if b then (if c then F else CallS P f args M K) else CallS P f args M K) else CallS P f args M K := by
  by_cases ha : a
  · rw [if_pos ha]
    by_cases hb : b
    · rw [if_pos hb]
      by_cases hc : c
      · rw [if_pos hc]; exact ht ⟨ha, hb, hc⟩ key
      · rw [if_neg hc]; exact key _ (he fun h => hc h.2.2)
    · rw [if_neg hb]; exact key _ (he fun h => hb h.2.1)
  · rw [if_neg ha]; exact key _ (he fun h => ha h.1)
theorem join1 {a : Prop} [Decidable a] {F : Prop} {P : Program} {f : FuncId} {args : Array Value} {M : AH} {K : Nu → Nat → Value → AH → Prop} (Rel : AH → Prop) (key : ∀ M1, Rel M1 → CallS P f args M1 K) (ht : a → (∀ M1, Rel M1 → CallS P f args M1 K) → F) (he : ¬ a → Rel M) : if a then F else CallS P f args M K := by
  by_cases ha : a
  · rw [if_pos ha]; exact ht ha key
  · rw [if_neg ha]; exact key _ (he ha)
theorem if2 {a b : Prop} [Decidable a] [Decidable b] {X Y : Prop} (h : ¬ (a ∧ b)) (hy : Y) : if a then (if b then X else Y) else Y := by
  by_cases ha : a
  · rw [if_pos ha, if_neg fun hb => h ⟨ha, hb⟩]; exact hy
  · rw [if_neg ha]; exact hy
theorem nmB_1 {x : LR} (h : nmB x = true) : x.k = 1 := by simp only [nmB, Bool.and_eq_true, decide_eq_true_eq] at h; exact h.1
theorem ruT_col {L : List LR} {j : Nat} (h : isL (lxA L j) 4 ⟨#[58]⟩ = false) : ruT L j = (2, j, 0, 0) := by unfold ruT; rw [if_pos h]
theorem ruT_act {L : List LR} {j : Nat} (h : isL (lxA L j) 4 ⟨#[58]⟩ = true) (ha : acX (lxA L (j + 1)) = none) : ruT L j = (2, j + 1, 0, 0) := by unfold ruT; rw [if_neg (by rw [h]; decide), ha]
theorem PuO.nmf {L : List LR} {us : List Ru} {i j : Nat} {u : Ru} (h : PuO L us i u j) : resB u.nm = false := by
  cases h with
  | ok h1 _ _ =>
    unfold ruH at h1
    split at h1
    · cases h1
    split at h1
    · cases h1
    split at h1
    · cases h1
    rename_i h3
    have : nmB (lxA L (i + 1)) = true := by simpa using h3
    unfold nmB at this
    simp only [Bool.and_eq_true, Bool.not_eq_true'] at this
    exact this.2
theorem acX_s {x : LR} (h : (acX x).isSome = true) : x.k ≠ 0 := by
  cases ha : acX x with
  | none => rw [ha] at h; cases h
  | some a => exact acX_k ha
theorem ruT_num {L : List LR} {j : Nat} {a : Int} (h : isL (lxA L j) 4 ⟨#[58]⟩ = true) (ha : acX (lxA L (j + 1)) = some a) (hs : isL (lxA L (j + 2)) 1 ⟨#[115, 99, 111, 114, 101]⟩ = true) (hn : nuB (lxA L (j + 3)) 1000 = false) : ruT L j = (2, j + 3, 0, 0) := by
  unfold ruT; rw [if_neg (by rw [h]; decide), ha]; simp only; rw [if_pos hs, if_pos hn]
def TlC (L : List LR) (j i : Nat) (a s : Int) : Prop := (isL (lxA L i) 4 ⟨#[59]⟩ = true → ruT L j = (0, i + 1, a, s)) ∧ (isL (lxA L i) 4 ⟨#[59]⟩ = false → ruT L j = (2, i, 0, 0))
theorem tl_no {L : List LR} {j : Nat} {a : Int} (h : isL (lxA L j) 4 ⟨#[58]⟩ = true) (ha : acX (lxA L (j + 1)) = some a) (hs : isL (lxA L (j + 2)) 1 ⟨#[115, 99, 111, 114, 101]⟩ = false) : TlC L j (j + 2) a 0 := by
  unfold TlC ruT
  rw [if_neg (by rw [h]; decide), ha]
  simp only
  rw [if_neg (by rw [hs]; decide)]
  exact ⟨fun he => by rw [if_neg (by rw [he]; decide)], fun he => by rw [if_pos he]⟩
theorem tl_sc {L : List LR} {j : Nat} {a : Int} (h : isL (lxA L j) 4 ⟨#[58]⟩ = true) (ha : acX (lxA L (j + 1)) = some a) (hs : isL (lxA L (j + 2)) 1 ⟨#[115, 99, 111, 114, 101]⟩ = true) (hn : nuB (lxA L (j + 3)) 1000 = true) : TlC L j (j + 4) a (lxA L (j + 3)).n := by
  unfold TlC ruT
  rw [if_neg (by rw [h]; decide), ha]
  simp only
  rw [if_pos hs, if_neg (by rw [hn]; decide)]
  exact ⟨fun he => by rw [if_neg (by rw [he]; decide)], fun he => by rw [if_pos he]⟩
theorem nuB_1 {x : LR} {m : Int} (h : nuB x m = true) : x.k ≠ 0 := by simp only [nuB, Bool.and_eq_true, decide_eq_true_eq] at h; rw [h.1]; decide
theorem rparse_h (A : AH) (s : ByteArray) (hs : s.size ≤ 100000) : CallA Tryz.prog 10 #[.string s] A (fun u_ A_ => ∃ v B, u_ = v ∧ (∃ e at_ us p cap, PaO s e at_ us ∧ us.length ≤ 64 ∧ us.length ≤ cap ∧ v = .tuple #[.slice p us.length cap, .int .i64 e, .int .i64 (at_ : Nat)] ∧ RuL B us p) ∧ Dis B A ∧ SubA (B ++ A) A_) := by
  refine callA_of_denA ⟨Tryz.prog, 10, Tryz.f10, 163, [0, 2, 3, 4, 5, 6, 7, 8, 9, 10, 11], ⟨[28, 32, 29, 30, 34, 31, 35, 33], none⟩, [(6, .q false), (8, .q false), (14, .q false), (26, .q false)], _⟩ rfl (args := [_]) Tryz.func10 rfl (by kernel_rfl) Tryz.ntmps10 (by simp) (by kernel_rfl) ?_
  intro ν fr; have nuE := fr.nu
  simp (maxDischargeDepth := 16) only [evN, ↓evP, simprocAttr, forall_const, nuE, fr.2, vbQt, ↓sA_usd, ↓sA_ust]
  clear nuE fr
  refine CallA.newX (rscan_a A s hs) (SubA.refl A) ?_
  rintro v B ⟨w, rfl, ho⟩ dBA
  by_cases h0 : (scanF s).1 = 0
  rotate_left
  · refine ⟨A, dBA.right, ?_⟩
    have ne0 : ((scanF s).1 != 0) = true := by simp [h0]
    intro ν fr; have nuE := fr.nu
    simp (maxDischargeDepth := 16) only [evN, ↓evP, simprocAttr, forall_const, nuE, fr.2, vbQt, ↓sA_usd, ↓sA_ust, ne0]
    exact ⟨_, [], rfl, ⟨_, _, [], none, 0, .scan h0, by simp, by simp, rfl, [], rfl, .inl rfl, fun k u r h => by simp at h⟩, Dis.nil _, SubA.refl _⟩
  obtain ⟨p, cap, rfl, hc1, hL⟩ := OwnL.read (f := LR.cells) (n := 4) (fun x => rfl) ho
  refine ⟨B ++ A, SubA.refl _, ?_⟩
  obtain ⟨K, hSK, _, _, hlen⟩ := scan_out h0
  have hend := scan_end h0
  have hpos : 0 < (scanF s).2.2.length := by rw [hSK]; simp
  intro ν fr; have nuE := fr.nu
  have fb : Vm.look (B ++ A) (ν 0) = none := fr.2 0
  simp (maxDischargeDepth := 16) only [evN, ↓evP, simprocAttr, forall_const, nuE, fr.2, vbQt, ↓sA_usd, ↓sA_ust, h0]
  have dst_ : True := (by simp [nuE]); generalize ν 0 = rb at dst_  fb ⊢
  clear nuE fr dst_
  have fbB : Vm.look B rb = none := (SubA.left B A).none fb
  have fbA : Vm.look A rb = none := dBA.right.none fb
  have hp : RsOk rb p (scanF s).2.2 B := ⟨fbB, hL, by omega, hend⟩
  obtain ⟨L, hLd⟩ : ∃ L, (scanF s).2.2 = L := ⟨_, rfl⟩
  rw [hLd] at hp hpos hlen hend ⊢
  clear hSK ho hL
  obtain ⟨us, rs, v, Q, i, e, w, A', hv, hQ, hi0, he0, hw0, hA0, ho2, hi, hp', dQA, dPX, hb, hst⟩ : ∃ (us : List Ru) (rs : List Rur) (v : Value) (Q : AH) (i : Nat) (e w : Int) (A' : AH), v = .slice none 0 0 ∧ Q = [] ∧ i = 0 ∧ e = 0 ∧ w = 0 ∧ A' = B ∧ OwnL ruC 8 43 v Q rs ∧ i < L.length ∧ RsOk rb p L A' ∧ Dis Q A ∧ Dis (RS rb p cap L i e w A') (Q ++ A) ∧ rs.length ≤ 65 ∧
      ((e = 0 ∧ w = 0 ∧ rs.length = us.length ∧ rs.map Rur.nm = us.map Ru.nm ∧ AllR A' us rs ∧ us.length ≤ 64 ∧ (∀ u ∈ us, resB u.nm = false) ∧ (∀ vs k, RlO L us i vs k → RlO L [] 0 vs k) ∧ ∀ e k, RlE L us i e k → RlE L [] 0 e k) ∨ (e ≠ 0 ∧ ∃ (jj : Nat) (z : LR), RlE L [] 0 e jj ∧ L[jj]? = some z ∧ w = (z.a : Int))) :=
    ⟨[], [], _, [], 0, 0, 0, B, rfl, rfl, rfl, rfl, rfl, rfl, OwnL.nil _ _ _, hpos, hp, Dis.nil _, fun x hx => by
      have h1 := dBA x hx
      have h2 : rb ≠ x := fun e => hx (by rw [← e]; exact fbA)
      simp only [RS, Vm.look, if_neg h2]; exact h1, by simp, .inl ⟨rfl, rfl, rfl, rfl, fun k u r h => by simp at h, by simp, fun u hu => by simp at hu, fun _ _ h => h, fun _ _ h => h⟩⟩
  rw [show (9, some (Value.slice none 0 0)) = (9, some v) by rw [hv]]
  refine LoopA.at (A := RS rb p cap L i e w (A' ++ (Q ++ A))) (by rw [hQ, hi0, he0, hw0, hA0]; exact SubA.refl _) ?_
  clear hv hQ hi0 he0 hw0 hA0 hp hpos fb fbB dBA
  generalize hm : (if e = 0 then L.length - i + 1 else 0) = m
  induction m using Nat.strongRecOn generalizing us rs v Q i e w A' with
  | ind m ih =>
    obtain ⟨q, qcap, rfl, hqc, hS⟩ := OwnL.read (f := ruC) (n := 8) ruC_len ho2
    obtain ⟨x, hx, hlx⟩ := at_of hi
    obtain ⟨bk, off, cs, ty, frz, hlp, h⟩ := hp'.at hx
    have lt : ((i : Int) < (L.length : Int)) = True := eq_true (by omega)
    have li : ((i : Int) < 0) = False := eq_false (by omega)
    have hbA : Vm.look (A' ++ (Q ++ A)) bk = some (.cells cs ty frz) := SubA.left A' _ bk _ h.hb
    have hXr : Vm.look (Q ++ A) rb = none := dPX.symm rb (by simp [RS, Vm.look])
    have dA'A : Dis A' A := fun y hy => (rs_base (i := i) (e := e) (w := w) (lcap := cap) hp').none (dPX y (look_app_ne hy))
    have sAll : ∀ o : Obj, SubA (A' ++ (Q ++ A)) ((rb, o) :: (A' ++ (Q ++ A))) := fun o => SubA.fresh (look_app_none hp'.nr hXr) (SubA.refl _)
    have dA'X : Dis A' (Q ++ A) := Dis.subl dPX (rs_base hp')
    have sA : SubA A (A' ++ (Q ++ A)) := SubA.trans dQA.right dA'X.right
    simp only [RS, rpB, hlp]
    refine LoopA.intro (by kernel_rfl) ?_
    intro ν fr; have nuE := And.intro (fr.mem (b := rb) (by simp)) (fr.nu)
    rcases hst with ⟨rfl, rfl, hrl, hnm, hall, h64, hres, hO, hE⟩ | ⟨he, jj, z, h1, h2, h3⟩
    rotate_left
    · have hen : (e != 0) = true := by simp [he]
      have heb : (e == 0) = false := by simp [he]
      simp (maxDischargeDepth := 16) only [evN, ↓evP, simprocAttr, forall_const, nuE, fr.2, vbQt, ↓sA_usd, ↓sA_ust, eq_false he, hen, heb]
      rw [h3]
      exact ⟨_, [], rfl, ⟨e, z.a, [], none, 0, .er h0 he (hLd ▸ h1) (by rw [hLd]; exact h2), by simp, by simp, rfl, [], rfl, .inl rfl, fun k u r h => by simp at h⟩, Dis.nil _, SubA.trans sA (sAll _)⟩
    by_cases hk : x.k = 0
    · have hk' : (x.k != 0) = false := by simp [hk]
      simp (maxDischargeDepth := 16) only [evN, ↓evP, simprocAttr, forall_const, nuE, fr.2, vbQt, ↓sA_usd, ↓sA_ust, lt, li, hbA, h.n1, h.n2, h.c0, hk, hk']
      have hsub : SubA (A' ++ Q) ((rb, rpB (some ⟨bk, off, none⟩) cap L.length i 0 0) :: (A' ++ (Q ++ A))) := SubA.trans (SubA.app (SubA.left Q A)) (sAll _)
      simp only [rpB] at hsub
      have hdis : Dis (A' ++ Q) A := Dis.app dA'A dQA
      rw [hrl]
      exact ⟨_, A' ++ Q, rfl, ⟨0, 0, us, q, qcap, .ok h0 (hLd ▸ hO _ _ (.fin (by rw [hlx]; exact hk))), h64, by omega, rfl, rs, hrl, hS.mono (Dis.right (Dis.subr dA'X (SubA.left Q A))), hall.mono (SubA.left _ _)⟩, hdis, by
        rw [List.append_assoc]; exact sAll _⟩
    · have hk' : (x.k != 0) = true := by simp [hk]
      have f10 := fr.2 0
      obtain ⟨b1, b2⟩ := look_ne ((sAll _).none f10) hbA
      obtain ⟨b3, b4⟩ := look_ne f10 (show Vm.look ((rb, rpB (some ⟨bk, off, none⟩) cap L.length i 0 0) :: (A' ++ (Q ++ A))) rb = some (rpB (some ⟨bk, off, none⟩) cap L.length i 0 0) by simp [Vm.look])
      have c1 : ((rs.length : Int) = 64) = (64 ≤ us.length) := propext (by omega)
      have c1b : ((rs.length : Int) == 64) = decide (64 ≤ us.length) := by rw [Bool.eq_iff_iff]; simp; omega
      have c2 : (isL x 1 ruB = true) = (x.k = 1 ∧ x.t.toList = ByteArray.toList ⟨#[114, 117, 108, 101]⟩) := by simp [isL, ruB]
      have hNext : ∀ (n10 : Nat), Vm.look ((rb, rpB (some ⟨bk, off, none⟩) cap L.length i 0 0) :: (A' ++ (Q ++ A))) n10 = none → Vm.look (RS rb p cap L i 0 0 A') n10 = none ∧ Vm.look (Q ++ A) n10 = none := fun n10 f10 => by
        have hh : Vm.look (RS rb p cap L i 0 0 A' ++ (Q ++ A)) n10 = none := by rw [hlp]; exact f10
        exact ⟨(SubA.left _ (Q ++ A)).none hh, dPX.right.none hh⟩
      simp only [rpB] at f10 hNext
      simp (maxDischargeDepth := 16) only [evN, ↓evP, simprocAttr, forall_const, nuE, fr.2, vbQt, ↓sA_usd, ↓sA_ust, lt, li, hbA, h.n1, h.n2, h.c0, h.c1, eq_false hk, hk', c1, c1b, b1, b2, b3, b4]
      have dst_ : ((ν 0 = rb) = False) ∧ ((rb = ν 0) = False) := (by simp [nuE]); generalize ν 0 = n10 at dst_  f10 b1 b2 b3 b4 ⊢
      clear nuE fr
      have d10 := dst_
      clear dst_
      obtain ⟨g10, g10X⟩ := hNext n10 f10
      rw [← hlp]
      clear hNext
      refine join3 (fun M1 => ∃ e1 w1, M1 = [(n10, .cells #[.string ⟨#[]⟩, .int .i64 0, .string ⟨#[]⟩, .string ⟨#[]⟩, .int .i64 0, .slice none 0 0, .int .i64 0, .int .i64 0] 43)] ++ (RS rb p cap L i e1 w1 A' ++ (Q ++ A)) ∧ ((e1 = 0 ∧ w1 = 0 ∧ ¬ (64 ≤ us.length ∧ isL (lxA L i) 1 ruB = true)) ∨ RuErr L us i e1 w1)) ?_ ?_ ?_
      rotate_left
      · rintro ⟨h6, hx1, hx2⟩ key
        have hb : 64 ≤ us.length ∧ isL (lxA L i) 1 ruB = true := ⟨h6, by rw [hlx, c2]; exact ⟨hx1, hx2⟩⟩
        refine CallA.par (E := RS rb p cap L i 0 0 A') (Y := [(n10, _)]) (X := Q ++ A) (rfail_h rb p cap L A' hp' i x hx 0 0 3) (Dis.one g10).symm dPX (Dis.one g10X) ?_
        rintro v D ⟨rfl, hD⟩ dD
        refine ⟨_, hD, ?_⟩
        clear hD dD D
        have ky := key _ ⟨flE 0 3, flW 0 0 x, rfl, .inr ⟨by decide, i, x, .h (by unfold ruH; rw [if_pos hb]; rfl), hx, rfl⟩⟩
        clear key
        simp only [RS, rpB, List.cons_append, List.nil_append] at ky ⊢
        intro ν fr; have nuE := And.intro (fr.mem (b := n10) (by simp)) (And.intro (fr.mem (b := rb) (by simp)) (fr.nu))
        simp (maxDischargeDepth := 16) only [evN, ↓evP, simprocAttr, forall_const, nuE, fr.2, vbQt, ↓sA_usd, ↓sA_ust, d10]
        exact ky
      · intro hn
        exact ⟨0, 0, rfl, .inl ⟨rfl, rfl, fun hb => hn ⟨hb.1, by rw [← c2, ← hlx]; exact hb.2⟩⟩⟩
      rintro _ ⟨e1, w1, rfl, hS1⟩
      refine CallA.par (E := RS rb p cap L i e1 w1 A') (Y := [(n10, _)]) (X := Q ++ A) (rwant_h rb p cap L A' hp' i x hx e1 w1 1 ruB) (Dis.one (rs_none g10)).symm dPX.rs (Dis.one g10X) ?_
      rintro v D ⟨rfl, hD⟩ dD
      refine ⟨_, hD, ?_⟩
      clear hD dD D
      obtain ⟨i2, e2, w2, ei, ee, ew, hi2, hS2⟩ := wn_step (us := us) (i0 := i) (OK := ¬ (64 ≤ us.length ∧ isL (lxA L i) 1 ruB = true)) (OK' := (¬ (64 ≤ us.length ∧ isL (lxA L i) 1 ruB = true)) ∧ isL (lxA L i) 1 ruB = true) (c := isL x 1 ruB) hi hx hp'.he (fun hc => by rw [isL_k hc]; decide) hS1 (fun h hc => ⟨h, by rw [hlx]; exact hc⟩) (fun h hc => .h (ruH_rule h (by rw [hlx]; exact hc)))
      rw [ei, ee, ew]
      clear ei ee ew hS1
      obtain ⟨x2, hx2, hlx2⟩ := at_of hi2
      simp only [RS, rpB, List.cons_append, List.nil_append]
      intro ν fr; have nuE := And.intro (fr.mem (b := n10) (by simp)) (And.intro (fr.mem (b := rb) (by simp)) (fr.nu))
      simp (maxDischargeDepth := 16) only [evN, ↓evP, simprocAttr, forall_const, nuE, fr.2, vbQt, ↓sA_usd, ↓sA_ust, d10]
      clear nuE fr
      obtain ⟨k, e3, w3, hk0, he3, hw3, hkl, hS3⟩ : ∃ (k : Nat) (e3 w3 : Int), k = 0 ∧ e3 = e2 ∧ w3 = w2 ∧ k ≤ rs.length ∧ ((e3 = 0 ∧ w3 = 0 ∧ i2 = i + 1 ∧ ((¬ (64 ≤ us.length ∧ isL (lxA L i) 1 ruB = true)) ∧ isL (lxA L i) 1 ruB = true) ∧ (x2.k = 1 → hasR x2.t (rs.take k) = false)) ∨ RuErr L us i e3 w3) := ⟨0, e2, w2, rfl, rfl, rfl, by omega, by
        rcases hS2 with ⟨a, b, c, d⟩ | h
        · exact .inl ⟨a, b, c, d, fun _ => rfl⟩
        · exact .inr h⟩
      rw [show (11, some (Value.int .i64 0)) = (11, some (Value.int .i64 (k : Int))) by rw [hk0]; rfl, ← he3, ← hw3]
      clear hk0 he3 hw3 hS2
      generalize hkm : (if e3 = 0 then rs.length - k else 0) = km
      induction km using Nat.strongRecOn generalizing k e3 w3 with
      | ind km ihk =>
        by_cases hc : k < rs.length ∧ e3 = 0
        · obtain ⟨hc1, rfl⟩ := hc
          rcases hS3 with ⟨_, rfl, hi2e, hok, hno⟩ | ⟨hbad, _⟩
          rotate_left
          · exact absurd rfl hbad
          obtain ⟨r, hr⟩ : ∃ r, rs[k]? = some r := ⟨_, List.getElem?_eq_getElem hc1⟩
          obtain ⟨bq, offq, csq, tyq, frq, hq0, hbq, hcq, hcqc⟩ := hS.at hr
          have cq : csq[offq + k * 8]? = some (.string r.nm) := hcqc 0 _ rfl
          obtain ⟨bk2, off2, cs2, ty2, frz2, hlp2, h2⟩ := hp'.at hx2
          have hbq2 : Vm.look (A' ++ (Q ++ A)) bq = some (.cells csq tyq frq) := dA'X.right _ _ (SubA.left Q A _ _ hbq)
          have hbk2 : Vm.look (A' ++ (Q ++ A)) bk2 = some (.cells cs2 ty2 frz2) := SubA.left A' _ bk2 _ h2.hb
          have g10A : Vm.look (A' ++ (Q ++ A)) n10 = none := look_app_none ((rs_base hp').none g10) g10X
          have grA : Vm.look (A' ++ (Q ++ A)) rb = none := look_app_none hp'.nr hXr
          obtain ⟨u1, u2⟩ := look_ne g10A hbq2
          obtain ⟨u3, u4⟩ := look_ne grA hbq2
          obtain ⟨u5, u6⟩ := look_ne g10A hbk2
          have ltk : ((k : Int) < (rs.length : Int)) = True := eq_true (by omega)
          have lik : ((k : Int) < 0) = False := eq_false (by omega)
          have wk : IntKind.i64.wrap ((k : Int) + 1) = ((k + 1 : Nat) : Int) := by rw [w_i64 (by omega) (by omega)]; omega
          have lt2 : ((i2 : Int) < (L.length : Int)) = True := eq_true (by omega)
          have li2 : ((i2 : Int) < 0) = False := eq_false (by omega)
          have htk : rs.take (k + 1) = rs.take k ++ [r] := by rw [List.take_add_one, hr]; rfl
          subst hq0
          rw [hlp2]
          refine LoopA.intro (by kernel_rfl) ?_
          intro ν fr; have nuE := And.intro (fr.mem (b := n10) (by simp)) (And.intro (fr.mem (b := rb) (by simp)) (fr.nu))
          by_cases hk1 : x2.k = 1
          rotate_left
          · simp (maxDischargeDepth := 16) only [evN, ↓evP, simprocAttr, forall_const, nuE, fr.2, vbQt, ↓sA_usd, ↓sA_ust, d10, ltk, lik, lt2, li2, hbq2, hbk2, u1, u2, u3, u4, u5, u6, h2.n1, h2.n2, h2.c0, h2.c1, cq, eq_false hk1, wk]
            rw [← hlp2]
            exact LoopA.weak (ihk _ (by simp only [if_true] at hkm ⊢; omega) (k + 1) 0 0 (by omega) (.inl ⟨rfl, rfl, hi2e, hok, fun h => absurd h hk1⟩) rfl) (by simp only [subE, get_cons, Nat.reduceEqDiff, ↓reduceIte, reduceCtorEq, Nat.reduceAdd, and_self, and_true]) (SubA.refl _)
          by_cases hn : r.nm.toList = x2.t.toList
          · simp (maxDischargeDepth := 16) only [evN, ↓evP, simprocAttr, forall_const, nuE, fr.2, vbQt, ↓sA_usd, ↓sA_ust, d10, ltk, lik, lt2, li2, hbq2, hbk2, u1, u2, u3, u4, u5, u6, h2.n1, h2.n2, h2.c0, h2.c1, cq, eq_true hk1, eq_true hn, wk]
            have hxt : x2.t = r.nm := (ba_list hn).symm
            have hmem : r.nm ∈ us.map Ru.nm := by rw [← hnm]; exact List.mem_map.2 ⟨r, List.mem_of_getElem? hr, rfl⟩
            obtain ⟨u, hu1, hu2⟩ := List.mem_map.1 hmem
            have hres2 : resB x2.t = false := by rw [hxt, ← hu2]; exact hres u hu1
            have hnb : nmB (lxA L (i + 1)) = true := by rw [← hi2e, hlx2]; simp [nmB, hk1, hres2]
            have hhas : hasU (lxA L (i + 1)).t us = true := by rw [← hi2e, hlx2]; unfold hasU; rw [List.any_eq_true]; exact ⟨u, hu1, by rw [hu2, hxt]; simp⟩
            have herr : RuErr L us i 7 (x2.a : Int) := ⟨by decide, i2, x2, .h (by rw [ruH_has hok.1 hok.2 hnb hhas, hi2e]), hx2, rfl⟩
            rw [← hlp2]
            refine CallA.par (E := RS rb p cap L i2 0 0 A') (Y := [(n10, _)]) (X := Q ++ A) (rfail_h rb p cap L A' hp' i2 x2 hx2 0 0 7) (Dis.one (rs_none g10)).symm dPX.rs (Dis.one g10X) ?_
            rintro v D ⟨rfl, hD⟩ dD
            refine ⟨_, hD, ?_⟩
            clear hD dD D nuE fr
            rw [show flE 0 7 = 7 from rfl, show flW 0 0 x2 = (x2.a : Int) from rfl]
            simp only [RS, rpB, List.cons_append, List.nil_append]
            intro ν fr; have nuE := And.intro (fr.mem (b := n10) (by simp)) (And.intro (fr.mem (b := rb) (by simp)) (fr.nu))
            simp (maxDischargeDepth := 16) only [evN, ↓evP, simprocAttr, forall_const, nuE, fr.2, vbQt, ↓sA_usd, ↓sA_ust, d10, wk]
            exact LoopA.weak (ihk _ (by rw [if_pos rfl] at hkm; rw [if_neg (by decide)]; omega) (k + 1) 7 _ (by omega) (.inr herr) rfl) (by simp only [subE, get_cons, Nat.reduceEqDiff, ↓reduceIte, reduceCtorEq, Nat.reduceAdd, and_self, and_true]) (SubA.refl _)
          · simp (maxDischargeDepth := 16) only [evN, ↓evP, simprocAttr, forall_const, nuE, fr.2, vbQt, ↓sA_usd, ↓sA_ust, d10, ltk, lik, lt2, li2, hbq2, hbk2, u1, u2, u3, u4, u5, u6, h2.n1, h2.n2, h2.c0, h2.c1, cq, eq_true hk1, eq_false hn, wk]
            rw [← hlp2]
            exact LoopA.weak (ihk _ (by simp only [if_true] at hkm ⊢; omega) (k + 1) 0 0 (by omega) (.inl ⟨rfl, rfl, hi2e, hok, fun h => by rw [htk]; simp [hasR] at hno ⊢; exact ⟨hno h, hn⟩⟩) rfl) (by simp only [subE, get_cons, Nat.reduceEqDiff, ↓reduceIte, reduceCtorEq, Nat.reduceAdd, and_self, and_true]) (SubA.refl _)
        · refine LoopA.intro (by kernel_rfl) ?_
          intro ν fr; have nuE := And.intro (fr.mem (b := n10) (by simp)) (And.intro (fr.mem (b := rb) (by simp)) (fr.nu))
          simp (maxDischargeDepth := 16) only [evN, ↓evP, simprocAttr, forall_const, nuE, fr.2, vbQt, ↓sA_usd, ↓sA_ust, d10]
          refine if2 (by omega) ?_
          have hS4 : (e3 = 0 ∧ w3 = 0 ∧ e3 = 0 ∧ i2 = i + 1 ∧ ((¬ (64 ≤ us.length ∧ isL (lxA L i) 1 ruB = true)) ∧ isL (lxA L i) 1 ruB = true) ∧ (x2.k = 1 → hasU x2.t us = false)) ∨ RuErr L us i e3 w3 := by
            rcases hS3 with ⟨a, b, c, d, f⟩ | h
            · have hkr : k = rs.length := by omega
              rw [hkr, List.take_length, hasU_eq _ hnm] at f
              exact .inl ⟨a, b, a, c, d, f⟩
            · exact .inr h
          clear hS3 ihk hkm hc
          clear nuE fr
          refine CallA.par (E := RS rb p cap L i2 e3 w3 A') (Y := [(n10, _)]) (X := Q ++ A) (rname_h rb p cap L A' hp' i2 x2 hx2 e3 w3) (Dis.one (rs_none g10)).symm dPX.rs (Dis.one g10X) ?_
          rintro v D ⟨rfl, hD⟩ dD
          refine ⟨_, hD, ?_⟩
          clear hD dD D
          obtain ⟨u1, hu1⟩ : ∃ u1, (if e3 = 0 ∧ nmB x2 = true then x2.t else eB) = u1 := ⟨_, rfl⟩
          rw [hu1]
          obtain ⟨i4, e4, w4, ei, ee, ew, hi4, hS5⟩ := wn_step (us := us) (i0 := i) (c := nmB x2) (OK' := i2 = i + 1 ∧ ((¬ (64 ≤ us.length ∧ isL (lxA L i) 1 ruB = true)) ∧ isL (lxA L i) 1 ruB = true) ∧ nmB (lxA L (i + 1)) = true ∧ hasU (lxA L (i + 1)).t us = false ∧ (lxA L (i + 1)).t = u1) hi2 hx2 hp'.he (fun hc => nmB_k hc) hS4 (fun ⟨h0, h1, h2, h3⟩ hc => by
            subst h1
            rw [hlx2]
            exact ⟨rfl, h2, hc, h3 (nmB_1 hc), by rw [← hu1, if_pos ⟨h0, hc⟩]⟩) (fun ⟨h0, h1, h2, h3⟩ hc => by
            subst h1
            exact .h (ruH_name h2.1 h2.2 (by rw [hlx2]; exact hc)))
          rw [ei, ee, ew]
          clear ei ee ew hS4 hu1
          obtain ⟨x4, hx4, hlx4⟩ := at_of hi4
          simp only [RS, rpB, List.cons_append, List.nil_append]
          intro ν fr; have nuE := And.intro (fr.mem (b := n10) (by simp)) (And.intro (fr.mem (b := rb) (by simp)) (fr.nu))
          simp (maxDischargeDepth := 16) only [evN, ↓evP, simprocAttr, forall_const, nuE, fr.2, vbQt, ↓sA_usd, ↓sA_ust, d10]
          clear nuE fr
          refine CallA.par (E := RS rb p cap L i4 e4 w4 A') (Y := [(n10, _)]) (X := Q ++ A) (rwant_h rb p cap L A' hp' i4 x4 hx4 e4 w4 1 ⟨#[119, 104, 101, 110]⟩) (Dis.one (rs_none g10)).symm dPX.rs (Dis.one g10X) ?_
          rintro v D ⟨rfl, hD⟩ dD
          refine ⟨_, hD, ?_⟩
          clear hD dD D
          obtain ⟨i5, e5, w5, ei, ee, ew, hi5, hS6⟩ := wn_step (us := us) (i0 := i) (c := isL x4 1 ⟨#[119, 104, 101, 110]⟩) (OK' := i4 = i + 2 ∧ ruH L us i = none ∧ (lxA L (i + 1)).t = u1) hi4 hx4 hp'.he (fun hc => by rw [isL_k hc]; decide) hS5 (fun ⟨h1, h2, h3, h4, h5, h6⟩ hc => by
            subst h1 h2
            exact ⟨rfl, ruH_none h3.1 h3.2 h4 h5 (by rw [hlx4]; exact hc), h6⟩) (fun ⟨h1, h2, h3, h4, h5, h6⟩ hc => by
            subst h1 h2
            exact .h (ruH_when h3.1 h3.2 h4 h5 (by rw [hlx4]; exact hc)))
          rw [ei, ee, ew]
          clear ei ee ew hS5
          have hS7 : (e5 = 0 ∧ w5 = 0 ∧ i5 = i + 3 ∧ ruH L us i = none ∧ (lxA L (i + 1)).t = u1) ∨ RuErr L us i e5 w5 := by
            rcases hS6 with ⟨a, b, c, d, f, g⟩ | h
            · exact .inl ⟨a, b, by omega, f, g⟩
            · exact .inr h
          clear hS6
          simp only [RS, rpB, List.cons_append, List.nil_append]
          intro ν fr; have nuE := And.intro (fr.mem (b := n10) (by simp)) (And.intro (fr.mem (b := rb) (by simp)) (fr.nu))
          simp (maxDischargeDepth := 16) only [evN, ↓evP, simprocAttr, forall_const, nuE, fr.2, vbQt, ↓sA_usd, ↓sA_ust, d10]
          clear nuE fr
          refine CallA.par (E := RS rb p cap L i5 e5 w5 A') (Y := [(n10, _)]) (X := Q ++ A) (rexprC rb p cap L A' hp' i5 hi5 e5 w5) (Dis.one (rs_none g10)).symm dPX.rs (Dis.one g10X) ?_
          rintro v D ⟨r, i8, e8, w8, A2, rfl, hi8, hsA, hp2, hD, hst⟩ dD
          refine ⟨_, hD, ?_⟩
          have h10 : Vm.look (RS rb p cap L i8 e8 w8 A2) n10 = none := hD.none (dD n10 (by simp [Vm.look]))
          have dP2 : Dis (RS rb p cap L i8 e8 w8 A2) (Q ++ A) := Dis.subr (dD.subl hD) (SubA.fresh g10X (SubA.refl _))
          clear hD dD D
          have hS8 : (e8 = 0 ∧ w8 = 0 ∧ ruH L us i = none ∧ (lxA L (i + 1)).t = u1 ∧ ∃ t, Pr L (.lv 0) (i + 3) (.ok t i8) ∧ ExR A2 t r) ∨ RuErr L us i e8 w8 := by
            rcases hS7 with ⟨a, b, c, d, f⟩ | h
            · rcases hst with ⟨_, q1, q2, q3⟩ | ⟨_, q1, j, z, q2, q3, q4⟩ | ⟨q1, _⟩
              · exact .inl ⟨q1, by rw [q2, b], d, f, by rw [← c]; exact q3⟩
              · exact .inr ⟨q1, j, z, .x d (by rw [← c]; exact q2), q3, q4⟩
              · exact absurd a q1
            · rcases hst with ⟨q1, _⟩ | ⟨q1, _⟩ | ⟨_, q1, q2⟩
              · exact absurd q1 h.1
              · exact absurd q1 h.1
              · rw [q1, q2]; exact .inr h
          clear hst hS7
          obtain ⟨x8, hx8, hlx8⟩ := at_of hi8
          simp only [RS, rpB, xrV, xrC, List.cons_append, List.nil_append]
          intro ν fr; have nuE := And.intro (fr.mem (b := n10) (by simp)) (And.intro (fr.mem (b := rb) (by simp)) (fr.nu))
          simp (maxDischargeDepth := 16) only [evN, ↓evP, simprocAttr, forall_const, nuE, fr.2, vbQt, ↓sA_usd, ↓sA_ust, d10]
          clear nuE fr
          refine CallA.par (E := RS rb p cap L i8 e8 w8 A2) (Y := [(n10, _)]) (X := Q ++ A) (rwant_h rb p cap L A2 hp2 i8 x8 hx8 e8 w8 4 ⟨#[58]⟩) (Dis.one (rs_none h10)).symm dP2.rs (Dis.one g10X) ?_
          rintro v D ⟨rfl, hD⟩ dD
          refine ⟨_, hD, ?_⟩
          clear hD dD D
          obtain ⟨i9, e9, w9, ei, ee, ew, hi9, hS9⟩ := wn_step (us := us) (i0 := i) (c := isL x8 4 ⟨#[58]⟩) (OK' := isL (lxA L i8) 4 ⟨#[58]⟩ = true ∧ ruH L us i = none ∧ (lxA L (i + 1)).t = u1 ∧ ∃ t, Pr L (.lv 0) (i + 3) (.ok t i8) ∧ ExR A2 t r) hi8 hx8 hp2.he (fun hc => by rw [isL_k hc]; decide) hS8 (fun h hc => ⟨by rw [hlx8]; exact hc, h⟩) (fun ⟨h1, h2, t, h3, h4⟩ hc => .t (e := 2) h1 h3 (ruT_col (by rw [hlx8]; exact hc)) (by decide))
          rw [ei, ee, ew]
          clear ei ee ew hS8
          obtain ⟨x9, hx9, hlx9⟩ := at_of hi9
          simp only [RS, rpB, List.cons_append, List.nil_append]
          intro ν fr; have nuE := And.intro (fr.mem (b := n10) (by simp)) (And.intro (fr.mem (b := rb) (by simp)) (fr.nu))
          simp (maxDischargeDepth := 16) only [evN, ↓evP, simprocAttr, forall_const, nuE, fr.2, vbQt, ↓sA_usd, ↓sA_ust, d10]
          clear nuE fr
          refine CallA.par (E := RS rb p cap L i9 e9 w9 A2) (Y := [(n10, _)]) (X := Q ++ A) (raction_h rb p cap L A2 hp2 i9 x9 hx9 e9 w9) (Dis.one (rs_none h10)).symm dP2.rs (Dis.one g10X) ?_
          rintro v D ⟨rfl, hD⟩ dD
          refine ⟨_, hD, ?_⟩
          clear hD dD D
          obtain ⟨u3, hu3⟩ : ∃ u3, (if e9 = 0 then (acX x9).getD 2 else 2) = u3 := ⟨_, rfl⟩
          rw [hu3]
          have hS9' : (e9 = 0 ∧ w9 = 0 ∧ e9 = 0 ∧ i9 = i8 + 1 ∧ isL (lxA L i8) 4 ⟨#[58]⟩ = true ∧ ruH L us i = none ∧ (lxA L (i + 1)).t = u1 ∧ ∃ t, Pr L (.lv 0) (i + 3) (.ok t i8) ∧ ExR A2 t r) ∨ RuErr L us i e9 w9 := by
            rcases hS9 with ⟨a, b, c⟩ | h
            · exact .inl ⟨a, b, a, c⟩
            · exact .inr h
          obtain ⟨i10, e10, w10, ei, ee, ew, hi10, hS10⟩ := wn_step (us := us) (i0 := i) (c := (acX x9).isSome) (OK' := i9 = i8 + 1 ∧ acX (lxA L (i8 + 1)) = some u3 ∧ isL (lxA L i8) 4 ⟨#[58]⟩ = true ∧ ruH L us i = none ∧ (lxA L (i + 1)).t = u1 ∧ ∃ t, Pr L (.lv 0) (i + 3) (.ok t i8) ∧ ExR A2 t r) hi9 hx9 hp2.he (fun hc => acX_s hc) hS9' (fun ⟨h0, h1, h2⟩ hc => by
            refine ⟨h1, ?_, h2⟩
            rw [← h1, hlx9]
            rw [if_pos h0] at hu3
            cases ha : acX x9 with
            | none => rw [ha] at hc; cases hc
            | some a => rw [ha] at hu3; rw [← hu3]; rfl) (fun ⟨h0, h1, h2, h3, h4, t, h5, h6⟩ hc => by
            subst h1
            exact .t (e := 2) h3 h5 (ruT_act h2 (by rw [hlx9]; cases ha : acX x9 with | none => rfl | some a => rw [ha] at hc; cases hc)) (by decide))
          rw [ei, ee, ew]
          clear ei ee ew hS9 hS9' hu3
          obtain ⟨x10, hx10, hlx10⟩ := at_of hi10
          simp only [RS, rpB, List.cons_append, List.nil_append]
          intro ν fr; have nuE := And.intro (fr.mem (b := n10) (by simp)) (And.intro (fr.mem (b := rb) (by simp)) (fr.nu))
          simp (maxDischargeDepth := 16) only [evN, ↓evP, simprocAttr, forall_const, nuE, fr.2, vbQt, ↓sA_usd, ↓sA_ust, d10]
          clear nuE fr
          refine CallA.par (E := RS rb p cap L i10 e10 w10 A2) (Y := [(n10, _)]) (X := Q ++ A) (rtake_h rb p cap L A2 hp2 i10 x10 hx10 e10 w10 1 ⟨#[115, 99, 111, 114, 101]⟩) (Dis.one (rs_none h10)).symm dP2.rs (Dis.one g10X) ?_
          rintro v D ⟨rfl, hD⟩ dD
          refine ⟨_, hD, ?_⟩
          clear hD dD D
          obtain ⟨tb, htb⟩ : ∃ tb, tkB e10 x10 1 ⟨#[115, 99, 111, 114, 101]⟩ = tb := ⟨_, rfl⟩
          rw [htb]
          simp only [RS, rpB, List.cons_append, List.nil_append]
          intro ν fr; have nuE := And.intro (fr.mem (b := n10) (by simp)) (And.intro (fr.mem (b := rb) (by simp)) (fr.nu))
          simp (maxDischargeDepth := 16) only [evN, ↓evP, simprocAttr, forall_const, nuE, fr.2, vbQt, ↓sA_usd, ↓sA_ust, d10]
          clear nuE fr
          refine join1 (fun M1 => ∃ i12 e12 w12 u4, M1 = [(n10, .cells #[.string u1, .int .i64 r.op, .string r.nm, .string r.tx, .int .i64 r.n, .slice r.p r.len r.cap, .int .i64 u3, .int .i64 u4] 43)] ++ (RS rb p cap L i12 e12 w12 A2 ++ (Q ++ A)) ∧ i12 < L.length ∧ ((e12 = 0 ∧ w12 = 0 ∧ ruH L us i = none ∧ (lxA L (i + 1)).t = u1 ∧ ∃ t, Pr L (.lv 0) (i + 3) (.ok t i8) ∧ ExR A2 t r ∧ TlC L i8 i12 u3 u4) ∨ RuErr L us i e12 w12)) ?_ ?_ ?_
          rotate_left
          · intro ht key
            subst ht
            have he10 : e10 = 0 ∧ isL x10 1 ⟨#[115, 99, 111, 114, 101]⟩ = true := by simpa [tkB] using htb
            obtain ⟨rfl, hsc⟩ := he10
            rcases hS10 with ⟨_, hw0, hi10e, hi9e, hac, hcol, hH, hnm1, t, hPr, hEx⟩ | h
            rotate_left
            · exact absurd rfl h.1
            have hi11 : i10 + 1 < L.length := nx_r hp2.he hx10 (by rw [isL_k hsc]; decide)
            obtain ⟨x11, hx11, hlx11⟩ := at_of hi11
            have e12 : i10 = i8 + 2 := by omega
            simp only [if_true]
            refine CallA.par (E := RS rb p cap L (i10 + 1) 0 w10 A2) (Y := [(n10, _)]) (X := Q ++ A) (rnum_h rb p cap L A2 hp2 (i10 + 1) x11 hx11 0 w10 1000) (Dis.one (rs_none h10)).symm dP2.rs (Dis.one g10X) ?_
            rintro v D ⟨rfl, hD⟩ dD
            refine ⟨_, hD, ?_⟩
            clear hD dD D
            obtain ⟨u4, hu4⟩ : ∃ u4, (if (0 : Int) = 0 ∧ nuB x11 1000 = true then x11.n else 0) = u4 := ⟨_, rfl⟩
            rw [hu4]
            obtain ⟨i13, e13, w13, ei, ee, ew, hi13, hS13⟩ := wn_step (us := us) (i0 := i) (c := nuB x11 1000) (OK := True) (OK' := ruH L us i = none ∧ (lxA L (i + 1)).t = u1 ∧ ∃ t, Pr L (.lv 0) (i + 3) (.ok t i8) ∧ ExR A2 t r ∧ TlC L i8 (i8 + 4) u3 u4) hi11 hx11 hp2.he (fun hc => nuB_1 hc) (.inl ⟨rfl, hw0, trivial⟩) (fun _ hc => by
              rw [if_pos ⟨rfl, hc⟩] at hu4
              have h3 : lxA L (i8 + 3) = x11 := by rw [← hlx11, e12]
              have := tl_sc hcol hac (by rw [← e12, hlx10]; exact hsc) (by rw [h3]; exact hc)
              rw [h3, hu4] at this
              exact ⟨hH, hnm1, t, hPr, hEx, this⟩) (fun _ hc => by
              have h3 : lxA L (i8 + 3) = x11 := by rw [← hlx11, e12]
              have h4 : i10 + 1 = i8 + 3 := by omega
              rw [h4]
              exact .t (e := 2) hH hPr (ruT_num hcol hac (by rw [← e12, hlx10]; exact hsc) (by rw [h3]; exact hc)) (by decide))
            rw [ei, ee, ew]
            clear ei ee ew
            have ky := key _ ⟨i13, e13, w13, u4, rfl, hi13, by
              rcases hS13 with ⟨a, b, c, d⟩ | h
              · have : i13 = i8 + 4 := by omega
                subst this
                exact .inl ⟨a, b, d⟩
              · exact .inr h⟩
            clear key
            simp only [RS, rpB, List.cons_append, List.nil_append] at ky ⊢
            intro ν fr; have nuE := And.intro (fr.mem (b := n10) (by simp)) (And.intro (fr.mem (b := rb) (by simp)) (fr.nu))
            simp (maxDischargeDepth := 16) only [evN, ↓evP, simprocAttr, forall_const, nuE, fr.2, vbQt, ↓sA_usd, ↓sA_ust, d10]
            exact ky
          · intro ht
            have htf : tb = false := by simpa using ht
            subst htf
            refine ⟨i10, e10, w10, 0, rfl, hi10, ?_⟩
            rcases hS10 with ⟨he0, hw0, hi10e, hi9e, hac, hcol, hH, hnm1, t, hPr, hEx⟩ | h
            · have hsc : isL x10 1 ⟨#[115, 99, 111, 114, 101]⟩ = false := by simpa [tkB, he0] using htb
              have e12 : i10 = i8 + 2 := by omega
              have := tl_no hcol hac (by rw [← e12, hlx10]; exact hsc)
              rw [← e12] at this
              exact .inl ⟨he0, hw0, hH, hnm1, t, hPr, hEx, this⟩
            · exact .inr h
          clear hS10 htb
          rintro _ ⟨i12, e12, w12, u4, rfl, hi12, hS12⟩
          obtain ⟨x12, hx12, hlx12⟩ := at_of hi12
          refine CallA.par (E := RS rb p cap L i12 e12 w12 A2) (Y := [(n10, _)]) (X := Q ++ A) (rwant_h rb p cap L A2 hp2 i12 x12 hx12 e12 w12 4 ⟨#[59]⟩) (Dis.one (rs_none h10)).symm dP2.rs (Dis.one g10X) ?_
          rintro v D ⟨rfl, hD⟩ dD
          refine ⟨_, hD, ?_⟩
          clear hD dD D
          obtain ⟨i14, e14, w14, ei, ee, ew, hi14, hS14⟩ := wn_step (us := us) (i0 := i) (c := isL x12 4 ⟨#[59]⟩) (OK' := ∃ t, PuO L us i ⟨u1, t, u3, u4⟩ (i12 + 1) ∧ ExR A2 t r) hi12 hx12 hp2.he (fun hc => by rw [isL_k hc]; decide) hS12 (fun ⟨h1, h2, t, h3, h4, h5⟩ hc => by
            refine ⟨t, ?_, h4⟩
            have := PuO.ok h1 h3 (h5.1 (by rw [hlx12]; exact hc))
            rwa [h2] at this) (fun ⟨h1, h2, t, h3, h4, h5⟩ hc => .t (e := 2) h1 h3 (h5.2 (by rw [hlx12]; exact hc)) (by decide))
          rw [ei, ee, ew]
          clear ei ee ew hS12
          simp only [RS, rpB, List.cons_append, List.nil_append]
          intro ν fr; have nuE := And.intro (fr.mem (b := n10) (by simp)) (And.intro (fr.mem (b := rb) (by simp)) (fr.nu))
          have g7 := fr.2 0
          simp (maxDischargeDepth := 16) only [evN, ↓evP, simprocAttr, forall_const, nuE, fr.2, vbQt, ↓sA_usd, ↓sA_ust, d10, sc_u1]
          have dst_ : ((ν 0 = rb) = False) ∧ ((ν 0 = n10) = False) ∧ ((rb = ν 0) = False) ∧ ((n10 = ν 0) = False) := (by simp [nuE]); generalize ν 0 = n7 at dst_  g7 ⊢
          clear nuE fr
          have h10A : Vm.look (A2 ++ (Q ++ A)) n10 = none := look_app_none ((rs_base hp2).none h10) g10X
          have hXr2 : Vm.look (Q ++ A) rb = none := dP2.symm rb (by simp [RS, Vm.look])
          have dA2X : Dis A2 (Q ++ A) := Dis.subl dP2 (rs_base hp2)
          have sR : ∀ o, SubA (A2 ++ (Q ++ A)) ((rb, o) :: (A2 ++ (Q ++ A))) := fun o => SubA.fresh (look_app_none hp2.nr hXr2) (SubA.refl _)
          have h10R : ∀ o, Vm.look ((rb, o) :: (A2 ++ (Q ++ A))) n10 = none := fun o => by
            have := (rs_ne h10).2
            exact look_c1 this h10A
          have sM : ∀ o o', SubA ((rb, o) :: (A2 ++ (Q ++ A))) ((n10, o') :: (rb, o) :: (A2 ++ (Q ++ A))) := fun o o' => SubA.fresh (h10R o) (SubA.refl _)
          have sQ : SubA Q (A2 ++ (Q ++ A)) := SubA.trans (SubA.left Q A) dA2X.right
          have sA2A : SubA (A2 ++ A) (A2 ++ (Q ++ A)) := SubA.both (SubA.left _ _) (SubA.trans dQA.right dA2X.right)
          have fAr : Vm.look A rb = none := dQA.right.none hXr2
          have sN : ∀ o, SubA ((rb, o) :: (A2 ++ A)) ((rb, o) :: (A2 ++ (Q ++ A))) := fun o => SubA.both (X := [(rb, o)]) (SubA.left [(rb, o)] _) (SubA.trans sA2A (sR o))
          have dQN : ∀ o, Dis Q ((rb, o) :: (A2 ++ A)) := fun o => dis_cons' ((SubA.left Q A).none hXr2) (Dis.appr (Dis.subl dA2X.symm (SubA.left Q A)) dQA)
          refine RunA.use ?_
          refine append_src (m := 1) (news := ruC ⟨u1, r, u3, u4⟩) (B := Q) slc23 zro43 rfl (by decide) ho2 (SubA.trans (SubA.trans sQ (SubA.trans (sR _) (sM _ _))) (SubA.fresh g7 (SubA.refl _))) (.inr ⟨n7, 0, rfl, by simp [Vm.look, rdCS_cells, ruC]⟩) (by simp [ruC, Value.oneCell']) (by simp only [maxLen]; omega) (by omega) ?_
          intro v' Q' ho3' hb3
          have ho3 : OwnL ruC 8 43 v' Q' (rs ++ [⟨u1, r, u3, u4⟩]) := by
            unfold OwnL
            rw [List.length_append, List.flatMap_append]
            simpa using ho3'
          obtain ⟨p', cap', rfl, _⟩ := ho3.slice
          have sNM := fun (o7 : Obj) => SubA.trans (sN (rpB p cap L.length i14 e14 w14)) (SubA.trans (sM _ (.cells #[.string u1, .int .i64 r.op, .string r.nm, .string r.tx, .int .i64 r.n, .slice r.p r.len r.cap, .int .i64 u3, .int .i64 u4] 43)) (SubA.fresh (o := o7) g7 (SubA.refl _)))
          have dQ' : Dis Q' ((rb, rpB p cap L.length i14 e14 w14) :: (A2 ++ A)) := ap_dis hb3 (dQN _) (sNM _)
          have dA2A : Dis A2 A := dA2X.subr dQA.right
          have sAN : SubA A ((rb, rpB p cap L.length i14 e14 w14) :: (A2 ++ A)) := SubA.skip fAr dA2A.right
          have dQ'A : Dis Q' A := Dis.subr dQ' sAN
          refine ⟨(rb, rpB p cap L.length i14 e14 w14) :: (A2 ++ (Q' ++ A)), ?_, ?_⟩
          · have hN := dQ'.sub (sNM (.cells #[.string u1, .int .i64 r.op, .string r.nm, .string r.tx, .int .i64 r.n, .slice r.p r.len r.cap, .int .i64 u3, .int .i64 u4] 43))
            refine SubA.both (X := [(rb, _)]) (SubA.trans (SubA.left [(rb, _)] _) hN) (SubA.both (SubA.trans (SubA.trans (SubA.left A2 A) (SubA.fresh (look_app_none hp2.nr fAr) (SubA.refl _))) hN) (SubA.both (SubA.left _ _) (SubA.trans sAN hN)))
          simp only [rpB]
          intro ν fr; have nuE := And.intro (fr.mem (b := rb) (by simp)) (fr.nu)
          simp (maxDischargeDepth := 16) only [evN, ↓evP, simprocAttr, forall_const, nuE, fr.2, vbQt, ↓sA_usd, ↓sA_ust]
          have dQR : Dis Q' (RS rb p cap L i14 e14 w14 A2) := Dis.subr dQ' (SubA.left ((rb, rpB p cap L.length i14 e14 w14) :: A2) A)
          have dP3 : Dis (RS rb p cap L i14 e14 w14 A2) (Q' ++ A) := Dis.appr dQR.symm (Dis.subr dP2.rs dQA.right)
          have hk2 : (lxA L i).k ≠ 0 := by rw [hlx]; exact hk
          rw [if_pos rfl] at hm
          rcases hS14 with ⟨he14, hw14, hi14e, t, hu, hEx⟩ | ⟨hbad, jj, z, q1, q2, q3⟩
          · rw [← hi14e] at hu
            have hres1 : resB u1 = false := by
              have := hu.nmf
              exact this
            have hst' : (e14 = 0 ∧ w14 = 0 ∧ (rs ++ [(⟨u1, r, u3, u4⟩ : Rur)]).length = (us ++ [(⟨u1, t, u3, u4⟩ : Ru)]).length ∧ (rs ++ [(⟨u1, r, u3, u4⟩ : Rur)]).map Rur.nm = (us ++ [(⟨u1, t, u3, u4⟩ : Ru)]).map Ru.nm ∧ AllR A2 (us ++ [⟨u1, t, u3, u4⟩]) (rs ++ [⟨u1, r, u3, u4⟩]) ∧ (us ++ [(⟨u1, t, u3, u4⟩ : Ru)]).length ≤ 64 ∧ (∀ u ∈ us ++ [(⟨u1, t, u3, u4⟩ : Ru)], resB u.nm = false) ∧ (∀ vs k, RlO L (us ++ [⟨u1, t, u3, u4⟩]) i14 vs k → RlO L [] 0 vs k) ∧ ∀ e k, RlE L (us ++ [⟨u1, t, u3, u4⟩]) i14 e k → RlE L [] 0 e k) :=
              ⟨he14, hw14, by simp [hrl], by simp [hnm], (hall.mono hsA).push hrl ⟨rfl, hEx, rfl, rfl⟩, by have := hu.few; simp; omega, fun v hv => by
                rcases List.mem_append.1 hv with h | h
                · exact hres v h
                · rw [List.mem_singleton.1 h]; exact hres1, fun vs k h => hO _ _ (.step hk2 hu h), fun e k h => hE _ _ (.step hk2 hu h)⟩
            have h9 := ih (if e14 = 0 then L.length - i14 + 1 else 0) (by rw [if_pos he14]; have := hu.lt; omega) (us ++ [⟨u1, t, u3, u4⟩]) (rs ++ [⟨u1, r, u3, u4⟩]) _ Q' i14 e14 w14 A2 ho3 hi14 hp2 dQ'A dP3 (by simp; omega) (.inl hst') rfl
            exact LoopA.weak h9 (by simp only [subE, get_cons, Nat.reduceEqDiff, ↓reduceIte, reduceCtorEq, Nat.reduceAdd, and_self, and_true]) (SubA.refl _)
          · have h9 := ih (if e14 = 0 then L.length - i14 + 1 else 0) (by rw [if_neg hbad]; omega) us (rs ++ [⟨u1, r, u3, u4⟩]) _ Q' i14 e14 w14 A2 ho3 hi14 hp2 dQ'A dP3 (by simp; omega) (.inr ⟨hbad, jj, z, hE _ _ (.err hk2 q1), q2, q3⟩) rfl
            exact LoopA.weak h9 (by simp only [subE, get_cons, Nat.reduceEqDiff, ↓reduceIte, reduceCtorEq, Nat.reduceAdd, and_self, and_true]) (SubA.refl _)
end Go.Proofs.YtgglccpckhpocaaGreatDoor
