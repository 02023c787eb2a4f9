/-
Reasons: as data, as cells; the walks of Check, Find, Days, Due, Needs; the reference's.
Conditions: none.
-/
import Derived.Test.YtamiclgnehfhpaaDoorLst
import Derived.Test.YtamiclgnehfhpaaDoorNam
import Derived.Test.YtamiclgnehfhpaaDoorVmAU
namespace Go.Proofs.YtamiclgnehfhpaaDoor
open Go.Vm
set_option linter.unusedSimpArgs false
set_option linter.unusedVariables false
set_option maxHeartbeats 1000000
set_option maxRecDepth 20000
theorem vbRsX : type_of% (And.intro @slIndexByte_v (And.intro @indexByte_v (And.intro @indexRune_v (And.intro @containsRune_v (And.intro @slHasPrefix_v (And.intro @hasPrefix_v (And.intro @classOf_v (And.intro @isWordByte_v (And.intro @letter_v (And.intro @digit_v (And.intro @wordAt_v (And.intro @rword_v (And.intro @skip_v (And.intro @rskip_v (And.intro @number_v (And.intro @rnumber_v (And.intro @literal_v (And.intro @rtext_v (And.intro @lexemeAt_v (And.intro @rlexeme_v (And.intro @isName_v (@risName_v)))))))))))))))))))))) := And.intro @slIndexByte_v (And.intro @indexByte_v (And.intro @indexRune_v (And.intro @containsRune_v (And.intro @slHasPrefix_v (And.intro @hasPrefix_v (And.intro @classOf_v (And.intro @isWordByte_v (And.intro @letter_v (And.intro @digit_v (And.intro @wordAt_v (And.intro @rword_v (And.intro @skip_v (And.intro @rskip_v (And.intro @number_v (And.intro @rnumber_v (And.intro @literal_v (And.intro @rtext_v (And.intro @lexemeAt_v (And.intro @rlexeme_v (And.intro @isName_v (@risName_v)))))))))))))))))))))
theorem pbRsX : type_of% (And.intro @slIndexByte_p (And.intro @indexByte_p (And.intro @indexRune_p (And.intro @containsRune_p (And.intro @slHasPrefix_p (And.intro @hasPrefix_p (And.intro @classOf_p (And.intro @isWordByte_p (And.intro @letter_p (And.intro @digit_p (And.intro @wordAt_p (And.intro @rword_p (And.intro @skip_p (And.intro @rskip_p (And.intro @number_p (And.intro @rnumber_p (And.intro @literal_p (And.intro @isName_p (@risName_p))))))))))))))))))) := And.intro @slIndexByte_p (And.intro @indexByte_p (And.intro @indexRune_p (And.intro @containsRune_p (And.intro @slHasPrefix_p (And.intro @hasPrefix_p (And.intro @classOf_p (And.intro @isWordByte_p (And.intro @letter_p (And.intro @digit_p (And.intro @wordAt_p (And.intro @rword_p (And.intro @skip_p (And.intro @rskip_p (And.intro @number_p (And.intro @rnumber_p (And.intro @literal_p (And.intro @isName_p (@risName_p))))))))))))))))))
/-- A reason's data. -/
structure Rn where
  code : Txt
  d1 : Int
  d2 : Int
  d3 : Int
  d4 : Int
  cl : List Txt
  df : List Txt
/-- A reason, and where its lists lie. -/
structure Rs where
  d : Rn
  p1 : Option Addr
  c1 : Nat
  p2 : Option Addr
  c2 : Nat
def rsC (r : Rs) : List Value := [.string (bs r.d.code), .int .i64 r.d.d1, .int .i64 r.d.d2, .int .i64 r.d.d3, .int .i64 r.d.d4, .slice r.p1 r.d.cl.length r.c1, .slice r.p2 r.d.df.length r.c2]
theorem rsC_len (r : Rs) : (rsC r).length = 7 := rfl
def noRn : Rn := ⟨[], 0, 0, 0, 0, [], []⟩
def noRs : Rs := ⟨noRn, none, 0, none, 0⟩
def InR (A : AH) (r : Rs) : Prop := TxR A r.p1 r.c1 r.d.cl ∧ TxR A r.p2 r.c2 r.d.df
theorem InR.mono {A B : AH} {r : Rs} (h : InR A r) (hs : SubA A B) : InR B r := ⟨h.1.mono hs, h.2.mono hs⟩
/-- A table, to be read. -/
def RsR (A : AH) (p : Option Addr) (L : List Rs) : Prop := StR rsC 7 A p L ∧ ∀ r ∈ L, InR A r
theorem RsR.mono {A B : AH} {p : Option Addr} {L : List Rs} (h : RsR A p L) (hs : SubA A B) : RsR B p L := ⟨h.1.mono hs, fun r hr => (h.2 r hr).mono hs⟩
theorem RsR.nil {A : AH} {p : Option Addr} : RsR A p [] := ⟨StR.nil, fun r hr => by cases hr⟩
theorem RsR.take {A : AH} {p : Option Addr} {L : List Rs} (h : RsR A p L) (i : Nat) : RsR A p (L.take i) := ⟨StR.take h.1 i, fun r hr => h.2 r (List.mem_of_mem_take hr)⟩
def claimT : Txt := [99, 108, 97, 105, 109]
def defenceT : Txt := [100, 101, 102, 101, 110, 99, 101]
def kindF (s : Txt) : Bool := nameF (bs s) && (!decide (s = claimT) && !decide (s = defenceT))
def kindsG (dn : List Txt) : List Txt → Int
  | [] => 0
  | k :: r => if kindF k = false then 5 else if k ∈ dn then 7 else kindsG (dn ++ [k]) r
def kindsE (l : List Txt) : Int := if 8 < l.length then 3 else kindsG [] l
def okD (n : Int) : Bool := decide (1 ≤ n) && decide (n ≤ 1000)
def findR (c : Txt) : List Rn → Option Rn
  | [] => none
  | r :: l => if r.code = c then some r else findR c l
def okDs (r : Rn) : Bool := okD r.d1 && (okD r.d2 && (okD r.d3 && okD r.d4))
def chkG (dn : List Rn) : List Rn → Int
  | [] => 0
  | r :: l => if nameF (bs r.code) = false then 5 else if (findR r.code dn).isSome = true then 7 else if okDs r = false then 4 else if kindsE r.cl ≠ 0 then kindsE r.cl else if kindsE r.df ≠ 0 then kindsE r.df else chkG (dn ++ [r]) l
def chkE (l : List Rn) : Int := if 32 < l.length then 3 else chkG [] l
def daysF (r : Rn) (stage : Int) : Int × Int := if stage = 0 then (r.d1, 0) else if stage = 1 then (r.d2, 0) else if stage = 2 then (r.d3, 0) else if stage = 3 then (r.d4, 0) else (0, 8)
def dueF (r : Rn) (stage date : Int) : Int × Int :=
  if (daysF r stage).2 ≠ 0 then (0, (daysF r stage).2) else if okD (daysF r stage).1 = false then (0, 4)
  else if date < 0 ∨ 99999 < date ∨ 99999 < date + (daysF r stage).1 then (0, 14) else (date + (daysF r stage).1, 0)
def needsF (r : Rn) (stage : Int) : List Txt := if stage = 1 then r.cl else if stage = 2 then r.df else []
theorem findR_some {c : Txt} : ∀ {L : List Rn} {r : Rn}, findR c L = some r → r ∈ L ∧ r.code = c
  | [], _, h => by cases h
  | x :: l, r, h => by
    simp only [findR] at h
    split at h
    · rename_i e; cases h; exact ⟨by simp, e⟩
    · have := findR_some h; exact ⟨by simp [this.1], this.2⟩
set_option linter.unusedSimpArgs false
set_option linter.unusedVariables false
set_option maxHeartbeats 2000000
set_option maxRecDepth 20000
theorem sc_s0 : sliceCells Tryd.prog 25 0 [] = some (9, #[]) := by kernel_rfl
theorem sc_s2 (a b : ByteArray) : sliceCells Tryd.prog 25 2 [(0, .string a), (1, .string b)] = some (9, #[.string a, .string b]) := by kernel_rfl
theorem cloneS_h (A : AH) (T : List Txt) (p : Option Addr) (cap : Nat) (hT : TxR A p cap T) (hl : T.length ≤ 8000000000000) : CallA Tryd.prog 29 #[.slice p T.length cap] A (fun u_ A_ => ∃ v B, u_ = v ∧ OwnL strC 1 9 v B T ∧ Dis B A ∧ SubA (B ++ A) A_) := by
  refine callA_of_denA ⟨Tryd.prog, 29, Tryd.f29, 8, [0, 2], [], [], _⟩ (args := [_]) Tryd.func29 rfl (by kernel_rfl) Tryd.ntmps29 (by simp) (by kernel_rfl) ?_
  intro ν fr; have nuE := fr.nu
  have hn := hT.isNone
  cases hp : p.isNone with
  | true =>
    have := hn hp
    subst this
    simp (maxDischargeDepth := 16) only [argE_nil, argE_cons, ↓vmD, vmV, vmStd, Nat.reduceMul, ↓reduceIte, Nat.reduceAdd, Nat.reduceSub, Nat.reduceEqDiff, Nat.reduceLT, Nat.reduceLeDiff, reduceCtorEq, Int.reduceToNat, Int.reduceLT, Int.reduceLE, Int.reduceEq, Int.reduceNeg, Int.reduceBEq, Int.reduceBNe, String.reduceEq, forall_const, ↓vmDA, vmVA, ↓vmQA, vmR, vmRA, ↓vmSA, vmSV, tyS, nuE, SubA.skip, SubA.refl, fr.2, vbRsX, hp]
    exact ⟨_, [], rfl, OwnL.nil _ _ _, Dis.nil _, SubA.refl _⟩
  | false =>
    simp (maxDischargeDepth := 16) only [argE_nil, argE_cons, ↓vmD, vmV, vmStd, Nat.reduceMul, ↓reduceIte, Nat.reduceAdd, Nat.reduceSub, Nat.reduceEqDiff, Nat.reduceLT, Nat.reduceLeDiff, reduceCtorEq, Int.reduceToNat, Int.reduceLT, Int.reduceLE, Int.reduceEq, Int.reduceNeg, Int.reduceBEq, Int.reduceBNe, String.reduceEq, forall_const, ↓vmDA, vmVA, ↓vmQA, vmR, vmRA, ↓vmSA, vmSV, tyS, nuE, SubA.skip, SubA.refl, fr.2, vbRsX, hp, sc_s0]
    have f0 := fr.2 0
    refine RunA.use ?_
    refine append_src (m := T.length) (news := T.flatMap strC) (B := [(ν 0, .cells #[] 9)]) slc25 zro9 rfl (by decide) (OwnL.at0 strC 1 _ _) (SubA.left [_] _) ?_ (flat_one str_one T) (by simp only [maxLen, List.length_nil]; omega) (by simp only [List.length_nil]; omega) ?_
    · rcases hT.1.src with h | ⟨g, off, h1, h2⟩
      · exact .inl h
      · refine .inr ⟨g, off, h1, ?_⟩
        rw [← h2]
        obtain ⟨cc, ce, cfr, hlook⟩ := rdCS_some h2
        rw [hlook]
        congr 1
        exact SubA.fresh f0 (SubA.refl _) _ _ hlook
    intro v' B' ho' hb'
    refine ⟨B' ++ A, SubA.app (SubA.fresh f0 (SubA.refl _)), ?_⟩
    intro ν2 fr2
    have fr := fr2
    have nuE := fr.nu
    simp (maxDischargeDepth := 16) only [argE_nil, argE_cons, ↓vmD, vmV, vmStd, Nat.reduceMul, ↓reduceIte, Nat.reduceAdd, Nat.reduceSub, Nat.reduceEqDiff, Nat.reduceLT, Nat.reduceLeDiff, reduceCtorEq, Int.reduceToNat, Int.reduceLT, Int.reduceLE, Int.reduceEq, Int.reduceNeg, Int.reduceBEq, Int.reduceBNe, String.reduceEq, forall_const, ↓vmDA, vmVA, ↓vmQA, vmR, vmRA, ↓vmSA, vmSV, tyS, nuE, SubA.skip, SubA.refl, fr.2, vbRsX]
    refine ⟨_, B', rfl, ?_, ap_dis hb' (Dis.one f0) (SubA.fresh f0 (SubA.refl _)), SubA.refl _⟩
    unfold OwnL
    simpa using ho'

theorem indexS_h (A : AH) (T : List Txt) (p : Option Addr) (cap : Nat) (s : Txt) (hT : TxR A p cap T) : CallA Tryd.prog 81 #[.slice p T.length cap, .string (bs s)] A (fun u_ A_ => u_ = .int .i64 (optI (idxT s T)) ∧ SubA A A_) := by
  refine callA_of_denA ⟨Tryd.prog, 81, Tryd.f81, 19, [0, 1, 4, 5, 7, 8], [], [], _⟩ (args := [_, _]) Tryd.func81 rfl (by kernel_rfl) Tryd.ntmps81 (by simp) (by kernel_rfl) ?_
  intro ν fr; have nuE := fr.nu
  simp (maxDischargeDepth := 16) only [argE_nil, argE_cons, ↓vmD, vmV, vmStd, Nat.reduceMul, ↓reduceIte, Nat.reduceAdd, Nat.reduceSub, Nat.reduceEqDiff, Nat.reduceLT, Nat.reduceLeDiff, reduceCtorEq, Int.reduceToNat, Int.reduceLT, Int.reduceLE, Int.reduceEq, Int.reduceNeg, Int.reduceBEq, Int.reduceBNe, String.reduceEq, forall_const, ↓vmDA, vmVA, ↓vmQA, vmR, vmRA, ↓vmSA, vmSV, tyS, nuE, SubA.skip, SubA.refl, fr.2, vbRsX]
  have hcap := hT.2
  obtain ⟨e, l, he, hd, hle, hx⟩ : ∃ (e : Nat) (l : List Txt), e = 0 ∧ l = T.drop e ∧ e ≤ T.length ∧ idxT s T = (idxT s l).map (· + e) := ⟨0, T, rfl, rfl, by omega, by cases idxT s T <;> simp⟩
  rw [show (8, some (Value.int .i64 0)) = (8, some (Value.int .i64 (e : Int))) by rw [he]; rfl]
  clear he nuE fr
  induction l generalizing e with
  | nil =>
    obtain ⟨hn1, hn2⟩ := drop_nil hd hle
    have lt : ((e : Int) < (T.length : Int)) = False := eq_false (by omega)
    refine LoopA.intro (by kernel_rfl) ?_
    intro ν fr; have nuE := fr.nu
    simp (maxDischargeDepth := 16) only [argE_nil, argE_cons, ↓vmD, vmV, vmStd, Nat.reduceMul, ↓reduceIte, Nat.reduceAdd, Nat.reduceSub, Nat.reduceEqDiff, Nat.reduceLT, Nat.reduceLeDiff, reduceCtorEq, Int.reduceToNat, Int.reduceLT, Int.reduceLE, Int.reduceEq, Int.reduceNeg, Int.reduceBEq, Int.reduceBNe, String.reduceEq, forall_const, ↓vmDA, vmVA, ↓vmQA, vmR, vmRA, ↓vmSA, vmSV, tyS, nuE, SubA.skip, SubA.refl, fr.2, vbRsX, lt]
    rw [hx]; rfl
  | cons x l ih =>
    obtain ⟨ha, hlt, hd', htk⟩ := drop_some hd
    have lt : ((e : Int) < (T.length : Int)) = True := eq_true (by omega)
    have we : IntKind.i64.wrap ((e : Int) + 1) = ((e + 1 : Nat) : Int) := by rw [w_i64 (by omega) (by omega)]; omega
    obtain ⟨bk, off, cs, ty, fr0, hp0, hbk, hcr, hcc⟩ := hT.1.at ha
    subst hp0
    have hc0 : cs[off + e * 1]? = some (.string (bs x)) := hcc 0 _ rfl
    have t1 : ((bs s).toList = (bs x).toList) = (s = x) := by rw [bs_list, bs_list]
    refine LoopA.intro (by kernel_rfl) ?_
    intro ν fr; have nuE := fr.nu
    by_cases hs : x = s
    · have hs' := eq_true hs.symm
      simp (maxDischargeDepth := 16) only [argE_nil, argE_cons, ↓vmD, vmV, vmStd, Nat.reduceMul, ↓reduceIte, Nat.reduceAdd, Nat.reduceSub, Nat.reduceEqDiff, Nat.reduceLT, Nat.reduceLeDiff, reduceCtorEq, Int.reduceToNat, Int.reduceLT, Int.reduceLE, Int.reduceEq, Int.reduceNeg, Int.reduceBEq, Int.reduceBNe, String.reduceEq, forall_const, ↓vmDA, vmVA, ↓vmQA, vmR, vmRA, ↓vmSA, vmSV, tyS, nuE, SubA.skip, SubA.refl, fr.2, vbRsX, lt, hbk, hc0, t1, hs', we]
      subst hs
      rw [hx]; simp [idxT, optI]
    · have hs' := eq_false (fun h : s = x => hs h.symm)
      simp (maxDischargeDepth := 16) only [argE_nil, argE_cons, ↓vmD, vmV, vmStd, Nat.reduceMul, ↓reduceIte, Nat.reduceAdd, Nat.reduceSub, Nat.reduceEqDiff, Nat.reduceLT, Nat.reduceLeDiff, reduceCtorEq, Int.reduceToNat, Int.reduceLT, Int.reduceLE, Int.reduceEq, Int.reduceNeg, Int.reduceBEq, Int.reduceBNe, String.reduceEq, forall_const, ↓vmDA, vmVA, ↓vmQA, vmR, vmRA, ↓vmSA, vmSV, tyS, nuE, SubA.skip, SubA.refl, fr.2, vbRsX, lt, hbk, hc0, t1, hs', we]
      exact LoopA.weak (ih (e + 1) hd' (by omega) (by rw [hx]; simp only [idxT, if_neg hs, Option.map_map]; congr 1; funext i; simp only [Function.comp]; omega)) (by simp only [subE, get_cons, Nat.reduceEqDiff, ↓reduceIte, reduceCtorEq, Nat.reduceAdd, and_self, and_true]) (SubA.refl _)
theorem indexS_w (A : AH) (T : List Txt) (p : Option Addr) (cap : Nat) (s : Txt) (hT : TxR A p cap T) (B_ : AH) (hB_ : SubA A B_) : valA Tryd.prog 81 #[.slice p T.length cap, .string (bs s)] B_ = some (.int .i64 (optI (idxT s T))) := valA_eq (pureA_at (by kernel_rfl) (indexS_h A T p cap s hT) hB_)
theorem indexS_v (A : AH) (T : List Txt) (p : Option Addr) (cap : Nat) (s : Txt) (hT : TxR A p cap T) : valA Tryd.prog 81 #[.slice p T.length cap, .string (bs s)] A = some (.int .i64 (optI (idxT s T))) := valA_eq (pureA_at (by kernel_rfl) (indexS_h A T p cap s hT) (SubA.refl _))
theorem containsS_h (A : AH) (T : List Txt) (p : Option Addr) (cap : Nat) (s : Txt) (hT : TxR A p cap T) : CallA Tryd.prog 68 #[.slice p T.length cap, .string (bs s)] A (fun u_ A_ => u_ = .bool (decide (s ∈ T)) ∧ SubA A A_) := by
  refine callA_of_denA ⟨Tryd.prog, 68, Tryd.f68, 9, [0, 1, 4], [], [], _⟩ (args := [_, _]) Tryd.func68 rfl (by kernel_rfl) Tryd.ntmps68 (by simp) (by kernel_rfl) ?_
  intro ν fr; have nuE := fr.nu
  have iv := indexS_w A T p cap s hT
  have hm := idxT_mem s T
  cases hi : idxT s T with
  | none =>
    rw [hi] at hm iv
    have hm' : decide (s ∈ T) = false := hm.symm
    simp (maxDischargeDepth := 16) only [argE_nil, argE_cons, ↓vmD, vmV, vmStd, Nat.reduceMul, ↓reduceIte, Nat.reduceAdd, Nat.reduceSub, Nat.reduceEqDiff, Nat.reduceLT, Nat.reduceLeDiff, reduceCtorEq, Int.reduceToNat, Int.reduceLT, Int.reduceLE, Int.reduceEq, Int.reduceNeg, Int.reduceBEq, Int.reduceBNe, String.reduceEq, forall_const, ↓vmDA, vmVA, ↓vmQA, vmR, vmRA, ↓vmSA, vmSV, tyS, nuE, SubA.skip, SubA.refl, fr.2, vbRsX, iv, optI, hm']
  | some i =>
    rw [hi] at hm iv
    have hm' : decide (s ∈ T) = true := hm.symm
    have h0 : (0 ≤ (i : Int)) := by omega
    simp (maxDischargeDepth := 16) only [argE_nil, argE_cons, ↓vmD, vmV, vmStd, Nat.reduceMul, ↓reduceIte, Nat.reduceAdd, Nat.reduceSub, Nat.reduceEqDiff, Nat.reduceLT, Nat.reduceLeDiff, reduceCtorEq, Int.reduceToNat, Int.reduceLT, Int.reduceLE, Int.reduceEq, Int.reduceNeg, Int.reduceBEq, Int.reduceBNe, String.reduceEq, forall_const, ↓vmDA, vmVA, ↓vmQA, vmR, vmRA, ↓vmSA, vmSV, tyS, nuE, SubA.skip, SubA.refl, fr.2, vbRsX, iv, optI, hm', h0]
theorem containsS_w (A : AH) (T : List Txt) (p : Option Addr) (cap : Nat) (s : Txt) (hT : TxR A p cap T) (B_ : AH) (hB_ : SubA A B_) : valA Tryd.prog 68 #[.slice p T.length cap, .string (bs s)] B_ = some (.bool (decide (s ∈ T))) := valA_eq (pureA_at (by kernel_rfl) (containsS_h A T p cap s hT) hB_)
theorem containsS_v (A : AH) (T : List Txt) (p : Option Addr) (cap : Nat) (s : Txt) (hT : TxR A p cap T) : valA Tryd.prog 68 #[.slice p T.length cap, .string (bs s)] A = some (.bool (decide (s ∈ T))) := valA_eq (pureA_at (by kernel_rfl) (containsS_h A T p cap s hT) (SubA.refl _))
theorem isOneOf_h (A : AH) (T : List Txt) (p : Option Addr) (cap : Nat) (s : Txt) (hT : TxR A p cap T) : CallA Tryd.prog 49 #[.string (bs s), .slice p T.length cap] A (fun u_ A_ => u_ = .bool (decide (s ∈ T)) ∧ SubA A A_) := by
  refine callA_of_denA ⟨Tryd.prog, 49, Tryd.f49, 8, [0, 1, 4], [], [], _⟩ (args := [_, _]) Tryd.func49 rfl (by kernel_rfl) Tryd.ntmps49 (by simp) (by kernel_rfl) ?_
  intro ν fr; have nuE := fr.nu
  have cv := containsS_w A T p cap s hT
  simp (maxDischargeDepth := 16) only [argE_nil, argE_cons, ↓vmD, vmV, vmStd, Nat.reduceMul, ↓reduceIte, Nat.reduceAdd, Nat.reduceSub, Nat.reduceEqDiff, Nat.reduceLT, Nat.reduceLeDiff, reduceCtorEq, Int.reduceToNat, Int.reduceLT, Int.reduceLE, Int.reduceEq, Int.reduceNeg, Int.reduceBEq, Int.reduceBNe, String.reduceEq, forall_const, ↓vmDA, vmVA, ↓vmQA, vmR, vmRA, ↓vmSA, vmSV, tyS, nuE, SubA.skip, SubA.refl, fr.2, vbRsX, cv]
theorem isOneOf_w (A : AH) (T : List Txt) (p : Option Addr) (cap : Nat) (s : Txt) (hT : TxR A p cap T) (B_ : AH) (hB_ : SubA A B_) : valA Tryd.prog 49 #[.string (bs s), .slice p T.length cap] B_ = some (.bool (decide (s ∈ T))) := valA_eq (pureA_at (by kernel_rfl) (isOneOf_h A T p cap s hT) hB_)
theorem isOneOf_v (A : AH) (T : List Txt) (p : Option Addr) (cap : Nat) (s : Txt) (hT : TxR A p cap T) : valA Tryd.prog 49 #[.string (bs s), .slice p T.length cap] A = some (.bool (decide (s ∈ T))) := valA_eq (pureA_at (by kernel_rfl) (isOneOf_h A T p cap s hT) (SubA.refl _))
theorem possible_h (n : Int) : CallA Tryd.prog 31 #[.int .i64 n] [] (fun u_ _ => u_ = .bool (okD n)) := by
  refine callA_of_denA ⟨Tryd.prog, 31, Tryd.f31, 9, [0, 2], [], [], _⟩ (args := [_]) Tryd.func31 rfl (by kernel_rfl) Tryd.ntmps31 (by simp) (by kernel_rfl) ?_
  intro ν fr; have nuE := fr.nu
  simp (maxDischargeDepth := 16) only [argE_nil, argE_cons, ↓vmD, vmV, vmStd, Nat.reduceMul, ↓reduceIte, Nat.reduceAdd, Nat.reduceSub, Nat.reduceEqDiff, Nat.reduceLT, Nat.reduceLeDiff, reduceCtorEq, Int.reduceToNat, Int.reduceLT, Int.reduceLE, Int.reduceEq, Int.reduceNeg, Int.reduceBEq, Int.reduceBNe, String.reduceEq, forall_const, ↓vmDA, vmVA, ↓vmQA, vmR, vmRA, ↓vmSA, vmSV, tyS, nuE, SubA.skip, SubA.refl, fr.2, vbRsX]
  unfold okD
  all_goals ((repeat' split) <;> (try simp_all) <;> (try omega))
theorem possible_v (n : Int) (A_ : AH) : valA Tryd.prog 31 #[.int .i64 n] A_ = some (.bool (okD n)) := valA_eq (pureA_of (by kernel_rfl) (possible_h n))
theorem checkKinds_h (A : AH) (T : List Txt) (p : Option Addr) (cap : Nat) (hT : TxR A p cap T) : CallA Tryd.prog 32 #[.slice p T.length cap] A (fun u_ A_ => u_ = .int .i64 (kindsE T) ∧ SubA A A_) := by
  refine callA_of_denA ⟨Tryd.prog, 32, Tryd.f32, 29, [0, 2, 3, 4, 8, 9, 10], [], [], _⟩ (args := [_]) Tryd.func32 rfl (by kernel_rfl) Tryd.ntmps32 (by simp) (by kernel_rfl) ?_
  intro ν fr; have nuE := fr.nu
  have hcap := hT.2
  by_cases h8 : 8 < T.length
  · have h8' : ((8 : Int) < (T.length : Int)) = True := eq_true (by omega)
    have hk : kindsE T = 3 := if_pos h8
    simp (maxDischargeDepth := 16) only [argE_nil, argE_cons, ↓vmD, vmV, vmStd, Nat.reduceMul, ↓reduceIte, Nat.reduceAdd, Nat.reduceSub, Nat.reduceEqDiff, Nat.reduceLT, Nat.reduceLeDiff, reduceCtorEq, Int.reduceToNat, Int.reduceLT, Int.reduceLE, Int.reduceEq, Int.reduceNeg, Int.reduceBEq, Int.reduceBNe, String.reduceEq, forall_const, ↓vmDA, vmVA, ↓vmQA, vmR, vmRA, ↓vmSA, vmSV, tyS, nuE, SubA.skip, SubA.refl, fr.2, vbRsX, possible_v, h8', hk]
  have h8' : ((8 : Int) < (T.length : Int)) = False := eq_false (by omega)
  simp (maxDischargeDepth := 16) only [argE_nil, argE_cons, ↓vmD, vmV, vmStd, Nat.reduceMul, ↓reduceIte, Nat.reduceAdd, Nat.reduceSub, Nat.reduceEqDiff, Nat.reduceLT, Nat.reduceLeDiff, reduceCtorEq, Int.reduceToNat, Int.reduceLT, Int.reduceLE, Int.reduceEq, Int.reduceNeg, Int.reduceBEq, Int.reduceBNe, String.reduceEq, forall_const, ↓vmDA, vmVA, ↓vmQA, vmR, vmRA, ↓vmSA, vmSV, tyS, nuE, SubA.skip, SubA.refl, fr.2, vbRsX, possible_v, h8']
  obtain ⟨e, l, he, hd, hle, hx⟩ : ∃ (e : Nat) (l : List Txt), e = 0 ∧ l = T.drop e ∧ e ≤ T.length ∧ kindsE T = kindsG (T.take e) l := ⟨0, T, rfl, rfl, by omega, if_neg h8⟩
  rw [show (10, some (Value.int .i64 0)) = (10, some (Value.int .i64 (e : Int))) by rw [he]; rfl]
  clear he nuE fr
  induction l generalizing e with
  | nil =>
    obtain ⟨hn1, hn2⟩ := drop_nil hd hle
    have lt : ((e : Int) < (T.length : Int)) = False := eq_false (by omega)
    refine LoopA.intro (by kernel_rfl) ?_
    intro ν fr; have nuE := fr.nu
    simp (maxDischargeDepth := 16) only [argE_nil, argE_cons, ↓vmD, vmV, vmStd, Nat.reduceMul, ↓reduceIte, Nat.reduceAdd, Nat.reduceSub, Nat.reduceEqDiff, Nat.reduceLT, Nat.reduceLeDiff, reduceCtorEq, Int.reduceToNat, Int.reduceLT, Int.reduceLE, Int.reduceEq, Int.reduceNeg, Int.reduceBEq, Int.reduceBNe, String.reduceEq, forall_const, ↓vmDA, vmVA, ↓vmQA, vmR, vmRA, ↓vmSA, vmSV, tyS, nuE, SubA.skip, SubA.refl, fr.2, vbRsX, possible_v, lt]
    rw [hx]; rfl
  | cons x l ih =>
    obtain ⟨ha, hlt, hd', htk⟩ := drop_some hd
    have lt : ((e : Int) < (T.length : Int)) = True := eq_true (by omega)
    have we : IntKind.i64.wrap ((e : Int) + 1) = ((e + 1 : Nat) : Int) := by rw [w_i64 (by omega) (by omega)]; omega
    obtain ⟨bk, off, cs, ty, fr0, hp0, hbk, hcr, hcc⟩ := hT.1.at ha
    subst hp0
    have hc0 : cs[off + e * 1]? = some (.string (bs x)) := hcc 0 _ rfl
    refine LoopA.intro (by kernel_rfl) ?_
    intro ν fr; have nuE := fr.nu
    have iv := isOneOf_w [(ν 0, .cells #[.string ⟨#[99, 108, 97, 105, 109]⟩, .string ⟨#[100, 101, 102, 101, 110, 99, 101]⟩] 9)] [claimT, defenceT] (some ⟨ν 0, 0, none⟩) 2 x (TxR.at (ν 0) 9 [claimT, defenceT] (by simp))
    have i1 := fun B hB => isOneOf_w A (T.take e) (some ⟨bk, off, none⟩) cap x ⟨StR.take hT.1 e, by rw [List.length_take]; omega, hT.2.2⟩ B hB
    have htl : (T.take e).length = e := by rw [List.length_take]; omega
    rw [htl] at i1
    simp only [List.length_cons, List.length_nil, Nat.reduceAdd] at iv
    have f0 := fr.2 0
    have i2 := i1 _ (SubA.fresh (o := Obj.cells #[.string ⟨#[99, 108, 97, 105, 109]⟩, .string ⟨#[100, 101, 102, 101, 110, 99, 101]⟩] 9) f0 (SubA.refl A))
    have hk : decide (x ∈ [claimT, defenceT]) = (decide (x = claimT) || decide (x = defenceT)) := by simp [Bool.decide_or]
    have iv' := iv _ (SubA.left [_] A)
    simp only [List.cons_append, List.nil_append] at iv'
    rw [hk] at iv'
    have hcl : (e : Int) ≤ (T.length : Int) := by omega
    have hcl2 : (e : Int) ≤ (cap : Int) := by omega
    simp (maxDischargeDepth := 16) only [argE_nil, argE_cons, ↓vmD, vmV, vmStd, Nat.reduceMul, ↓reduceIte, Nat.reduceAdd, Nat.reduceSub, Nat.reduceEqDiff, Nat.reduceLT, Nat.reduceLeDiff, reduceCtorEq, Int.reduceToNat, Int.reduceLT, Int.reduceLE, Int.reduceEq, Int.reduceNeg, Int.reduceBEq, Int.reduceBNe, String.reduceEq, forall_const, ↓vmDA, vmVA, ↓vmQA, vmR, vmRA, ↓vmSA, vmSV, tyS, nuE, SubA.skip, SubA.refl, fr.2, vbRsX, possible_v, lt, hbk, hc0, we, sc_s2, iv', i2, hcl, hcl2, ite_self, Nat.sub_zero]
    have hkx : kindF x = (nameF (bs x) && (!decide (x = claimT) && !decide (x = defenceT))) := rfl
    cases h1 : nameF (bs x) with
    | false => rw [hx]; simp [kindsG, hkx, h1]
    | true =>
      simp only [if_true]
      by_cases h2 : x = claimT ∨ x = defenceT
      · have h3 : kindF x = false := by rw [hkx]; rcases h2 with h2 | h2 <;> simp [h2]
        rw [if_pos h2, hx]; simp [kindsG, h3]
      · have h3 : kindF x = true := by rw [hkx, h1]; simp only [not_or] at h2; simp [h2]
        rw [if_neg h2]
        by_cases h4 : x ∈ T.take e
        · rw [if_pos h4, hx]; simp [kindsG, h3, h4]
        · rw [if_neg h4]
          exact LoopA.at (SubA.fresh f0 (SubA.refl _)) (LoopA.weak (ih (e + 1) hd' (by omega) (by rw [hx, htk]; simp [kindsG, h3, h4])) (by simp only [subE, get_cons, Nat.reduceEqDiff, ↓reduceIte, reduceCtorEq, Nat.reduceAdd, and_self, and_true]) (SubA.refl _))
theorem checkKinds_w (A : AH) (T : List Txt) (p : Option Addr) (cap : Nat) (hT : TxR A p cap T) (B_ : AH) (hB_ : SubA A B_) : valA Tryd.prog 32 #[.slice p T.length cap] B_ = some (.int .i64 (kindsE T)) := valA_eq (pureA_at (by kernel_rfl) (checkKinds_h A T p cap hT) hB_)
theorem checkKinds_v (A : AH) (T : List Txt) (p : Option Addr) (cap : Nat) (hT : TxR A p cap T) : valA Tryd.prog 32 #[.slice p T.length cap] A = some (.int .i64 (kindsE T)) := valA_eq (pureA_at (by kernel_rfl) (checkKinds_h A T p cap hT) (SubA.refl _))
theorem days_h (r : Rs) (st : Int) : CallA Tryd.prog 18 #[.agg #[.string (bs r.d.code), .int .i64 r.d.d1, .int .i64 r.d.d2, .int .i64 r.d.d3, .int .i64 r.d.d4, .slice r.p1 r.d.cl.length r.c1, .slice r.p2 r.d.df.length r.c2], .int .i64 st] [] (fun u_ _ => u_ = .tuple #[.int .i64 (daysF r.d st).1, .int .i64 (daysF r.d st).2]) := by
  refine callA_of_denA ⟨Tryd.prog, 18, Tryd.f18, 23, [0, 1, 2, 4, 5, 6], [], [], _⟩ (args := [_, _]) Tryd.func18 rfl (by kernel_rfl) Tryd.ntmps18 (by simp) (by kernel_rfl) ?_
  intro ν fr; have nuE := fr.nu
  simp (maxDischargeDepth := 16) only [argE_nil, argE_cons, ↓vmD, vmV, vmStd, Nat.reduceMul, ↓reduceIte, Nat.reduceAdd, Nat.reduceSub, Nat.reduceEqDiff, Nat.reduceLT, Nat.reduceLeDiff, reduceCtorEq, Int.reduceToNat, Int.reduceLT, Int.reduceLE, Int.reduceEq, Int.reduceNeg, Int.reduceBEq, Int.reduceBNe, String.reduceEq, forall_const, ↓vmDA, vmVA, ↓vmQA, vmR, vmRA, ↓vmSA, vmSV, tyS, nuE, SubA.skip, SubA.refl, fr.2, vbRsX, possible_v]
  unfold daysF
  all_goals ((repeat' split) <;> (try simp_all) <;> (try omega))
theorem days_v (r : Rs) (st : Int) (A_ : AH) : valA Tryd.prog 18 #[.agg #[.string (bs r.d.code), .int .i64 r.d.d1, .int .i64 r.d.d2, .int .i64 r.d.d3, .int .i64 r.d.d4, .slice r.p1 r.d.cl.length r.c1, .slice r.p2 r.d.df.length r.c2], .int .i64 st] A_ = some (.tuple #[.int .i64 (daysF r.d st).1, .int .i64 (daysF r.d st).2]) := valA_eq (pureA_of (by kernel_rfl) (days_h r st))
theorem due_h (r : Rs) (st date : Int) : CallA Tryd.prog 20 #[.agg #[.string (bs r.d.code), .int .i64 r.d.d1, .int .i64 r.d.d2, .int .i64 r.d.d3, .int .i64 r.d.d4, .slice r.p1 r.d.cl.length r.c1, .slice r.p2 r.d.df.length r.c2], .int .i64 st, .int .i64 date] [] (fun u_ _ => u_ = .tuple #[.int .i64 (dueF r.d st date).1, .int .i64 (dueF r.d st date).2]) := by
  refine callA_of_denA ⟨Tryd.prog, 20, Tryd.f20, 37, [0, 1, 2, 3, 6, 7, 8, 9], [], [], _⟩ (args := [_, _, _]) Tryd.func20 rfl (by kernel_rfl) Tryd.ntmps20 (by simp) (by kernel_rfl) ?_
  intro ν fr; have nuE := fr.nu
  simp (maxDischargeDepth := 16) only [argE_nil, argE_cons, ↓vmD, vmV, vmStd, Nat.reduceMul, ↓reduceIte, Nat.reduceAdd, Nat.reduceSub, Nat.reduceEqDiff, Nat.reduceLT, Nat.reduceLeDiff, reduceCtorEq, Int.reduceToNat, Int.reduceLT, Int.reduceLE, Int.reduceEq, Int.reduceNeg, Int.reduceBEq, Int.reduceBNe, String.reduceEq, forall_const, ↓vmDA, vmVA, ↓vmQA, vmR, vmRA, ↓vmSA, vmSV, tyS, nuE, SubA.skip, SubA.refl, fr.2, vbRsX, possible_v, days_v]
  unfold dueF
  by_cases h1 : (daysF r.d st).2 = 0
  · simp only [h1, not_true_eq_false, ne_eq, if_false]
    cases h2 : okD (daysF r.d st).1 with
    | false => simp
    | true =>
      simp only [Bool.true_eq_false, if_false]
      simp only [okD, Bool.and_eq_true, decide_eq_true_eq] at h2
      by_cases h3 : date < 0 ∨ 99999 < date
      · have h3' : date < 0 ∨ 99999 < date ∨ 99999 < date + (daysF r.d st).1 := by omega
        simp only [h3, h3', true_or, if_true]
      · have w : IntKind.i64.wrap (date + (daysF r.d st).1) = date + (daysF r.d st).1 := w_i64 (by omega) (by omega)
        rw [w]
        by_cases h4 : 99999 < date + (daysF r.d st).1
        · have h4' : date < 0 ∨ 99999 < date ∨ 99999 < date + (daysF r.d st).1 := by omega
          rw [if_pos h4', if_pos (.inr h4)]
        · have h4' : ¬ (date < 0 ∨ 99999 < date ∨ 99999 < date + (daysF r.d st).1) := by omega
          rw [if_neg h4', if_neg (by omega)]
  · simp only [h1, ne_eq, not_false_eq_true, if_true]
theorem due_v (r : Rs) (st date : Int) (A_ : AH) : valA Tryd.prog 20 #[.agg #[.string (bs r.d.code), .int .i64 r.d.d1, .int .i64 r.d.d2, .int .i64 r.d.d3, .int .i64 r.d.d4, .slice r.p1 r.d.cl.length r.c1, .slice r.p2 r.d.df.length r.c2], .int .i64 st, .int .i64 date] A_ = some (.tuple #[.int .i64 (dueF r.d st date).1, .int .i64 (dueF r.d st date).2]) := valA_eq (pureA_of (by kernel_rfl) (due_h r st date))
theorem needs_h (A : AH) (r : Rs) (st : Int) (hr : InR A r) (hl : r.d.cl.length ≤ 8000000000000 ∧ r.d.df.length ≤ 8000000000000) : CallA Tryd.prog 23 #[.agg #[.string (bs r.d.code), .int .i64 r.d.d1, .int .i64 r.d.d2, .int .i64 r.d.d3, .int .i64 r.d.d4, .slice r.p1 r.d.cl.length r.c1, .slice r.p2 r.d.df.length r.c2], .int .i64 st] A (fun u_ A_ => ∃ v B, u_ = v ∧ OwnL strC 1 9 v B (needsF r.d st) ∧ Dis B A ∧ SubA (B ++ A) A_) := by
  refine callA_of_denA ⟨Tryd.prog, 23, Tryd.f23, 16, [0, 1, 2, 4, 5], [29], [], _⟩ (args := [_, _]) Tryd.func23 rfl (by kernel_rfl) Tryd.ntmps23 (by simp) (by kernel_rfl) ?_
  intro ν fr; have nuE := fr.nu
  have f0 := fr.2 0
  by_cases s1 : st = 1
  · have s1' := eq_true s1
    simp (maxDischargeDepth := 16) only [argE_nil, argE_cons, ↓vmD, vmV, vmStd, Nat.reduceMul, ↓reduceIte, Nat.reduceAdd, Nat.reduceSub, Nat.reduceEqDiff, Nat.reduceLT, Nat.reduceLeDiff, reduceCtorEq, Int.reduceToNat, Int.reduceLT, Int.reduceLE, Int.reduceEq, Int.reduceNeg, Int.reduceBEq, Int.reduceBNe, String.reduceEq, forall_const, ↓vmDA, vmVA, ↓vmQA, vmR, vmRA, ↓vmSA, vmSV, tyS, nuE, SubA.skip, SubA.refl, fr.2, vbRsX, possible_v, days_v, due_v, s1']
    refine CallA.new (cloneS_h A _ _ _ hr.1 hl.1) (SubA.fresh f0 (SubA.refl _)) ?_
    intro v B ho hd
    intro ν fr; have nuE := fr.nu
    simp (maxDischargeDepth := 16) only [argE_nil, argE_cons, ↓vmD, vmV, vmStd, Nat.reduceMul, ↓reduceIte, Nat.reduceAdd, Nat.reduceSub, Nat.reduceEqDiff, Nat.reduceLT, Nat.reduceLeDiff, reduceCtorEq, Int.reduceToNat, Int.reduceLT, Int.reduceLE, Int.reduceEq, Int.reduceNeg, Int.reduceBEq, Int.reduceBNe, String.reduceEq, forall_const, ↓vmDA, vmVA, ↓vmQA, vmR, vmRA, ↓vmSA, vmSV, tyS, nuE, SubA.skip, SubA.refl, fr.2, vbRsX, possible_v, days_v, due_v]
    exact ⟨v, B, rfl, by simpa [needsF, s1] using ho, Dis.subr hd (SubA.fresh f0 (SubA.refl _)), SubA.app (SubA.fresh f0 (SubA.refl _))⟩
  · have s1' := eq_false s1
    by_cases s2 : st = 2
    · have s2' := eq_true s2
      simp (maxDischargeDepth := 16) only [argE_nil, argE_cons, ↓vmD, vmV, vmStd, Nat.reduceMul, ↓reduceIte, Nat.reduceAdd, Nat.reduceSub, Nat.reduceEqDiff, Nat.reduceLT, Nat.reduceLeDiff, reduceCtorEq, Int.reduceToNat, Int.reduceLT, Int.reduceLE, Int.reduceEq, Int.reduceNeg, Int.reduceBEq, Int.reduceBNe, String.reduceEq, forall_const, ↓vmDA, vmVA, ↓vmQA, vmR, vmRA, ↓vmSA, vmSV, tyS, nuE, SubA.skip, SubA.refl, fr.2, vbRsX, possible_v, days_v, due_v, s1', s2']
      refine CallA.new (cloneS_h A _ _ _ hr.2 hl.2) (SubA.fresh f0 (SubA.refl _)) ?_
      intro v B ho hd
      intro ν fr; have nuE := fr.nu
      simp (maxDischargeDepth := 16) only [argE_nil, argE_cons, ↓vmD, vmV, vmStd, Nat.reduceMul, ↓reduceIte, Nat.reduceAdd, Nat.reduceSub, Nat.reduceEqDiff, Nat.reduceLT, Nat.reduceLeDiff, reduceCtorEq, Int.reduceToNat, Int.reduceLT, Int.reduceLE, Int.reduceEq, Int.reduceNeg, Int.reduceBEq, Int.reduceBNe, String.reduceEq, forall_const, ↓vmDA, vmVA, ↓vmQA, vmR, vmRA, ↓vmSA, vmSV, tyS, nuE, SubA.skip, SubA.refl, fr.2, vbRsX, possible_v, days_v, due_v]
      exact ⟨v, B, rfl, by simpa [needsF, s2] using ho, Dis.subr hd (SubA.fresh f0 (SubA.refl _)), SubA.app (SubA.fresh f0 (SubA.refl _))⟩
    · have s2' := eq_false s2
      simp (maxDischargeDepth := 16) only [argE_nil, argE_cons, ↓vmD, vmV, vmStd, Nat.reduceMul, ↓reduceIte, Nat.reduceAdd, Nat.reduceSub, Nat.reduceEqDiff, Nat.reduceLT, Nat.reduceLeDiff, reduceCtorEq, Int.reduceToNat, Int.reduceLT, Int.reduceLE, Int.reduceEq, Int.reduceNeg, Int.reduceBEq, Int.reduceBNe, String.reduceEq, forall_const, ↓vmDA, vmVA, ↓vmQA, vmR, vmRA, ↓vmSA, vmSV, tyS, nuE, SubA.skip, SubA.refl, fr.2, vbRsX, possible_v, days_v, due_v, s1', s2']
      exact ⟨_, [], rfl, by simp only [needsF, s1, s2, if_false]; exact OwnL.nil _ _ _, Dis.nil _, SubA.fresh f0 (SubA.refl _)⟩

theorem find_h (A : AH) (L : List Rs) (p : Option Addr) (cap : Nat) (c : Txt) (hL : RsR A p L) (hl : ∀ r ∈ L, r.d.cl.length ≤ 8000000000000 ∧ r.d.df.length ≤ 8000000000000) (hl2 : L.length ≤ 8000000000000) : CallA Tryd.prog 11 #[.slice p L.length cap, .string (bs c)] A (fun u_ A_ => ∃ r B, u_ = .tuple #[.agg (rsC r).toArray, .bool (findR c (L.map Rs.d)).isSome] ∧ r.d = (findR c (L.map Rs.d)).getD noRn ∧ InR (B ++ A) r ∧ Dis B A ∧ SubA (B ++ A) A_) := by
  refine callA_of_denA ⟨Tryd.prog, 11, Tryd.f11, 29, [0, 1, 4, 5, 7, 8, 9, 10], [29], [], _⟩ (args := [_, _]) Tryd.func11 rfl (by kernel_rfl) Tryd.ntmps11 (by simp) (by kernel_rfl) ?_
  intro ν fr; have nuE := fr.nu
  have hsz : (L.length : Int) ≤ 9223372036854775807 := by omega
  simp (maxDischargeDepth := 16) only [argE_nil, argE_cons, ↓vmD, vmV, vmStd, Nat.reduceMul, ↓reduceIte, Nat.reduceAdd, Nat.reduceSub, Nat.reduceEqDiff, Nat.reduceLT, Nat.reduceLeDiff, reduceCtorEq, Int.reduceToNat, Int.reduceLT, Int.reduceLE, Int.reduceEq, Int.reduceNeg, Int.reduceBEq, Int.reduceBNe, String.reduceEq, forall_const, ↓vmDA, vmVA, ↓vmQA, vmR, vmRA, ↓vmSA, vmSV, tyS, nuE, SubA.skip, SubA.refl, fr.2, vbRsX, possible_v, days_v, due_v]
  obtain ⟨b0, hb0⟩ : ∃ b0, b0 = ν 0 := ⟨_, rfl⟩
  rw [← hb0]
  have f0 : Vm.look A b0 = none := by rw [hb0]; exact fr.2 0
  obtain ⟨e, l, he, hd, hle, hx⟩ : ∃ (e : Nat) (l : List Rs), e = 0 ∧ l = L.drop e ∧ e ≤ L.length ∧ findR c (L.map Rs.d) = findR c (l.map Rs.d) := ⟨0, L, rfl, rfl, by omega, rfl⟩
  rw [show (10, some (Value.int .i64 0)) = (10, some (Value.int .i64 (e : Int))) by rw [he]; rfl]
  clear he nuE fr
  induction l generalizing e with
  | nil =>
    obtain ⟨hn1, hn2⟩ := drop_nil hd hle
    have lt : ((e : Int) < (L.length : Int)) = False := eq_false (by omega)
    refine LoopA.intro (by kernel_rfl) ?_
    intro ν fr; have nuE := And.intro (fr.mem (b := b0) (by simp)) (fr.nu)
    simp (maxDischargeDepth := 16) only [argE_nil, argE_cons, ↓vmD, vmV, vmStd, Nat.reduceMul, ↓reduceIte, Nat.reduceAdd, Nat.reduceSub, Nat.reduceEqDiff, Nat.reduceLT, Nat.reduceLeDiff, reduceCtorEq, Int.reduceToNat, Int.reduceLT, Int.reduceLE, Int.reduceEq, Int.reduceNeg, Int.reduceBEq, Int.reduceBNe, String.reduceEq, forall_const, ↓vmDA, vmVA, ↓vmQA, vmR, vmRA, ↓vmSA, vmSV, tyS, nuE, SubA.skip, SubA.refl, fr.2, vbRsX, possible_v, days_v, due_v, lt]
    rw [hx]
    exact ⟨noRs, [], rfl, rfl, ⟨TxR.nil, TxR.nil⟩, Dis.nil _, SubA.fresh f0 (SubA.refl _)⟩
  | cons x l ih =>
    obtain ⟨ha, hlt, hd', htk⟩ := drop_some hd
    have lt : ((e : Int) < (L.length : Int)) = True := eq_true (by omega)
    have we : IntKind.i64.wrap ((e : Int) + 1) = ((e + 1 : Nat) : Int) := by rw [w_i64 (by omega) (by omega)]; omega
    obtain ⟨bk, off, cs, ty, fr0, hp0, hbk, hcr, hcc⟩ := hL.1.at ha
    subst hp0
    obtain ⟨n1, n2⟩ := look_ne f0 hbk
    have t1 : ((bs x.d.code).toList = (bs c).toList) = (x.d.code = c) := by rw [bs_list, bs_list]
    have hxm := List.mem_of_getElem? ha
    have hxr := hL.2 x hxm
    obtain ⟨y1, y2⟩ := hl x hxm
    refine LoopA.intro (by kernel_rfl) ?_
    intro ν fr; have nuE := And.intro (fr.mem (b := b0) (by simp)) (fr.nu)
    simp only [rsC] at hcr
    by_cases hc : x.d.code = c
    · have hc' := eq_true hc
      have f1 := fr.2 0
      simp (maxDischargeDepth := 16) only [argE_nil, argE_cons, ↓vmD, vmV, vmStd, Nat.reduceMul, ↓reduceIte, Nat.reduceAdd, Nat.reduceSub, Nat.reduceEqDiff, Nat.reduceLT, Nat.reduceLeDiff, reduceCtorEq, Int.reduceToNat, Int.reduceLT, Int.reduceLE, Int.reduceEq, Int.reduceNeg, Int.reduceBEq, Int.reduceBNe, String.reduceEq, forall_const, ↓vmDA, vmVA, ↓vmQA, vmR, vmRA, ↓vmSA, vmSV, tyS, nuE, SubA.skip, SubA.refl, fr.2, vbRsX, possible_v, days_v, due_v, lt, hbk, hcr, n1, n2, t1, hc', we]
      have dst_ : ((ν 0 = b0) = False) ∧ ((b0 = ν 0) = False) := (by simp [nuE]); generalize ν 0 = n0 at dst_  f1 ⊢
      have f2 : Vm.look A n0 = none := (SubA.fresh (o := Obj.cells (rsC noRs).toArray 27) f0 (SubA.refl A)).none f1
      refine CallA.newX (cloneS_h A _ _ _ hxr.1 y1) (SubA.skip f2 (SubA.fresh f0 (SubA.refl _))) ?_
      intro v B ho hd
      have d1 := (Dis.headn hd)
      have d2 := (Dis.headn (Dis.tailn hd f1))
      have dA := (Dis.tailn (Dis.tailn hd f1) f0)
      obtain ⟨q, cap1, rfl, hq⟩ := own_tx ho
      refine ⟨_, SubA.trans (cons_in (cons_out d2)) (cons_out d1), ?_⟩
      intro ν fr; have nuE := And.intro (fr.mem (b := n0) (by simp)) (And.intro (fr.mem (b := b0) (by simp)) (And.intro dst_ fr.nu))
      simp (maxDischargeDepth := 16) only [argE_nil, argE_cons, ↓vmD, vmV, vmStd, Nat.reduceMul, ↓reduceIte, Nat.reduceAdd, Nat.reduceSub, Nat.reduceEqDiff, Nat.reduceLT, Nat.reduceLeDiff, reduceCtorEq, Int.reduceToNat, Int.reduceLT, Int.reduceLE, Int.reduceEq, Int.reduceNeg, Int.reduceBEq, Int.reduceBNe, String.reduceEq, forall_const, ↓vmDA, vmVA, ↓vmQA, vmR, vmRA, ↓vmSA, vmSV, tyS, nuE, SubA.skip, SubA.refl, fr.2, vbRsX, possible_v, days_v, due_v]
      refine CallA.newX (cloneS_h A _ _ _ hxr.2 y2) (SubA.skip f2 (SubA.skip f0 dA.right)) ?_
      intro v2 B2 ho2 hd2
      have g0 : Vm.look (B ++ A) b0 = none := look_app_none d2 f0
      have g1 : Vm.look ((b0, Obj.cells (rsC noRs).toArray 27) :: (B ++ A)) n0 = none := by
        have e1 : (b0 = n0) = False := dst_.2
        have := look_app_none d1 f2
        simp only [Vm.look, e1, if_false]; exact this
      have d3 := Dis.headn hd2
      have d4 := Dis.headn (Dis.tailn hd2 g1)
      have dBA := Dis.tailn (Dis.tailn hd2 g1) g0
      obtain ⟨q2, cap2, rfl, hq2⟩ := own_tx ho2
      refine ⟨_, SubA.trans (cons_in (cons_out d4)) (cons_out d3), ?_⟩
      intro ν fr; have nuE := And.intro (fr.mem (b := n0) (by simp)) (And.intro (fr.mem (b := b0) (by simp)) (And.intro dst_ fr.nu))
      simp (maxDischargeDepth := 16) only [argE_nil, argE_cons, ↓vmD, vmV, vmStd, Nat.reduceMul, ↓reduceIte, Nat.reduceAdd, Nat.reduceSub, Nat.reduceEqDiff, Nat.reduceLT, Nat.reduceLeDiff, reduceCtorEq, Int.reduceToNat, Int.reduceLT, Int.reduceLE, Int.reduceEq, Int.reduceNeg, Int.reduceBEq, Int.reduceBNe, String.reduceEq, forall_const, ↓vmDA, vmVA, ↓vmQA, vmR, vmRA, ↓vmSA, vmSV, tyS, nuE, SubA.skip, SubA.refl, fr.2, vbRsX, possible_v, days_v, due_v]
      rw [hx]
      have hB2 : Dis B2 B := Dis.subr dBA (SubA.left B A)
      have hf : findR c ((x :: l).map Rs.d) = some x.d := by simp only [List.map_cons, findR, if_pos hc]
      rw [hf]
      refine ⟨⟨x.d, q, cap1, q2, cap2⟩, B2 ++ B, rfl, rfl, ⟨hq.mono ?_, hq2.mono ?_⟩, (Dis.subr dBA dA.right).app dA, ?_⟩
      · exact SubA.trans hB2.right (SubA.left _ _)
      · exact SubA.trans (SubA.left B2 B) (SubA.left _ _)
      · rw [List.append_assoc]
        refine SubA.skip ?_ (SubA.skip ?_ (SubA.refl _))
        · exact look_app_none d3 (look_app_none d1 f2)
        · exact look_app_none d4 g0
    · have hc' := eq_false hc
      simp (maxDischargeDepth := 16) only [argE_nil, argE_cons, ↓vmD, vmV, vmStd, Nat.reduceMul, ↓reduceIte, Nat.reduceAdd, Nat.reduceSub, Nat.reduceEqDiff, Nat.reduceLT, Nat.reduceLeDiff, reduceCtorEq, Int.reduceToNat, Int.reduceLT, Int.reduceLE, Int.reduceEq, Int.reduceNeg, Int.reduceBEq, Int.reduceBNe, String.reduceEq, forall_const, ↓vmDA, vmVA, ↓vmQA, vmR, vmRA, ↓vmSA, vmSV, tyS, nuE, SubA.skip, SubA.refl, fr.2, vbRsX, possible_v, days_v, due_v, lt, hbk, hcr, n1, n2, t1, hc', we]
      refine LoopA.at (SubA.skip (fr.2 0) (SubA.refl _)) ?_
      exact LoopA.weak (ih (e + 1) hd' (by omega) (by rw [hx]; simp only [List.map_cons, findR, if_neg hc])) (by simp only [subE, get_cons, Nat.reduceEqDiff, ↓reduceIte, reduceCtorEq, Nat.reduceAdd, and_self, and_true]) (SubA.refl _)

set_option linter.unusedSimpArgs false
set_option linter.unusedVariables false
set_option maxHeartbeats 2000000
set_option maxRecDepth 20000
def BigR (L : List Rs) : Prop := ∀ r ∈ L, r.d.cl.length ≤ 8000000000000 ∧ r.d.df.length ≤ 8000000000000
theorem BigR.take {L : List Rs} (h : BigR L) (i : Nat) : BigR (L.take i) := fun r hr => h r (List.mem_of_mem_take hr)
theorem sc_i4 (a b c d : Int) : sliceCells Tryd.prog 51 4 [(0, .int .i64 a), (1, .int .i64 b), (2, .int .i64 c), (3, .int .i64 d)] = some (3, #[.int .i64 a, .int .i64 b, .int .i64 c, .int .i64 d]) := by kernel_rfl
theorem find_n (A : AH) (L : List Rs) (p : Option Addr) (cap : Nat) (c : Txt) (hL : RsR A p L) (hl : BigR L) (hl2 : L.length ≤ 8000000000000) : CallA Tryd.prog 11 #[.slice p L.length cap, .string (bs c)] A (fun u D => ∃ v B, u = v ∧ (∃ r : Rs, v = .tuple #[.agg (rsC r).toArray, .bool (findR c (L.map Rs.d)).isSome] ∧ r.d = (findR c (L.map Rs.d)).getD noRn ∧ InR (B ++ A) r) ∧ Dis B A ∧ SubA (B ++ A) D) :=
  (find_h A L p cap c hL hl hl2).mono fun u D ⟨r, B, h1, h2, h3, h4, h5⟩ => ⟨u, B, rfl, ⟨r, h1, h2, h3⟩, h4, h5⟩
theorem kindsE_len {l : List Txt} (h : kindsE l = 0) : l.length ≤ 8 := by
  unfold kindsE at h
  split at h
  · cases h
  · omega
theorem chkG_kinds : ∀ (l dn : List Rn), chkG dn l = 0 → ∀ r ∈ l, kindsE r.cl = 0 ∧ kindsE r.df = 0
  | [], _, _, _, h => by cases h
  | x :: l, dn, h, r, hr => by
    simp only [chkG] at h
    split at h
    · cases h
    split at h
    · cases h
    split at h
    · cases h
    split at h
    · rename_i q; exact absurd h q
    split at h
    · rename_i q; exact absurd h q
    rename_i q1 q2
    rcases List.mem_cons.1 hr with e | e
    · rw [e]; exact ⟨by simpa using q1, by simpa using q2⟩
    · exact chkG_kinds l _ h r e
theorem chkE_big {L : List Rs} (h : chkE (L.map Rs.d) = 0) : BigR L := fun r hr => by
  unfold chkE at h
  split at h
  · cases h
  have := chkG_kinds _ _ h r.d (List.mem_map_of_mem hr)
  have h1 := kindsE_len this.1
  have h2 := kindsE_len this.2
  omega
theorem chkR_h (A : AH) (L : List Rs) (p : Option Addr) (cap : Nat) (hL : RsR A p L) (hl : L.length ≤ cap ∧ cap ≤ 9223372036854775807) : CallA Tryd.prog 13 #[.slice p L.length cap] A (fun u_ A_ => u_ = .int .i64 (chkE (L.map Rs.d)) ∧ SubA A A_) := by
  refine callA_of_denA ⟨Tryd.prog, 13, Tryd.f13, 66, [0, 2, 3, 4, 6, 8, 9, 10, 14, 15, 16, 43, 44, 45], [11], [], _⟩ (args := [_]) Tryd.func13 rfl (by kernel_rfl) Tryd.ntmps13 (by simp) (by kernel_rfl) ?_
  intro ν fr; have nuE := fr.nu
  by_cases h8 : 32 < L.length
  · have h8' : ((32 : Int) < (L.length : Int)) = True := eq_true (by omega)
    have hk : chkE (L.map Rs.d) = 3 := if_pos (by simpa using h8)
    simp (maxDischargeDepth := 16) only [argE_nil, argE_cons, ↓vmD, vmV, vmStd, Nat.reduceMul, ↓reduceIte, Nat.reduceAdd, Nat.reduceSub, Nat.reduceEqDiff, Nat.reduceLT, Nat.reduceLeDiff, reduceCtorEq, Int.reduceToNat, Int.reduceLT, Int.reduceLE, Int.reduceEq, Int.reduceNeg, Int.reduceBEq, Int.reduceBNe, String.reduceEq, forall_const, ↓vmDA, vmVA, ↓vmQA, vmR, vmRA, ↓vmSA, vmSV, tyS, nuE, SubA.skip, SubA.refl, fr.2, vbRsX, possible_v, days_v, due_v, h8', hk]
  have h8' : ((32 : Int) < (L.length : Int)) = False := eq_false (by omega)
  simp (maxDischargeDepth := 16) only [argE_nil, argE_cons, ↓vmD, vmV, vmStd, Nat.reduceMul, ↓reduceIte, Nat.reduceAdd, Nat.reduceSub, Nat.reduceEqDiff, Nat.reduceLT, Nat.reduceLeDiff, reduceCtorEq, Int.reduceToNat, Int.reduceLT, Int.reduceLE, Int.reduceEq, Int.reduceNeg, Int.reduceBEq, Int.reduceBNe, String.reduceEq, forall_const, ↓vmDA, vmVA, ↓vmQA, vmR, vmRA, ↓vmSA, vmSV, tyS, nuE, SubA.skip, SubA.refl, fr.2, vbRsX, possible_v, days_v, due_v, h8']
  obtain ⟨e, l, he, hd, hle, hx, hbt⟩ : ∃ (e : Nat) (l : List Rs), e = 0 ∧ l = L.drop e ∧ e ≤ L.length ∧ chkE (L.map Rs.d) = chkG ((L.take e).map Rs.d) (l.map Rs.d) ∧ BigR (L.take e) := ⟨0, L, rfl, rfl, by omega, if_neg (by simpa using h8), fun r hr => by simp at hr⟩
  rw [show (16, some (Value.int .i64 0)) = (16, some (Value.int .i64 (e : Int))) by rw [he]; rfl]
  clear he nuE fr
  induction l generalizing e with
  | nil =>
    obtain ⟨hn1, hn2⟩ := drop_nil hd hle
    have lt : ((e : Int) < (L.length : Int)) = False := eq_false (by omega)
    refine LoopA.intro (by kernel_rfl) ?_
    intro ν fr; have nuE := fr.nu
    simp (maxDischargeDepth := 16) only [argE_nil, argE_cons, ↓vmD, vmV, vmStd, Nat.reduceMul, ↓reduceIte, Nat.reduceAdd, Nat.reduceSub, Nat.reduceEqDiff, Nat.reduceLT, Nat.reduceLeDiff, reduceCtorEq, Int.reduceToNat, Int.reduceLT, Int.reduceLE, Int.reduceEq, Int.reduceNeg, Int.reduceBEq, Int.reduceBNe, String.reduceEq, forall_const, ↓vmDA, vmVA, ↓vmQA, vmR, vmRA, ↓vmSA, vmSV, tyS, nuE, SubA.skip, SubA.refl, fr.2, vbRsX, possible_v, days_v, due_v, lt]
    rw [hx]; rfl
  | cons x l ih =>
    obtain ⟨ha, hlt, hd', htk⟩ := drop_some hd
    have lt : ((e : Int) < (L.length : Int)) = True := eq_true (by omega)
    have we : IntKind.i64.wrap ((e : Int) + 1) = ((e + 1 : Nat) : Int) := by rw [w_i64 (by omega) (by omega)]; omega
    obtain ⟨bk, off, cs, ty, fr0, hp0, hbk, hcr, hcc⟩ := hL.1.at ha
    subst hp0
    have hxm := List.mem_of_getElem? ha
    have hxr := hL.2 x hxm
    have hcl : (e : Int) ≤ (cap : Int) := by omega
    refine LoopA.intro (by kernel_rfl) ?_
    intro ν fr; have nuE := fr.nu
    simp only [rsC] at hcr
    have hG : chkG ((L.take e).map Rs.d) ((x :: l).map Rs.d) = if nameF (bs x.d.code) = false then 5 else if (findR x.d.code ((L.take e).map Rs.d)).isSome = true then 7 else if okDs x.d = false then 4 else if kindsE x.d.cl ≠ 0 then kindsE x.d.cl else if kindsE x.d.df ≠ 0 then kindsE x.d.df else chkG ((L.take (e + 1)).map Rs.d) (l.map Rs.d) := by
      rw [htk, List.map_append]; rfl
    rw [hG] at hx
    cases h1 : nameF (bs x.d.code) with
    | false =>
      simp (maxDischargeDepth := 16) only [argE_nil, argE_cons, ↓vmD, vmV, vmStd, Nat.reduceMul, ↓reduceIte, Nat.reduceAdd, Nat.reduceSub, Nat.reduceEqDiff, Nat.reduceLT, Nat.reduceLeDiff, reduceCtorEq, Int.reduceToNat, Int.reduceLT, Int.reduceLE, Int.reduceEq, Int.reduceNeg, Int.reduceBEq, Int.reduceBNe, String.reduceEq, forall_const, ↓vmDA, vmVA, ↓vmQA, vmR, vmRA, ↓vmSA, vmSV, tyS, nuE, SubA.skip, SubA.refl, fr.2, vbRsX, possible_v, days_v, due_v, lt, hbk, hcr, h1, we]
      rw [hx, if_pos h1]
    | true =>
      rw [if_neg (by rw [h1]; simp)] at hx
      simp (maxDischargeDepth := 16) only [argE_nil, argE_cons, ↓vmD, vmV, vmStd, Nat.reduceMul, ↓reduceIte, Nat.reduceAdd, Nat.reduceSub, Nat.reduceEqDiff, Nat.reduceLT, Nat.reduceLeDiff, reduceCtorEq, Int.reduceToNat, Int.reduceLT, Int.reduceLE, Int.reduceEq, Int.reduceNeg, Int.reduceBEq, Int.reduceBNe, String.reduceEq, forall_const, ↓vmDA, vmVA, ↓vmQA, vmR, vmRA, ↓vmSA, vmSV, tyS, nuE, SubA.skip, SubA.refl, fr.2, vbRsX, possible_v, days_v, due_v, lt, hbk, hcr, h1, we, hcl, ite_self, Nat.sub_zero]
      have f0 := fr.2 0
      have dst_ : True := (by simp [nuE]); generalize ν 0 = b0 at dst_  f0 ⊢
      clear nuE fr
      refine MeantA.tree [5, 10] (.one 0 0 (.one 1 0 (.one 2 0 (.one 3 0 (.one 4 0 (.two 5 2 (.one 6 0 (.one 7 0 (.one 8 0 (.one 9 1 (.one 10 2 (.one 11 0 .nil)))))) 9 1 (.one 5 2 (.one 6 0 (.one 7 0 (.one 8 0 (.one 10 2 (.one 11 0 .nil)))))))))))) _ (SubA.refl _) (by kernel_rfl) (by kernel_rfl) (by kernel_rfl) (by kernel_rfl) (by kernel_rfl) ?_
      intro ν fr; have nuE := And.intro (fr.mem (b := b0) (by simp)) (And.intro dst_ fr.nu)
      simp (maxDischargeDepth := 16) only [argE_nil, argE_cons, ↓vmD, vmV, vmStd, Nat.reduceMul, ↓reduceIte, Nat.reduceAdd, Nat.reduceSub, Nat.reduceEqDiff, Nat.reduceLT, Nat.reduceLeDiff, reduceCtorEq, Int.reduceToNat, Int.reduceLT, Int.reduceLE, Int.reduceEq, Int.reduceNeg, Int.reduceBEq, Int.reduceBNe, String.reduceEq, forall_const, ↓vmDA, vmVA, ↓vmQA, vmR, vmRA, ↓vmSA, vmSV, tyS, nuE, SubA.skip, SubA.refl, fr.2, vbRsX, possible_v, days_v, due_v, tA_nil, tA_one, tA_two, hcl, ite_self, Nat.sub_zero]
      have htl : (L.take e).length = e := by rw [List.length_take]; omega
      have hfi := find_n A (L.take e) (some ⟨bk, off, none⟩) cap x.d.code (hL.take e) hbt (by omega)
      rw [htl] at hfi
      have sA : SubA A ((b0, Obj.cells (rsC x).toArray 27) :: A) := SubA.fresh f0 (SubA.refl _)
      have w1 : IntKind.i64.wrap (0 + 1) = 1 := by decide
      have w2 : IntKind.i64.wrap (1 + 1) = 2 := by decide
      have w3 : IntKind.i64.wrap (2 + 1) = 3 := by decide
      have w4 : IntKind.i64.wrap (3 + 1) = 4 := by decide
      have v1 := checkKinds_w A x.d.cl x.p1 x.c1 hxr.1
      have v2 := checkKinds_w A x.d.df x.p2 x.c2 hxr.2
      refine ⟨?_, ?_⟩
      · refine CallA.newX hfi sA ?_
        rintro v B ⟨r, rfl, hrd, hin⟩ hd
        refine ⟨_, hd.right, ?_⟩
        intro ν fr; have nuE := And.intro (fr.mem (b := b0) (by simp)) (And.intro dst_ fr.nu)
        simp (maxDischargeDepth := 16) only [argE_nil, argE_cons, ↓vmD, vmV, vmStd, Nat.reduceMul, ↓reduceIte, Nat.reduceAdd, Nat.reduceSub, Nat.reduceEqDiff, Nat.reduceLT, Nat.reduceLeDiff, reduceCtorEq, Int.reduceToNat, Int.reduceLT, Int.reduceLE, Int.reduceEq, Int.reduceNeg, Int.reduceBEq, Int.reduceBNe, String.reduceEq, forall_const, ↓vmDA, vmVA, ↓vmQA, vmR, vmRA, ↓vmSA, vmSV, tyS, nuE, SubA.skip, SubA.refl, fr.2, vbRsX, possible_v, days_v, due_v, rsC, sc_i4]
        cases h2 : (findR x.d.code ((L.take e).map Rs.d)).isSome with
        | true =>
          simp (maxDischargeDepth := 16) only [argE_nil, argE_cons, ↓vmD, vmV, vmStd, Nat.reduceMul, ↓reduceIte, Nat.reduceAdd, Nat.reduceSub, Nat.reduceEqDiff, Nat.reduceLT, Nat.reduceLeDiff, reduceCtorEq, Int.reduceToNat, Int.reduceLT, Int.reduceLE, Int.reduceEq, Int.reduceNeg, Int.reduceBEq, Int.reduceBNe, String.reduceEq, forall_const, ↓vmDA, vmVA, ↓vmQA, vmR, vmRA, ↓vmSA, vmSV, tyS, nuE, SubA.skip, SubA.refl, fr.2, vbRsX, possible_v, days_v, due_v]
          rw [if_pos h2] at hx
          exact ⟨by rw [hx], SubA.skip (sA.none (fr.2 0)) sA⟩
        | false =>
          rw [if_neg (by rw [h2]; simp)] at hx
          simp (maxDischargeDepth := 16) only [argE_nil, argE_cons, ↓vmD, vmV, vmStd, Nat.reduceMul, ↓reduceIte, Nat.reduceAdd, Nat.reduceSub, Nat.reduceEqDiff, Nat.reduceLT, Nat.reduceLeDiff, reduceCtorEq, Int.reduceToNat, Int.reduceLT, Int.reduceLE, Int.reduceEq, Int.reduceNeg, Int.reduceBEq, Int.reduceBNe, String.reduceEq, forall_const, ↓vmDA, vmVA, ↓vmQA, vmR, vmRA, ↓vmSA, vmSV, tyS, nuE, SubA.skip, SubA.refl, fr.2, vbRsX, possible_v, days_v, due_v]
          have hc1 : ((ν 1 = b0) = False) ∧ ((b0 = ν 1) = False) := by simp [nuE]
          have fc1 : Vm.look A (ν 1) = none := sA.none (fr.2 1)
          refine LoopA.at (A := (ν 1, (Obj.cells #[.int .i64 x.d.d1, .int .i64 x.d.d2, .int .i64 x.d.d3, .int .i64 x.d.d4] 3)) :: (b0, Obj.cells #[.string (bs x.d.code), .int .i64 x.d.d1, .int .i64 x.d.d2, .int .i64 x.d.d3, .int .i64 x.d.d4, .slice x.p1 x.d.cl.length x.c1, .slice x.p2 x.d.df.length x.c2] 27) :: A) (cons_in (SubA.skip (fr.2 0) (SubA.refl _))) ?_
          generalize ν 1 = c1 at hc1 fc1 ⊢
          clear nuE fr dst_
          have sA2 : SubA A ((c1, (Obj.cells #[.int .i64 x.d.d1, .int .i64 x.d.d2, .int .i64 x.d.d3, .int .i64 x.d.d4] 3)) :: (b0, Obj.cells #[.string (bs x.d.code), .int .i64 x.d.d1, .int .i64 x.d.d2, .int .i64 x.d.d3, .int .i64 x.d.d4, .slice x.p1 x.d.cl.length x.c1, .slice x.p2 x.d.df.length x.c2] 27) :: A) := SubA.skip fc1 (SubA.skip f0 (SubA.refl _))
          have v1' := v1 _ sA2
          have v2' := v2 _ sA2
          refine LoopA.intro (by kernel_rfl) ?_
          intro ν fr
          have nuE := And.intro hc1 (And.intro (fr.mem (b := c1) (by simp)) (And.intro (fr.mem (b := b0) (by simp)) fr.nu))
          cases k1 : okD x.d.d1 with
          | false =>
            simp (maxDischargeDepth := 16) only [argE_nil, argE_cons, ↓vmD, vmV, vmStd, Nat.reduceMul, ↓reduceIte, Nat.reduceAdd, Nat.reduceSub, Nat.reduceEqDiff, Nat.reduceLT, Nat.reduceLeDiff, reduceCtorEq, Int.reduceToNat, Int.reduceLT, Int.reduceLE, Int.reduceEq, Int.reduceNeg, Int.reduceBEq, Int.reduceBNe, String.reduceEq, forall_const, ↓vmDA, vmVA, ↓vmQA, vmR, vmRA, ↓vmSA, vmSV, tyS, nuE, SubA.skip, SubA.refl, fr.2, vbRsX, possible_v, days_v, due_v, k1]
            rw [if_pos (by simp [okDs, k1])] at hx
            exact ⟨by rw [hx], sA2⟩
          | true =>
          simp (maxDischargeDepth := 16) only [argE_nil, argE_cons, ↓vmD, vmV, vmStd, Nat.reduceMul, ↓reduceIte, Nat.reduceAdd, Nat.reduceSub, Nat.reduceEqDiff, Nat.reduceLT, Nat.reduceLeDiff, reduceCtorEq, Int.reduceToNat, Int.reduceLT, Int.reduceLE, Int.reduceEq, Int.reduceNeg, Int.reduceBEq, Int.reduceBNe, String.reduceEq, forall_const, ↓vmDA, vmVA, ↓vmQA, vmR, vmRA, ↓vmSA, vmSV, tyS, nuE, SubA.skip, SubA.refl, fr.2, vbRsX, possible_v, days_v, due_v, k1, w1]
          refine LoopA.intro (by kernel_rfl) ?_
          intro ν fr
          have nuE := And.intro hc1 (And.intro (fr.mem (b := c1) (by simp)) (And.intro (fr.mem (b := b0) (by simp)) fr.nu))
          cases k2 : okD x.d.d2 with
          | false =>
            simp (maxDischargeDepth := 16) only [argE_nil, argE_cons, ↓vmD, vmV, vmStd, Nat.reduceMul, ↓reduceIte, Nat.reduceAdd, Nat.reduceSub, Nat.reduceEqDiff, Nat.reduceLT, Nat.reduceLeDiff, reduceCtorEq, Int.reduceToNat, Int.reduceLT, Int.reduceLE, Int.reduceEq, Int.reduceNeg, Int.reduceBEq, Int.reduceBNe, String.reduceEq, forall_const, ↓vmDA, vmVA, ↓vmQA, vmR, vmRA, ↓vmSA, vmSV, tyS, nuE, SubA.skip, SubA.refl, fr.2, vbRsX, possible_v, days_v, due_v, k2]
            rw [if_pos (by simp [okDs, k2])] at hx
            exact ⟨by rw [hx], sA2⟩
          | true =>
          simp (maxDischargeDepth := 16) only [argE_nil, argE_cons, ↓vmD, vmV, vmStd, Nat.reduceMul, ↓reduceIte, Nat.reduceAdd, Nat.reduceSub, Nat.reduceEqDiff, Nat.reduceLT, Nat.reduceLeDiff, reduceCtorEq, Int.reduceToNat, Int.reduceLT, Int.reduceLE, Int.reduceEq, Int.reduceNeg, Int.reduceBEq, Int.reduceBNe, String.reduceEq, forall_const, ↓vmDA, vmVA, ↓vmQA, vmR, vmRA, ↓vmSA, vmSV, tyS, nuE, SubA.skip, SubA.refl, fr.2, vbRsX, possible_v, days_v, due_v, k2, w2]
          refine LoopA.intro (by kernel_rfl) ?_
          intro ν fr
          have nuE := And.intro hc1 (And.intro (fr.mem (b := c1) (by simp)) (And.intro (fr.mem (b := b0) (by simp)) fr.nu))
          cases k3 : okD x.d.d3 with
          | false =>
            simp (maxDischargeDepth := 16) only [argE_nil, argE_cons, ↓vmD, vmV, vmStd, Nat.reduceMul, ↓reduceIte, Nat.reduceAdd, Nat.reduceSub, Nat.reduceEqDiff, Nat.reduceLT, Nat.reduceLeDiff, reduceCtorEq, Int.reduceToNat, Int.reduceLT, Int.reduceLE, Int.reduceEq, Int.reduceNeg, Int.reduceBEq, Int.reduceBNe, String.reduceEq, forall_const, ↓vmDA, vmVA, ↓vmQA, vmR, vmRA, ↓vmSA, vmSV, tyS, nuE, SubA.skip, SubA.refl, fr.2, vbRsX, possible_v, days_v, due_v, k3]
            rw [if_pos (by simp [okDs, k3])] at hx
            exact ⟨by rw [hx], sA2⟩
          | true =>
          simp (maxDischargeDepth := 16) only [argE_nil, argE_cons, ↓vmD, vmV, vmStd, Nat.reduceMul, ↓reduceIte, Nat.reduceAdd, Nat.reduceSub, Nat.reduceEqDiff, Nat.reduceLT, Nat.reduceLeDiff, reduceCtorEq, Int.reduceToNat, Int.reduceLT, Int.reduceLE, Int.reduceEq, Int.reduceNeg, Int.reduceBEq, Int.reduceBNe, String.reduceEq, forall_const, ↓vmDA, vmVA, ↓vmQA, vmR, vmRA, ↓vmSA, vmSV, tyS, nuE, SubA.skip, SubA.refl, fr.2, vbRsX, possible_v, days_v, due_v, k3, w3]
          refine LoopA.intro (by kernel_rfl) ?_
          intro ν fr
          have nuE := And.intro hc1 (And.intro (fr.mem (b := c1) (by simp)) (And.intro (fr.mem (b := b0) (by simp)) fr.nu))
          cases k4 : okD x.d.d4 with
          | false =>
            simp (maxDischargeDepth := 16) only [argE_nil, argE_cons, ↓vmD, vmV, vmStd, Nat.reduceMul, ↓reduceIte, Nat.reduceAdd, Nat.reduceSub, Nat.reduceEqDiff, Nat.reduceLT, Nat.reduceLeDiff, reduceCtorEq, Int.reduceToNat, Int.reduceLT, Int.reduceLE, Int.reduceEq, Int.reduceNeg, Int.reduceBEq, Int.reduceBNe, String.reduceEq, forall_const, ↓vmDA, vmVA, ↓vmQA, vmR, vmRA, ↓vmSA, vmSV, tyS, nuE, SubA.skip, SubA.refl, fr.2, vbRsX, possible_v, days_v, due_v, k4]
            rw [if_pos (by simp [okDs, k4])] at hx
            exact ⟨by rw [hx], sA2⟩
          | true =>
          simp (maxDischargeDepth := 16) only [argE_nil, argE_cons, ↓vmD, vmV, vmStd, Nat.reduceMul, ↓reduceIte, Nat.reduceAdd, Nat.reduceSub, Nat.reduceEqDiff, Nat.reduceLT, Nat.reduceLeDiff, reduceCtorEq, Int.reduceToNat, Int.reduceLT, Int.reduceLE, Int.reduceEq, Int.reduceNeg, Int.reduceBEq, Int.reduceBNe, String.reduceEq, forall_const, ↓vmDA, vmVA, ↓vmQA, vmR, vmRA, ↓vmSA, vmSV, tyS, nuE, SubA.skip, SubA.refl, fr.2, vbRsX, possible_v, days_v, due_v, k4, w4]
          rw [if_neg (by simp [okDs, k1, k2, k3, k4])] at hx
          refine LoopA.intro (by kernel_rfl) ?_
          intro ν fr
          have nuE := And.intro hc1 (And.intro (fr.mem (b := c1) (by simp)) (And.intro (fr.mem (b := b0) (by simp)) fr.nu))
          simp (maxDischargeDepth := 16) only [argE_nil, argE_cons, ↓vmD, vmV, vmStd, Nat.reduceMul, ↓reduceIte, Nat.reduceAdd, Nat.reduceSub, Nat.reduceEqDiff, Nat.reduceLT, Nat.reduceLeDiff, reduceCtorEq, Int.reduceToNat, Int.reduceLT, Int.reduceLE, Int.reduceEq, Int.reduceNeg, Int.reduceBEq, Int.reduceBNe, String.reduceEq, forall_const, ↓vmDA, vmVA, ↓vmQA, vmR, vmRA, ↓vmSA, vmSV, tyS, nuE, SubA.skip, SubA.refl, fr.2, vbRsX, possible_v, days_v, due_v, v1', v2', we]
          by_cases k5 : kindsE x.d.cl = 0
          · rw [if_neg (by simpa using k5)] at hx
            rw [if_neg (by simpa using k5)]
            by_cases k6 : kindsE x.d.df = 0
            · rw [if_neg (by simpa using k6)] at hx
              rw [if_neg (by simpa using k6)]
              exact LoopA.at sA2 (LoopA.weak (ih (e + 1) hd' (by omega) hx (fun r hr => by
                rw [htk] at hr
                rcases List.mem_append.1 hr with h | h
                · exact hbt r h
                · simp at h; subst h; have h1 := kindsE_len k5; have h2 := kindsE_len k6; omega)) (by simp only [subE, get_cons, Nat.reduceEqDiff, ↓reduceIte, reduceCtorEq, Nat.reduceAdd, and_self, and_true]) (SubA.refl _))
            · rw [if_pos k6] at hx
              rw [if_pos k6]
              exact ⟨by rw [hx], sA2⟩
          · rw [if_pos k5] at hx
            rw [if_pos k5]
            exact ⟨by rw [hx], sA2⟩
      · have f5 := fr.2 0
        have dst_ : ((ν 0 = b0) = False) ∧ ((b0 = ν 0) = False) := (by simp [nuE]); generalize ν 0 = z0 at dst_  f5 ⊢
        clear nuE fr
        have sA3 : ∀ o, SubA A ((z0, o) :: (b0, Obj.cells (rsC x).toArray 27) :: A) := fun o => SubA.skip (sA.none f5) sA
        refine CallA.newX hfi (sA3 _) ?_
        rintro v B ⟨r, rfl, hrd, hin⟩ hd
        refine ⟨_, hd.right, ?_⟩
        intro ν fr; have nuE := And.intro (fr.mem (b := z0) (by simp)) (And.intro (fr.mem (b := b0) (by simp)) (And.intro dst_ fr.nu))
        simp (maxDischargeDepth := 16) only [argE_nil, argE_cons, ↓vmD, vmV, vmStd, Nat.reduceMul, ↓reduceIte, Nat.reduceAdd, Nat.reduceSub, Nat.reduceEqDiff, Nat.reduceLT, Nat.reduceLeDiff, reduceCtorEq, Int.reduceToNat, Int.reduceLT, Int.reduceLE, Int.reduceEq, Int.reduceNeg, Int.reduceBEq, Int.reduceBNe, String.reduceEq, forall_const, ↓vmDA, vmVA, ↓vmQA, vmR, vmRA, ↓vmSA, vmSV, tyS, nuE, SubA.skip, SubA.refl, fr.2, vbRsX, possible_v, days_v, due_v, rsC, sc_i4]
        cases h2 : (findR x.d.code ((L.take e).map Rs.d)).isSome with
        | true =>
          simp (maxDischargeDepth := 16) only [argE_nil, argE_cons, ↓vmD, vmV, vmStd, Nat.reduceMul, ↓reduceIte, Nat.reduceAdd, Nat.reduceSub, Nat.reduceEqDiff, Nat.reduceLT, Nat.reduceLeDiff, reduceCtorEq, Int.reduceToNat, Int.reduceLT, Int.reduceLE, Int.reduceEq, Int.reduceNeg, Int.reduceBEq, Int.reduceBNe, String.reduceEq, forall_const, ↓vmDA, vmVA, ↓vmQA, vmR, vmRA, ↓vmSA, vmSV, tyS, nuE, SubA.skip, SubA.refl, fr.2, vbRsX, possible_v, days_v, due_v]
          rw [if_pos h2] at hx
          exact ⟨by rw [hx], sA3 _⟩
        | false =>
          rw [if_neg (by rw [h2]; simp)] at hx
          simp (maxDischargeDepth := 16) only [argE_nil, argE_cons, ↓vmD, vmV, vmStd, Nat.reduceMul, ↓reduceIte, Nat.reduceAdd, Nat.reduceSub, Nat.reduceEqDiff, Nat.reduceLT, Nat.reduceLeDiff, reduceCtorEq, Int.reduceToNat, Int.reduceLT, Int.reduceLE, Int.reduceEq, Int.reduceNeg, Int.reduceBEq, Int.reduceBNe, String.reduceEq, forall_const, ↓vmDA, vmVA, ↓vmQA, vmR, vmRA, ↓vmSA, vmSV, tyS, nuE, SubA.skip, SubA.refl, fr.2, vbRsX, possible_v, days_v, due_v]
          have hc1 : ((ν 0 = b0) = False) ∧ ((b0 = ν 0) = False) := by simp [nuE]
          have fc1 : Vm.look A (ν 0) = none := (sA3 _).none (fr.2 0)
          refine LoopA.at (A := (ν 0, (Obj.cells #[.int .i64 x.d.d1, .int .i64 x.d.d2, .int .i64 x.d.d3, .int .i64 x.d.d4] 3)) :: (b0, Obj.cells #[.string (bs x.d.code), .int .i64 x.d.d1, .int .i64 x.d.d2, .int .i64 x.d.d3, .int .i64 x.d.d4, .slice x.p1 x.d.cl.length x.c1, .slice x.p2 x.d.df.length x.c2] 27) :: A) (cons_in (SubA.skip f5 (SubA.refl _))) ?_
          generalize ν 0 = c1 at hc1 fc1 ⊢
          clear nuE fr dst_
          have sA2 : SubA A ((c1, (Obj.cells #[.int .i64 x.d.d1, .int .i64 x.d.d2, .int .i64 x.d.d3, .int .i64 x.d.d4] 3)) :: (b0, Obj.cells #[.string (bs x.d.code), .int .i64 x.d.d1, .int .i64 x.d.d2, .int .i64 x.d.d3, .int .i64 x.d.d4, .slice x.p1 x.d.cl.length x.c1, .slice x.p2 x.d.df.length x.c2] 27) :: A) := SubA.skip fc1 (SubA.skip f0 (SubA.refl _))
          have v1' := v1 _ sA2
          have v2' := v2 _ sA2
          refine LoopA.intro (by kernel_rfl) ?_
          intro ν fr
          have nuE := And.intro hc1 (And.intro (fr.mem (b := c1) (by simp)) (And.intro (fr.mem (b := b0) (by simp)) fr.nu))
          cases k1 : okD x.d.d1 with
          | false =>
            simp (maxDischargeDepth := 16) only [argE_nil, argE_cons, ↓vmD, vmV, vmStd, Nat.reduceMul, ↓reduceIte, Nat.reduceAdd, Nat.reduceSub, Nat.reduceEqDiff, Nat.reduceLT, Nat.reduceLeDiff, reduceCtorEq, Int.reduceToNat, Int.reduceLT, Int.reduceLE, Int.reduceEq, Int.reduceNeg, Int.reduceBEq, Int.reduceBNe, String.reduceEq, forall_const, ↓vmDA, vmVA, ↓vmQA, vmR, vmRA, ↓vmSA, vmSV, tyS, nuE, SubA.skip, SubA.refl, fr.2, vbRsX, possible_v, days_v, due_v, k1]
            rw [if_pos (by simp [okDs, k1])] at hx
            exact ⟨by rw [hx], sA2⟩
          | true =>
          simp (maxDischargeDepth := 16) only [argE_nil, argE_cons, ↓vmD, vmV, vmStd, Nat.reduceMul, ↓reduceIte, Nat.reduceAdd, Nat.reduceSub, Nat.reduceEqDiff, Nat.reduceLT, Nat.reduceLeDiff, reduceCtorEq, Int.reduceToNat, Int.reduceLT, Int.reduceLE, Int.reduceEq, Int.reduceNeg, Int.reduceBEq, Int.reduceBNe, String.reduceEq, forall_const, ↓vmDA, vmVA, ↓vmQA, vmR, vmRA, ↓vmSA, vmSV, tyS, nuE, SubA.skip, SubA.refl, fr.2, vbRsX, possible_v, days_v, due_v, k1, w1]
          refine LoopA.intro (by kernel_rfl) ?_
          intro ν fr
          have nuE := And.intro hc1 (And.intro (fr.mem (b := c1) (by simp)) (And.intro (fr.mem (b := b0) (by simp)) fr.nu))
          cases k2 : okD x.d.d2 with
          | false =>
            simp (maxDischargeDepth := 16) only [argE_nil, argE_cons, ↓vmD, vmV, vmStd, Nat.reduceMul, ↓reduceIte, Nat.reduceAdd, Nat.reduceSub, Nat.reduceEqDiff, Nat.reduceLT, Nat.reduceLeDiff, reduceCtorEq, Int.reduceToNat, Int.reduceLT, Int.reduceLE, Int.reduceEq, Int.reduceNeg, Int.reduceBEq, Int.reduceBNe, String.reduceEq, forall_const, ↓vmDA, vmVA, ↓vmQA, vmR, vmRA, ↓vmSA, vmSV, tyS, nuE, SubA.skip, SubA.refl, fr.2, vbRsX, possible_v, days_v, due_v, k2]
            rw [if_pos (by simp [okDs, k2])] at hx
            exact ⟨by rw [hx], sA2⟩
          | true =>
          simp (maxDischargeDepth := 16) only [argE_nil, argE_cons, ↓vmD, vmV, vmStd, Nat.reduceMul, ↓reduceIte, Nat.reduceAdd, Nat.reduceSub, Nat.reduceEqDiff, Nat.reduceLT, Nat.reduceLeDiff, reduceCtorEq, Int.reduceToNat, Int.reduceLT, Int.reduceLE, Int.reduceEq, Int.reduceNeg, Int.reduceBEq, Int.reduceBNe, String.reduceEq, forall_const, ↓vmDA, vmVA, ↓vmQA, vmR, vmRA, ↓vmSA, vmSV, tyS, nuE, SubA.skip, SubA.refl, fr.2, vbRsX, possible_v, days_v, due_v, k2, w2]
          refine LoopA.intro (by kernel_rfl) ?_
          intro ν fr
          have nuE := And.intro hc1 (And.intro (fr.mem (b := c1) (by simp)) (And.intro (fr.mem (b := b0) (by simp)) fr.nu))
          cases k3 : okD x.d.d3 with
          | false =>
            simp (maxDischargeDepth := 16) only [argE_nil, argE_cons, ↓vmD, vmV, vmStd, Nat.reduceMul, ↓reduceIte, Nat.reduceAdd, Nat.reduceSub, Nat.reduceEqDiff, Nat.reduceLT, Nat.reduceLeDiff, reduceCtorEq, Int.reduceToNat, Int.reduceLT, Int.reduceLE, Int.reduceEq, Int.reduceNeg, Int.reduceBEq, Int.reduceBNe, String.reduceEq, forall_const, ↓vmDA, vmVA, ↓vmQA, vmR, vmRA, ↓vmSA, vmSV, tyS, nuE, SubA.skip, SubA.refl, fr.2, vbRsX, possible_v, days_v, due_v, k3]
            rw [if_pos (by simp [okDs, k3])] at hx
            exact ⟨by rw [hx], sA2⟩
          | true =>
          simp (maxDischargeDepth := 16) only [argE_nil, argE_cons, ↓vmD, vmV, vmStd, Nat.reduceMul, ↓reduceIte, Nat.reduceAdd, Nat.reduceSub, Nat.reduceEqDiff, Nat.reduceLT, Nat.reduceLeDiff, reduceCtorEq, Int.reduceToNat, Int.reduceLT, Int.reduceLE, Int.reduceEq, Int.reduceNeg, Int.reduceBEq, Int.reduceBNe, String.reduceEq, forall_const, ↓vmDA, vmVA, ↓vmQA, vmR, vmRA, ↓vmSA, vmSV, tyS, nuE, SubA.skip, SubA.refl, fr.2, vbRsX, possible_v, days_v, due_v, k3, w3]
          refine LoopA.intro (by kernel_rfl) ?_
          intro ν fr
          have nuE := And.intro hc1 (And.intro (fr.mem (b := c1) (by simp)) (And.intro (fr.mem (b := b0) (by simp)) fr.nu))
          cases k4 : okD x.d.d4 with
          | false =>
            simp (maxDischargeDepth := 16) only [argE_nil, argE_cons, ↓vmD, vmV, vmStd, Nat.reduceMul, ↓reduceIte, Nat.reduceAdd, Nat.reduceSub, Nat.reduceEqDiff, Nat.reduceLT, Nat.reduceLeDiff, reduceCtorEq, Int.reduceToNat, Int.reduceLT, Int.reduceLE, Int.reduceEq, Int.reduceNeg, Int.reduceBEq, Int.reduceBNe, String.reduceEq, forall_const, ↓vmDA, vmVA, ↓vmQA, vmR, vmRA, ↓vmSA, vmSV, tyS, nuE, SubA.skip, SubA.refl, fr.2, vbRsX, possible_v, days_v, due_v, k4]
            rw [if_pos (by simp [okDs, k4])] at hx
            exact ⟨by rw [hx], sA2⟩
          | true =>
          simp (maxDischargeDepth := 16) only [argE_nil, argE_cons, ↓vmD, vmV, vmStd, Nat.reduceMul, ↓reduceIte, Nat.reduceAdd, Nat.reduceSub, Nat.reduceEqDiff, Nat.reduceLT, Nat.reduceLeDiff, reduceCtorEq, Int.reduceToNat, Int.reduceLT, Int.reduceLE, Int.reduceEq, Int.reduceNeg, Int.reduceBEq, Int.reduceBNe, String.reduceEq, forall_const, ↓vmDA, vmVA, ↓vmQA, vmR, vmRA, ↓vmSA, vmSV, tyS, nuE, SubA.skip, SubA.refl, fr.2, vbRsX, possible_v, days_v, due_v, k4, w4]
          rw [if_neg (by simp [okDs, k1, k2, k3, k4])] at hx
          refine LoopA.intro (by kernel_rfl) ?_
          intro ν fr
          have nuE := And.intro hc1 (And.intro (fr.mem (b := c1) (by simp)) (And.intro (fr.mem (b := b0) (by simp)) fr.nu))
          simp (maxDischargeDepth := 16) only [argE_nil, argE_cons, ↓vmD, vmV, vmStd, Nat.reduceMul, ↓reduceIte, Nat.reduceAdd, Nat.reduceSub, Nat.reduceEqDiff, Nat.reduceLT, Nat.reduceLeDiff, reduceCtorEq, Int.reduceToNat, Int.reduceLT, Int.reduceLE, Int.reduceEq, Int.reduceNeg, Int.reduceBEq, Int.reduceBNe, String.reduceEq, forall_const, ↓vmDA, vmVA, ↓vmQA, vmR, vmRA, ↓vmSA, vmSV, tyS, nuE, SubA.skip, SubA.refl, fr.2, vbRsX, possible_v, days_v, due_v, v1', v2', we]
          by_cases k5 : kindsE x.d.cl = 0
          · rw [if_neg (by simpa using k5)] at hx
            rw [if_neg (by simpa using k5)]
            by_cases k6 : kindsE x.d.df = 0
            · rw [if_neg (by simpa using k6)] at hx
              rw [if_neg (by simpa using k6)]
              exact LoopA.at sA2 (LoopA.weak (ih (e + 1) hd' (by omega) hx (fun r hr => by
                rw [htk] at hr
                rcases List.mem_append.1 hr with h | h
                · exact hbt r h
                · simp at h; subst h; have h1 := kindsE_len k5; have h2 := kindsE_len k6; omega)) (by simp only [subE, get_cons, Nat.reduceEqDiff, ↓reduceIte, reduceCtorEq, Nat.reduceAdd, and_self, and_true]) (SubA.refl _))
            · rw [if_pos k6] at hx
              rw [if_pos k6]
              exact ⟨by rw [hx], sA2⟩
          · rw [if_pos k5] at hx
            rw [if_pos k5]
            exact ⟨by rw [hx], sA2⟩
theorem chkR_w (A : AH) (L : List Rs) (p : Option Addr) (cap : Nat) (hL : RsR A p L) (hl : L.length ≤ cap ∧ cap ≤ 9223372036854775807) (B_ : AH) (hB_ : SubA A B_) : valA Tryd.prog 13 #[.slice p L.length cap] B_ = some (.int .i64 (chkE (L.map Rs.d))) := valA_eq (pureA_at (by kernel_rfl) (chkR_h A L p cap hL hl) hB_)
theorem chkR_v (A : AH) (L : List Rs) (p : Option Addr) (cap : Nat) (hL : RsR A p L) (hl : L.length ≤ cap ∧ cap ≤ 9223372036854775807) : valA Tryd.prog 13 #[.slice p L.length cap] A = some (.int .i64 (chkE (L.map Rs.d))) := valA_eq (pureA_at (by kernel_rfl) (chkR_h A L p cap hL hl) (SubA.refl _))
set_option linter.unusedSimpArgs false
set_option linter.unusedVariables false
set_option maxHeartbeats 2000000
set_option maxRecDepth 20000
theorem rkind_h (s : Txt) : CallA Tryd.prog 52 #[.string (bs s)] [] (fun u_ _ => u_ = .bool (kindF s)) := by
  refine callA_of_denA ⟨Tryd.prog, 52, Tryd.f52, 13, [0, 2], [], [], _⟩ (args := [_]) Tryd.func52 rfl (by kernel_rfl) Tryd.ntmps52 (by simp) (by kernel_rfl) ?_
  intro ν fr; have nuE := fr.nu
  have t1 : ((bs s).toList = [99, 108, 97, 105, 109]) = (s = claimT) := by rw [bs_list]; rfl
  have t2 : ((bs s).toList = [100, 101, 102, 101, 110, 99, 101]) = (s = defenceT) := by rw [bs_list]; rfl
  simp (maxDischargeDepth := 16) only [argE_nil, argE_cons, ↓vmD, vmV, vmStd, Nat.reduceMul, ↓reduceIte, Nat.reduceAdd, Nat.reduceSub, Nat.reduceEqDiff, Nat.reduceLT, Nat.reduceLeDiff, reduceCtorEq, Int.reduceToNat, Int.reduceLT, Int.reduceLE, Int.reduceEq, Int.reduceNeg, Int.reduceBEq, Int.reduceBNe, String.reduceEq, forall_const, ↓vmDA, vmVA, ↓vmQA, vmR, vmRA, ↓vmSA, vmSV, tyS, nuE, SubA.skip, SubA.refl, fr.2, vbRsX, possible_v, days_v, due_v, t1, t2]
  have q1 : (⟨#[99, 108, 97, 105, 109]⟩ : ByteArray).toList = claimT := by kernel_rfl
  have q2 : (⟨#[100, 101, 102, 101, 110, 99, 101]⟩ : ByteArray).toList = defenceT := by kernel_rfl
  rw [bs_list, q1, q2]
  unfold kindF
  rw [Bool.and_assoc]
  have e1 : (s == claimT) = decide (s = claimT) := by by_cases h : s = claimT <;> simp [h]
  have e2 : (s == defenceT) = decide (s = defenceT) := by by_cases h : s = defenceT <;> simp [h]
  rw [e1, e2]
theorem rkind_v (s : Txt) (A_ : AH) : valA Tryd.prog 52 #[.string (bs s)] A_ = some (.bool (kindF s)) := valA_eq (pureA_of (by kernel_rfl) (rkind_h s))
theorem rhas_h (A : AH) (T : List Txt) (p : Option Addr) (cap : Nat) (s : Txt) (hT : TxR A p cap T) : CallA Tryd.prog 53 #[.slice p T.length cap, .string (bs s)] A (fun u_ A_ => u_ = .bool (decide (s ∈ T)) ∧ SubA A A_) := by
  refine callA_of_denA ⟨Tryd.prog, 53, Tryd.f53, 18, [0, 1, 4, 5], [], [], _⟩ (args := [_, _]) Tryd.func53 rfl (by kernel_rfl) Tryd.ntmps53 (by simp) (by kernel_rfl) ?_
  intro ν fr; have nuE := fr.nu
  simp (maxDischargeDepth := 16) only [argE_nil, argE_cons, ↓vmD, vmV, vmStd, Nat.reduceMul, ↓reduceIte, Nat.reduceAdd, Nat.reduceSub, Nat.reduceEqDiff, Nat.reduceLT, Nat.reduceLeDiff, reduceCtorEq, Int.reduceToNat, Int.reduceLT, Int.reduceLE, Int.reduceEq, Int.reduceNeg, Int.reduceBEq, Int.reduceBNe, String.reduceEq, forall_const, ↓vmDA, vmVA, ↓vmQA, vmR, vmRA, ↓vmSA, vmSV, tyS, nuE, SubA.skip, SubA.refl, fr.2, vbRsX, possible_v, days_v, due_v, rkind_v]
  have hcap := hT.2
  obtain ⟨e, l, he, hd, hle, hx⟩ : ∃ (e : Nat) (l : List Txt), e = 0 ∧ l = T.drop e ∧ e ≤ T.length ∧ decide (s ∈ T) = decide (s ∈ l) := ⟨0, T, rfl, rfl, by omega, rfl⟩
  rw [show (5, some (Value.int .i64 0)) = (5, some (Value.int .i64 (e : Int))) by rw [he]; rfl]
  clear he nuE fr
  induction l generalizing e with
  | nil =>
    obtain ⟨hn1, hn2⟩ := drop_nil hd hle
    have lt : ((e : Int) < (T.length : Int)) = False := eq_false (by omega)
    refine LoopA.intro (by kernel_rfl) ?_
    intro ν fr; have nuE := fr.nu
    simp (maxDischargeDepth := 16) only [argE_nil, argE_cons, ↓vmD, vmV, vmStd, Nat.reduceMul, ↓reduceIte, Nat.reduceAdd, Nat.reduceSub, Nat.reduceEqDiff, Nat.reduceLT, Nat.reduceLeDiff, reduceCtorEq, Int.reduceToNat, Int.reduceLT, Int.reduceLE, Int.reduceEq, Int.reduceNeg, Int.reduceBEq, Int.reduceBNe, String.reduceEq, forall_const, ↓vmDA, vmVA, ↓vmQA, vmR, vmRA, ↓vmSA, vmSV, tyS, nuE, SubA.skip, SubA.refl, fr.2, vbRsX, possible_v, days_v, due_v, rkind_v, lt]
    rw [hx]; rfl
  | cons x l ih =>
    obtain ⟨ha, hlt, hd', htk⟩ := drop_some hd
    have lt : ((e : Int) < (T.length : Int)) = True := eq_true (by omega)
    have li : ((e : Int) < 0) = False := eq_false (by omega)
    have we : IntKind.i64.wrap ((e : Int) + 1) = ((e + 1 : Nat) : Int) := by rw [w_i64 (by omega) (by omega)]; omega
    obtain ⟨bk, off, cs, ty, fr0, hp0, hbk, hcr, hcc⟩ := hT.1.at ha
    subst hp0
    have hc0 : cs[off + e * 1]? = some (.string (bs x)) := hcc 0 _ rfl
    have t1 : ((bs x).toList = (bs s).toList) = (x = s) := by rw [bs_list, bs_list]
    refine LoopA.intro (by kernel_rfl) ?_
    intro ν fr; have nuE := fr.nu
    by_cases hs : x = s
    · have hs' := eq_true hs
      simp (maxDischargeDepth := 16) only [argE_nil, argE_cons, ↓vmD, vmV, vmStd, Nat.reduceMul, ↓reduceIte, Nat.reduceAdd, Nat.reduceSub, Nat.reduceEqDiff, Nat.reduceLT, Nat.reduceLeDiff, reduceCtorEq, Int.reduceToNat, Int.reduceLT, Int.reduceLE, Int.reduceEq, Int.reduceNeg, Int.reduceBEq, Int.reduceBNe, String.reduceEq, forall_const, ↓vmDA, vmVA, ↓vmQA, vmR, vmRA, ↓vmSA, vmSV, tyS, nuE, SubA.skip, SubA.refl, fr.2, vbRsX, possible_v, days_v, due_v, rkind_v, lt, li, hbk, hc0, t1, hs', we]
      subst hs
      rw [hx]; simp
    · have hs' := eq_false hs
      simp (maxDischargeDepth := 16) only [argE_nil, argE_cons, ↓vmD, vmV, vmStd, Nat.reduceMul, ↓reduceIte, Nat.reduceAdd, Nat.reduceSub, Nat.reduceEqDiff, Nat.reduceLT, Nat.reduceLeDiff, reduceCtorEq, Int.reduceToNat, Int.reduceLT, Int.reduceLE, Int.reduceEq, Int.reduceNeg, Int.reduceBEq, Int.reduceBNe, String.reduceEq, forall_const, ↓vmDA, vmVA, ↓vmQA, vmR, vmRA, ↓vmSA, vmSV, tyS, nuE, SubA.skip, SubA.refl, fr.2, vbRsX, possible_v, days_v, due_v, rkind_v, lt, li, hbk, hc0, t1, hs', we]
      exact LoopA.weak (ih (e + 1) hd' (by omega) (by rw [hx]; have : ¬ s = x := fun h => hs h.symm; simp [this])) (by simp only [subE, get_cons, Nat.reduceEqDiff, ↓reduceIte, reduceCtorEq, Nat.reduceAdd, and_self, and_true]) (SubA.refl _)
theorem rhas_w (A : AH) (T : List Txt) (p : Option Addr) (cap : Nat) (s : Txt) (hT : TxR A p cap T) (B_ : AH) (hB_ : SubA A B_) : valA Tryd.prog 53 #[.slice p T.length cap, .string (bs s)] B_ = some (.bool (decide (s ∈ T))) := valA_eq (pureA_at (by kernel_rfl) (rhas_h A T p cap s hT) hB_)
theorem rhas_v (A : AH) (T : List Txt) (p : Option Addr) (cap : Nat) (s : Txt) (hT : TxR A p cap T) : valA Tryd.prog 53 #[.slice p T.length cap, .string (bs s)] A = some (.bool (decide (s ∈ T))) := valA_eq (pureA_at (by kernel_rfl) (rhas_h A T p cap s hT) (SubA.refl _))
theorem rkinds_h (A : AH) (T : List Txt) (p : Option Addr) (cap : Nat) (hT : TxR A p cap T) : CallA Tryd.prog 35 #[.slice p T.length cap] A (fun u_ A_ => u_ = .int .i64 (kindsE T) ∧ SubA A A_) := by
  refine callA_of_denA ⟨Tryd.prog, 35, Tryd.f35, 27, [0, 2, 3], [], [(8, .q false)], _⟩ (args := [_]) Tryd.func35 rfl (by kernel_rfl) Tryd.ntmps35 (by simp) (by kernel_rfl) ?_
  intro ν fr; have nuE := fr.nu
  have hcap := hT.2
  by_cases h8 : 8 < T.length
  · have h8' : ((8 : Int) < (T.length : Int)) = True := eq_true (by omega)
    have hk : kindsE T = 3 := if_pos h8
    simp (maxDischargeDepth := 16) only [argE_nil, argE_cons, ↓vmD, vmV, vmStd, Nat.reduceMul, ↓reduceIte, Nat.reduceAdd, Nat.reduceSub, Nat.reduceEqDiff, Nat.reduceLT, Nat.reduceLeDiff, reduceCtorEq, Int.reduceToNat, Int.reduceLT, Int.reduceLE, Int.reduceEq, Int.reduceNeg, Int.reduceBEq, Int.reduceBNe, String.reduceEq, forall_const, ↓vmDA, vmVA, ↓vmQA, vmR, vmRA, ↓vmSA, vmSV, tyS, nuE, SubA.skip, SubA.refl, fr.2, vbRsX, possible_v, days_v, due_v, rkind_v, h8', hk]
  have h8' : ((8 : Int) < (T.length : Int)) = False := eq_false (by omega)
  simp (maxDischargeDepth := 16) only [argE_nil, argE_cons, ↓vmD, vmV, vmStd, Nat.reduceMul, ↓reduceIte, Nat.reduceAdd, Nat.reduceSub, Nat.reduceEqDiff, Nat.reduceLT, Nat.reduceLeDiff, reduceCtorEq, Int.reduceToNat, Int.reduceLT, Int.reduceLE, Int.reduceEq, Int.reduceNeg, Int.reduceBEq, Int.reduceBNe, String.reduceEq, forall_const, ↓vmDA, vmVA, ↓vmQA, vmR, vmRA, ↓vmSA, vmSV, tyS, nuE, SubA.skip, SubA.refl, fr.2, vbRsX, possible_v, days_v, due_v, rkind_v, h8']
  obtain ⟨e, l, he, hd, hle, hx⟩ : ∃ (e : Nat) (l : List Txt), e = 0 ∧ l = T.drop e ∧ e ≤ T.length ∧ kindsE T = kindsG (T.take e) l := ⟨0, T, rfl, rfl, by omega, if_neg h8⟩
  rw [show (3, some (Value.int .i64 0)) = (3, some (Value.int .i64 (e : Int))) by rw [he]; rfl]
  clear he nuE fr
  induction l generalizing e with
  | nil =>
    obtain ⟨hn1, hn2⟩ := drop_nil hd hle
    have lt : ((e : Int) < (T.length : Int)) = False := eq_false (by omega)
    refine LoopA.intro (by kernel_rfl) ?_
    intro ν fr; have nuE := fr.nu
    simp (maxDischargeDepth := 16) only [argE_nil, argE_cons, ↓vmD, vmV, vmStd, Nat.reduceMul, ↓reduceIte, Nat.reduceAdd, Nat.reduceSub, Nat.reduceEqDiff, Nat.reduceLT, Nat.reduceLeDiff, reduceCtorEq, Int.reduceToNat, Int.reduceLT, Int.reduceLE, Int.reduceEq, Int.reduceNeg, Int.reduceBEq, Int.reduceBNe, String.reduceEq, forall_const, ↓vmDA, vmVA, ↓vmQA, vmR, vmRA, ↓vmSA, vmSV, tyS, nuE, SubA.skip, SubA.refl, fr.2, vbRsX, possible_v, days_v, due_v, rkind_v, lt]
    rw [hx]; rfl
  | cons x l ih =>
    obtain ⟨ha, hlt, hd', htk⟩ := drop_some hd
    have lt : ((e : Int) < (T.length : Int)) = True := eq_true (by omega)
    have li : ((e : Int) < 0) = False := eq_false (by omega)
    have we : IntKind.i64.wrap ((e : Int) + 1) = ((e + 1 : Nat) : Int) := by rw [w_i64 (by omega) (by omega)]; omega
    obtain ⟨bk, off, cs, ty, fr0, hp0, hbk, hcr, hcc⟩ := hT.1.at ha
    subst hp0
    have hc0 : cs[off + e * 1]? = some (.string (bs x)) := hcc 0 _ rfl
    have hcl : (e : Int) ≤ (cap : Int) := by omega
    have htl : (T.take e).length = e := by rw [List.length_take]; omega
    have i1 := rhas_w A (T.take e) (some ⟨bk, off, none⟩) cap x ⟨StR.take hT.1 e, by rw [List.length_take]; omega, hT.2.2⟩ A (SubA.refl A)
    rw [htl] at i1
    refine LoopA.intro (by kernel_rfl) ?_
    intro ν fr; have nuE := fr.nu
    simp (maxDischargeDepth := 16) only [argE_nil, argE_cons, ↓vmD, vmV, vmStd, Nat.reduceMul, ↓reduceIte, Nat.reduceAdd, Nat.reduceSub, Nat.reduceEqDiff, Nat.reduceLT, Nat.reduceLeDiff, reduceCtorEq, Int.reduceToNat, Int.reduceLT, Int.reduceLE, Int.reduceEq, Int.reduceNeg, Int.reduceBEq, Int.reduceBNe, String.reduceEq, forall_const, ↓vmDA, vmVA, ↓vmQA, vmR, vmRA, ↓vmSA, vmSV, tyS, nuE, SubA.skip, SubA.refl, fr.2, vbRsX, possible_v, days_v, due_v, rkind_v, lt, li, hbk, hc0, we, hcl, i1, ite_self, Nat.sub_zero]
    cases h3 : kindF x with
    | false => rw [if_pos rfl, hx]; simp [kindsG, h3]
    | true =>
      rw [if_neg (by simp)]
      by_cases h4 : x ∈ T.take e
      · rw [if_pos h4, hx]; simp [kindsG, h3, h4]
      · rw [if_neg h4]
        exact LoopA.weak (ih (e + 1) hd' (by omega) (by rw [hx, htk]; simp [kindsG, h3, h4])) (by simp only [subE, get_cons, Nat.reduceEqDiff, ↓reduceIte, reduceCtorEq, Nat.reduceAdd, and_self, and_true]) (SubA.refl _)
theorem rkinds_w (A : AH) (T : List Txt) (p : Option Addr) (cap : Nat) (hT : TxR A p cap T) (B_ : AH) (hB_ : SubA A B_) : valA Tryd.prog 35 #[.slice p T.length cap] B_ = some (.int .i64 (kindsE T)) := valA_eq (pureA_at (by kernel_rfl) (rkinds_h A T p cap hT) hB_)
theorem rkinds_v (A : AH) (T : List Txt) (p : Option Addr) (cap : Nat) (hT : TxR A p cap T) : valA Tryd.prog 35 #[.slice p T.length cap] A = some (.int .i64 (kindsE T)) := valA_eq (pureA_at (by kernel_rfl) (rkinds_h A T p cap hT) (SubA.refl _))
theorem rdays_h (n : Int) (h : Heap) : CallsH Tryd.prog 34 #[.int .i64 n] h fun r h' => r = .returned (.bool (okD n)) ∧ h' = h := by
  refine callsH_of_den ⟨Tryd.prog, 34, Tryd.f34, 9, [0, 2], _⟩ (args := [_]) Tryd.func34 rfl Tryd.ntmps34 (by simp) ?_
  simp only [argE_nil, argE_cons, ↓vmD, vmV, vmStd, Nat.reduceMul, ↓reduceIte, Nat.reduceAdd, Nat.reduceSub, Nat.reduceEqDiff, Nat.reduceLT, Nat.reduceLeDiff, reduceCtorEq, Int.reduceToNat, Int.reduceLT, Int.reduceLE, Int.reduceEq, Int.reduceNeg, Int.reduceBEq, Int.reduceBNe, String.reduceEq, forall_const, tyS, pbRsX]
  unfold okD
  rfl
theorem rdays_p (n : Int) (h : Heap) (Q : Ending → Heap → Prop) : CallsX Tryd.prog 34 #[.int .i64 n] h Q = Q (.returned (.bool (okD n))) (h) := CallsX.exact (by kernel_rfl) (rdays_h n h)
theorem rdays_q (n : Int) (h : Heap) (nt_ : Nat) (dst_ : Option Nat) (ρ_ : Env) (K_ : Env → Prop) : callQ Tryd.prog nt_ dst_ (.func (.func 34) #[] #[]) [.int .i64 n] ρ_ h K_ = putK nt_ dst_ (.bool (okD n)) ρ_ K_ := callQ_exact (by kernel_rfl) (by kernel_rfl) (rdays_h n h)
theorem rdays_v (n : Int) (A_ : AH) : valA Tryd.prog 34 #[.int .i64 n] A_ = some (.bool (okD n)) := pureA_e (by kernel_rfl) (by kernel_rfl) (fun h => rdays_h n h)
theorem rdaysS_h (r : Rs) (st : Int) : CallA Tryd.prog 19 #[.agg #[.string (bs r.d.code), .int .i64 r.d.d1, .int .i64 r.d.d2, .int .i64 r.d.d3, .int .i64 r.d.d4, .slice r.p1 r.d.cl.length r.c1, .slice r.p2 r.d.df.length r.c2], .int .i64 st] [] (fun u_ _ => u_ = .tuple #[.int .i64 (daysF r.d st).1, .int .i64 (daysF r.d st).2]) := by
  refine callA_of_denA ⟨Tryd.prog, 19, Tryd.f19, 23, [0, 1, 2, 4, 5, 6], [], [], _⟩ (args := [_, _]) Tryd.func19 rfl (by kernel_rfl) Tryd.ntmps19 (by simp) (by kernel_rfl) ?_
  intro ν fr; have nuE := fr.nu
  simp (maxDischargeDepth := 16) only [argE_nil, argE_cons, ↓vmD, vmV, vmStd, Nat.reduceMul, ↓reduceIte, Nat.reduceAdd, Nat.reduceSub, Nat.reduceEqDiff, Nat.reduceLT, Nat.reduceLeDiff, reduceCtorEq, Int.reduceToNat, Int.reduceLT, Int.reduceLE, Int.reduceEq, Int.reduceNeg, Int.reduceBEq, Int.reduceBNe, String.reduceEq, forall_const, ↓vmDA, vmVA, ↓vmQA, vmR, vmRA, ↓vmSA, vmSV, tyS, nuE, SubA.skip, SubA.refl, fr.2, vbRsX, possible_v, days_v, due_v, rkind_v, rdays_v]
  unfold daysF
  all_goals ((repeat' split) <;> (try simp_all) <;> (try omega))
theorem rdaysS_v (r : Rs) (st : Int) (A_ : AH) : valA Tryd.prog 19 #[.agg #[.string (bs r.d.code), .int .i64 r.d.d1, .int .i64 r.d.d2, .int .i64 r.d.d3, .int .i64 r.d.d4, .slice r.p1 r.d.cl.length r.c1, .slice r.p2 r.d.df.length r.c2], .int .i64 st] A_ = some (.tuple #[.int .i64 (daysF r.d st).1, .int .i64 (daysF r.d st).2]) := valA_eq (pureA_of (by kernel_rfl) (rdaysS_h r st))
theorem rdue_h (r : Rs) (st date : Int) : CallA Tryd.prog 21 #[.agg #[.string (bs r.d.code), .int .i64 r.d.d1, .int .i64 r.d.d2, .int .i64 r.d.d3, .int .i64 r.d.d4, .slice r.p1 r.d.cl.length r.c1, .slice r.p2 r.d.df.length r.c2], .int .i64 st, .int .i64 date] [] (fun u_ _ => u_ = .tuple #[.int .i64 (dueF r.d st date).1, .int .i64 (dueF r.d st date).2]) := by
  refine callA_of_denA ⟨Tryd.prog, 21, Tryd.f21, 36, [0, 1, 2, 3, 6, 7, 8, 9], [], [], _⟩ (args := [_, _, _]) Tryd.func21 rfl (by kernel_rfl) Tryd.ntmps21 (by simp) (by kernel_rfl) ?_
  intro ν fr; have nuE := fr.nu
  simp (maxDischargeDepth := 16) only [argE_nil, argE_cons, ↓vmD, vmV, vmStd, Nat.reduceMul, ↓reduceIte, Nat.reduceAdd, Nat.reduceSub, Nat.reduceEqDiff, Nat.reduceLT, Nat.reduceLeDiff, reduceCtorEq, Int.reduceToNat, Int.reduceLT, Int.reduceLE, Int.reduceEq, Int.reduceNeg, Int.reduceBEq, Int.reduceBNe, String.reduceEq, forall_const, ↓vmDA, vmVA, ↓vmQA, vmR, vmRA, ↓vmSA, vmSV, tyS, nuE, SubA.skip, SubA.refl, fr.2, vbRsX, possible_v, days_v, due_v, rkind_v, rdays_v, rdaysS_v]
  unfold dueF
  by_cases h1 : (daysF r.d st).2 = 0
  · simp only [h1, not_true_eq_false, ne_eq, if_false]
    cases h2 : okD (daysF r.d st).1 with
    | false => simp
    | true =>
      simp only [Bool.true_eq_false, if_false]
      simp only [okD, Bool.and_eq_true, decide_eq_true_eq] at h2
      have w : IntKind.i64.wrap (99999 - (daysF r.d st).1) = 99999 - (daysF r.d st).1 := w_i64 (by omega) (by omega)
      rw [w]
      by_cases h3 : date < 0 ∨ 99999 - (daysF r.d st).1 < date
      · have h3' : date < 0 ∨ 99999 < date ∨ 99999 < date + (daysF r.d st).1 := by omega
        simp only [h3, h3', true_or, if_true]
      · have h3' : ¬ (date < 0 ∨ 99999 < date ∨ 99999 < date + (daysF r.d st).1) := by omega
        have w2 : IntKind.i64.wrap (date + (daysF r.d st).1) = date + (daysF r.d st).1 := w_i64 (by omega) (by omega)
        rw [if_neg h3', if_neg h3, w2]
  · simp only [h1, ne_eq, not_false_eq_true, if_true]
theorem rdue_v (r : Rs) (st date : Int) (A_ : AH) : valA Tryd.prog 21 #[.agg #[.string (bs r.d.code), .int .i64 r.d.d1, .int .i64 r.d.d2, .int .i64 r.d.d3, .int .i64 r.d.d4, .slice r.p1 r.d.cl.length r.c1, .slice r.p2 r.d.df.length r.c2], .int .i64 st, .int .i64 date] A_ = some (.tuple #[.int .i64 (dueF r.d st date).1, .int .i64 (dueF r.d st date).2]) := valA_eq (pureA_of (by kernel_rfl) (rdue_h r st date))
def findS (c : Txt) : List Rs → Option Rs
  | [] => none
  | r :: l => if r.d.code = c then some r else findS c l
theorem findS_d (c : Txt) : ∀ L : List Rs, (findS c L).map Rs.d = findR c (L.map Rs.d)
  | [] => rfl
  | r :: l => by simp only [findS, List.map_cons, findR]; split <;> simp [findS_d c l]
theorem findS_mem {c : Txt} : ∀ {L : List Rs} {r : Rs}, findS c L = some r → r ∈ L
  | [], _, h => by cases h
  | x :: l, r, h => by
    simp only [findS] at h
    split at h
    · cases h; simp
    · exact List.mem_cons_of_mem _ (findS_mem h)
theorem rfind_h (A : AH) (L : List Rs) (p : Option Addr) (cap : Nat) (c : Txt) (hL : RsR A p L) (hl : L.length ≤ 9223372036854775807) : CallA Tryd.prog 12 #[.slice p L.length cap, .string (bs c)] A (fun u_ A_ => u_ = .tuple #[.agg (rsC ((findS c L).getD noRs)).toArray, .bool (findS c L).isSome] ∧ SubA A A_) := by
  refine callA_of_denA ⟨Tryd.prog, 12, Tryd.f12, 25, [0, 1, 4, 5, 6], [], [], _⟩ (args := [_, _]) Tryd.func12 rfl (by kernel_rfl) Tryd.ntmps12 (by simp) (by kernel_rfl) ?_
  intro ν fr; have nuE := fr.nu
  simp (maxDischargeDepth := 16) only [argE_nil, argE_cons, ↓vmD, vmV, vmStd, Nat.reduceMul, ↓reduceIte, Nat.reduceAdd, Nat.reduceSub, Nat.reduceEqDiff, Nat.reduceLT, Nat.reduceLeDiff, reduceCtorEq, Int.reduceToNat, Int.reduceLT, Int.reduceLE, Int.reduceEq, Int.reduceNeg, Int.reduceBEq, Int.reduceBNe, String.reduceEq, forall_const, ↓vmDA, vmVA, ↓vmQA, vmR, vmRA, ↓vmSA, vmSV, tyS, nuE, SubA.skip, SubA.refl, fr.2, vbRsX, possible_v, days_v, due_v, rkind_v, rdays_v, rdaysS_v, rdue_v]
  obtain ⟨b0, hb0⟩ : ∃ b0, b0 = ν 0 := ⟨_, rfl⟩
  rw [← hb0]
  have f0 : Vm.look A b0 = none := by rw [hb0]; exact fr.2 0
  obtain ⟨e, l, he, hd, hle, hx⟩ : ∃ (e : Nat) (l : List Rs), e = 0 ∧ l = L.drop e ∧ e ≤ L.length ∧ findS c L = findS c l := ⟨0, L, rfl, rfl, by omega, rfl⟩
  rw [show (6, some (Value.int .i64 0)) = (6, some (Value.int .i64 (e : Int))) by rw [he]; rfl]
  clear he hb0 nuE fr
  induction l generalizing e with
  | nil =>
    obtain ⟨hn1, hn2⟩ := drop_nil hd hle
    have lt : ((e : Int) < (L.length : Int)) = False := eq_false (by omega)
    refine LoopA.intro (by kernel_rfl) ?_
    intro ν fr; have nuE := And.intro (fr.mem (b := b0) (by simp)) (fr.nu)
    simp (maxDischargeDepth := 16) only [argE_nil, argE_cons, ↓vmD, vmV, vmStd, Nat.reduceMul, ↓reduceIte, Nat.reduceAdd, Nat.reduceSub, Nat.reduceEqDiff, Nat.reduceLT, Nat.reduceLeDiff, reduceCtorEq, Int.reduceToNat, Int.reduceLT, Int.reduceLE, Int.reduceEq, Int.reduceNeg, Int.reduceBEq, Int.reduceBNe, String.reduceEq, forall_const, ↓vmDA, vmVA, ↓vmQA, vmR, vmRA, ↓vmSA, vmSV, tyS, nuE, SubA.skip, SubA.refl, fr.2, vbRsX, possible_v, days_v, due_v, rkind_v, rdays_v, rdaysS_v, rdue_v, lt]
    rw [hx]; exact ⟨rfl, SubA.fresh f0 (SubA.refl _)⟩
  | cons x l ih =>
    obtain ⟨ha, hlt, hd', htk⟩ := drop_some hd
    have lt : ((e : Int) < (L.length : Int)) = True := eq_true (by omega)
    have li : ((e : Int) < 0) = False := eq_false (by omega)
    have we : IntKind.i64.wrap ((e : Int) + 1) = ((e + 1 : Nat) : Int) := by rw [w_i64 (by omega) (by omega)]; omega
    obtain ⟨bk, off, cs, ty, fr0, hp0, hbk, hcr, hcc⟩ := hL.1.at ha
    have hc0 : cs[off + e * 7]? = some (.string (bs x.d.code)) := hcc 0 _ rfl
    obtain ⟨n1, n2⟩ := look_ne f0 hbk
    subst hp0
    simp only [rsC] at hcr
    have t1 : ((bs x.d.code).toList = (bs c).toList) = (x.d.code = c) := by rw [bs_list, bs_list]
    refine LoopA.intro (by kernel_rfl) ?_
    intro ν fr; have nuE := And.intro (fr.mem (b := b0) (by simp)) (fr.nu)
    by_cases hc : x.d.code = c
    · have hc' := eq_true hc
      have hf : findS c (x :: l) = some x := by simp only [findS, if_pos hc]
      rw [hx, hf]
      simp (maxDischargeDepth := 16) only [argE_nil, argE_cons, ↓vmD, vmV, vmStd, Nat.reduceMul, ↓reduceIte, Nat.reduceAdd, Nat.reduceSub, Nat.reduceEqDiff, Nat.reduceLT, Nat.reduceLeDiff, reduceCtorEq, Int.reduceToNat, Int.reduceLT, Int.reduceLE, Int.reduceEq, Int.reduceNeg, Int.reduceBEq, Int.reduceBNe, String.reduceEq, forall_const, ↓vmDA, vmVA, ↓vmQA, vmR, vmRA, ↓vmSA, vmSV, tyS, nuE, SubA.skip, SubA.refl, fr.2, vbRsX, possible_v, days_v, due_v, rkind_v, rdays_v, rdaysS_v, rdue_v, lt, li, hbk, n1, n2, hc0, hcr, t1, hc', we]
      exact ⟨rfl, SubA.fresh f0 (SubA.refl _)⟩
    · have hc' := eq_false hc
      simp (maxDischargeDepth := 16) only [argE_nil, argE_cons, ↓vmD, vmV, vmStd, Nat.reduceMul, ↓reduceIte, Nat.reduceAdd, Nat.reduceSub, Nat.reduceEqDiff, Nat.reduceLT, Nat.reduceLeDiff, reduceCtorEq, Int.reduceToNat, Int.reduceLT, Int.reduceLE, Int.reduceEq, Int.reduceNeg, Int.reduceBEq, Int.reduceBNe, String.reduceEq, forall_const, ↓vmDA, vmVA, ↓vmQA, vmR, vmRA, ↓vmSA, vmSV, tyS, nuE, SubA.skip, SubA.refl, fr.2, vbRsX, possible_v, days_v, due_v, rkind_v, rdays_v, rdaysS_v, rdue_v, lt, li, hbk, n1, n2, hc0, t1, hc', we]
      exact LoopA.weak (ih (e + 1) hd' (by omega) (by rw [hx]; simp only [findS, if_neg hc])) (by simp only [subE, get_cons, Nat.reduceEqDiff, ↓reduceIte, reduceCtorEq, Nat.reduceAdd, and_self, and_true]) (SubA.refl _)
theorem rfind_w (A : AH) (L : List Rs) (p : Option Addr) (cap : Nat) (c : Txt) (hL : RsR A p L) (hl : L.length ≤ 9223372036854775807) (B_ : AH) (hB_ : SubA A B_) : valA Tryd.prog 12 #[.slice p L.length cap, .string (bs c)] B_ = some (.tuple #[.agg (rsC ((findS c L).getD noRs)).toArray, .bool (findS c L).isSome]) := valA_eq (pureA_at (by kernel_rfl) (rfind_h A L p cap c hL hl) hB_)
theorem rfind_v (A : AH) (L : List Rs) (p : Option Addr) (cap : Nat) (c : Txt) (hL : RsR A p L) (hl : L.length ≤ 9223372036854775807) : valA Tryd.prog 12 #[.slice p L.length cap, .string (bs c)] A = some (.tuple #[.agg (rsC ((findS c L).getD noRs)).toArray, .bool (findS c L).isSome]) := valA_eq (pureA_at (by kernel_rfl) (rfind_h A L p cap c hL hl) (SubA.refl _))
set_option linter.unusedSimpArgs false
set_option linter.unusedVariables false
set_option maxHeartbeats 2000000
set_option maxRecDepth 20000
theorem rchk_h (A : AH) (L : List Rs) (p : Option Addr) (cap : Nat) (hL : RsR A p L) (hl : L.length ≤ cap ∧ cap ≤ 9223372036854775807) : CallA Tryd.prog 14 #[.slice p L.length cap] A (fun u_ A_ => u_ = .int .i64 (chkE (L.map Rs.d)) ∧ SubA A A_) := by
  refine callA_of_denA ⟨Tryd.prog, 14, Tryd.f14, 100, [0, 2, 3, 5], [], [(6, .p [(0, 0), (1, 0), (2, 0), (3, 0), (4, 0), (5, 0), (6, 0), (7, 0), (8, 0), (9, 0), (10, 0), (11, 0), (12, 1), (13, 2), (14, 0)])], _⟩ (args := [_]) Tryd.func14 rfl (by kernel_rfl) Tryd.ntmps14 (by simp) (by kernel_rfl) ?_
  intro ν fr; have nuE := fr.nu
  by_cases h8 : 32 < L.length
  · have h8' : ((32 : Int) < (L.length : Int)) = True := eq_true (by omega)
    have hk : chkE (L.map Rs.d) = 3 := if_pos (by simpa using h8)
    simp (maxDischargeDepth := 16) only [argE_nil, argE_cons, ↓vmD, vmV, vmStd, Nat.reduceMul, ↓reduceIte, Nat.reduceAdd, Nat.reduceSub, Nat.reduceEqDiff, Nat.reduceLT, Nat.reduceLeDiff, reduceCtorEq, Int.reduceToNat, Int.reduceLT, Int.reduceLE, Int.reduceEq, Int.reduceNeg, Int.reduceBEq, Int.reduceBNe, String.reduceEq, forall_const, ↓vmDA, vmVA, ↓vmQA, vmR, vmRA, ↓vmSA, vmSV, tyS, nuE, SubA.skip, SubA.refl, fr.2, vbRsX, possible_v, days_v, due_v, rkind_v, rdays_v, rdaysS_v, rdue_v, h8', hk]
  have h8' : ((32 : Int) < (L.length : Int)) = False := eq_false (by omega)
  simp (maxDischargeDepth := 16) only [argE_nil, argE_cons, ↓vmD, vmV, vmStd, Nat.reduceMul, ↓reduceIte, Nat.reduceAdd, Nat.reduceSub, Nat.reduceEqDiff, Nat.reduceLT, Nat.reduceLeDiff, reduceCtorEq, Int.reduceToNat, Int.reduceLT, Int.reduceLE, Int.reduceEq, Int.reduceNeg, Int.reduceBEq, Int.reduceBNe, String.reduceEq, forall_const, ↓vmDA, vmVA, ↓vmQA, vmR, vmRA, ↓vmSA, vmSV, tyS, nuE, SubA.skip, SubA.refl, fr.2, vbRsX, possible_v, days_v, due_v, rkind_v, rdays_v, rdaysS_v, rdue_v, h8']
  obtain ⟨e, l, he, hd, hle, hx⟩ : ∃ (e : Nat) (l : List Rs), e = 0 ∧ l = L.drop e ∧ e ≤ L.length ∧ chkE (L.map Rs.d) = chkG ((L.take e).map Rs.d) (l.map Rs.d) := ⟨0, L, rfl, rfl, by omega, if_neg (by simpa using h8)⟩
  rw [show (3, some (Value.int .i64 0)) = (3, some (Value.int .i64 (e : Int))) by rw [he]; rfl]
  clear he nuE fr
  induction l generalizing e with
  | nil =>
    obtain ⟨hn1, hn2⟩ := drop_nil hd hle
    have lt : ((e : Int) < (L.length : Int)) = False := eq_false (by omega)
    refine LoopA.intro (by kernel_rfl) ?_
    intro ν fr; have nuE := fr.nu
    simp (maxDischargeDepth := 16) only [argE_nil, argE_cons, ↓vmD, vmV, vmStd, Nat.reduceMul, ↓reduceIte, Nat.reduceAdd, Nat.reduceSub, Nat.reduceEqDiff, Nat.reduceLT, Nat.reduceLeDiff, reduceCtorEq, Int.reduceToNat, Int.reduceLT, Int.reduceLE, Int.reduceEq, Int.reduceNeg, Int.reduceBEq, Int.reduceBNe, String.reduceEq, forall_const, ↓vmDA, vmVA, ↓vmQA, vmR, vmRA, ↓vmSA, vmSV, tyS, nuE, SubA.skip, SubA.refl, fr.2, vbRsX, possible_v, days_v, due_v, rkind_v, rdays_v, rdaysS_v, rdue_v, lt]
    rw [hx]; rfl
  | cons x l ih =>
    obtain ⟨ha, hlt, hd', htk⟩ := drop_some hd
    have lt : ((e : Int) < (L.length : Int)) = True := eq_true (by omega)
    have li : ((e : Int) < 0) = False := eq_false (by omega)
    have we : IntKind.i64.wrap ((e : Int) + 1) = ((e + 1 : Nat) : Int) := by rw [w_i64 (by omega) (by omega)]; omega
    obtain ⟨bk, off, cs, ty, fr0, hp0, hbk, hcr, hcc⟩ := hL.1.at ha
    subst hp0
    have hc0 : cs[off + e * 7]? = some (.string (bs x.d.code)) := hcc 0 _ rfl
    have hc1 : cs[off + e * 7 + 1]? = some (.int .i64 x.d.d1) := hcc 1 _ rfl
    have hc2 : cs[off + e * 7 + 2]? = some (.int .i64 x.d.d2) := hcc 2 _ rfl
    have hc3 : cs[off + e * 7 + 3]? = some (.int .i64 x.d.d3) := hcc 3 _ rfl
    have hc4 : cs[off + e * 7 + 4]? = some (.int .i64 x.d.d4) := hcc 4 _ rfl
    have hc5 : cs[off + e * 7 + 5]? = some (.slice x.p1 x.d.cl.length x.c1) := hcc 5 _ rfl
    have hc6 : cs[off + e * 7 + 6]? = some (.slice x.p2 x.d.df.length x.c2) := hcc 6 _ rfl
    have hxr := hL.2 x (List.mem_of_getElem? ha)
    have hcl : (e : Int) ≤ (cap : Int) := by omega
    have htl : (L.take e).length = e := by rw [List.length_take]; omega
    have hfi := rfind_w A (L.take e) (some ⟨bk, off, none⟩) cap x.d.code (hL.take e) (by omega) A (SubA.refl A)
    rw [htl] at hfi
    generalize hy : (findS x.d.code (L.take e)).getD noRs = y at hfi
    have hfs : (findS x.d.code (L.take e)).isSome = (findR x.d.code ((L.take e).map Rs.d)).isSome := by rw [← findS_d]; cases findS x.d.code (L.take e) <;> rfl
    have hG : chkG ((L.take e).map Rs.d) ((x :: l).map Rs.d) = if nameF (bs x.d.code) = false then 5 else if (findR x.d.code ((L.take e).map Rs.d)).isSome = true then 7 else if okDs x.d = false then 4 else if kindsE x.d.cl ≠ 0 then kindsE x.d.cl else if kindsE x.d.df ≠ 0 then kindsE x.d.df else chkG ((L.take (e + 1)).map Rs.d) (l.map Rs.d) := by
      rw [htk, List.map_append]; rfl
    rw [hG] at hx
    refine LoopA.intro (by kernel_rfl) ?_
    intro ν fr; have nuE := fr.nu
    obtain ⟨n1, n2⟩ := look_ne (fr.2 0) hbk
    have f0 := fr.2 0
    have v1 := fun o => rkinds_w A x.d.cl x.p1 x.c1 hxr.1 ((ν 0, o) :: A) (SubA.fresh f0 (SubA.refl _))
    have v2 := fun o => rkinds_w A x.d.df x.p2 x.c2 hxr.2 ((ν 0, o) :: A) (SubA.fresh f0 (SubA.refl _))
    simp (maxDischargeDepth := 16) only [argE_nil, argE_cons, ↓vmD, vmV, vmStd, Nat.reduceMul, ↓reduceIte, Nat.reduceAdd, Nat.reduceSub, Nat.reduceEqDiff, Nat.reduceLT, Nat.reduceLeDiff, reduceCtorEq, Int.reduceToNat, Int.reduceLT, Int.reduceLE, Int.reduceEq, Int.reduceNeg, Int.reduceBEq, Int.reduceBNe, String.reduceEq, forall_const, ↓vmDA, vmVA, ↓vmQA, vmR, vmRA, ↓vmSA, vmSV, tyS, nuE, SubA.skip, SubA.refl, fr.2, vbRsX, possible_v, days_v, due_v, rkind_v, rdays_v, rdaysS_v, rdue_v, lt, li, hbk, n1, n2, hc0, hc1, hc2, hc3, hc4, hc5, hc6, we, hcl, hfi, hfs, rsC, v1, v2, ite_self, Nat.sub_zero]
    unfold okDs at hx
    cases h1 : nameF (bs x.d.code) with
    | false => rw [hx]; simp [h1]
    | true =>
    cases h2 : (findR x.d.code ((L.take e).map Rs.d)).isSome with
    | true => simp only [h1, h2, Bool.true_eq_false, if_false, if_true] at hx ⊢; rw [hx]
    | false =>
    simp only [h1, h2, Bool.true_eq_false, Bool.false_eq_true, if_false] at hx ⊢
    cases q1 : okD x.d.d1 with
    | false => simp [q1] at hx ⊢; exact hx.symm
    | true =>
    cases q2 : okD x.d.d2 with
    | false => simp [q1, q2] at hx ⊢; exact hx.symm
    | true =>
    cases q3 : okD x.d.d3 with
    | false => simp [q1, q2, q3] at hx ⊢; exact hx.symm
    | true =>
    cases q4 : okD x.d.d4 with
    | false => simp [q1, q2, q3, q4] at hx ⊢; exact hx.symm
    | true =>
    simp only [q1, q2, q3, q4, Bool.and_self, Bool.true_eq_false, if_false, if_true] at hx ⊢
    by_cases k1 : kindsE x.d.cl = 0
    · by_cases k2 : kindsE x.d.df = 0
      · simp only [k1, k2, ne_eq, not_true_eq_false, if_false] at hx ⊢
        exact LoopA.at (SubA.fresh f0 (SubA.refl _)) (LoopA.weak (ih (e + 1) hd' (by omega) hx) (by simp only [subE, get_cons, Nat.reduceEqDiff, ↓reduceIte, reduceCtorEq, Nat.reduceAdd, and_self, and_true]) (SubA.refl _))
      · simp only [k1, k2, ne_eq, not_true_eq_false, not_false_eq_true, if_false, if_true] at hx ⊢; rw [hx]
    · simp only [k1, ne_eq, not_false_eq_true, if_true] at hx ⊢; rw [hx]
theorem rchk_w (A : AH) (L : List Rs) (p : Option Addr) (cap : Nat) (hL : RsR A p L) (hl : L.length ≤ cap ∧ cap ≤ 9223372036854775807) (B_ : AH) (hB_ : SubA A B_) : valA Tryd.prog 14 #[.slice p L.length cap] B_ = some (.int .i64 (chkE (L.map Rs.d))) := valA_eq (pureA_at (by kernel_rfl) (rchk_h A L p cap hL hl) hB_)
theorem rchk_v (A : AH) (L : List Rs) (p : Option Addr) (cap : Nat) (hL : RsR A p L) (hl : L.length ≤ cap ∧ cap ≤ 9223372036854775807) : valA Tryd.prog 14 #[.slice p L.length cap] A = some (.int .i64 (chkE (L.map Rs.d))) := valA_eq (pureA_at (by kernel_rfl) (rchk_h A L p cap hL hl) (SubA.refl _))
theorem rneeds_h (A : AH) (r : Rs) (st : Int) (hr : InR A r) (hl : r.d.cl.length ≤ 8000000000000 ∧ r.d.df.length ≤ 8000000000000) : CallA Tryd.prog 24 #[.agg #[.string (bs r.d.code), .int .i64 r.d.d1, .int .i64 r.d.d2, .int .i64 r.d.d3, .int .i64 r.d.d4, .slice r.p1 r.d.cl.length r.c1, .slice r.p2 r.d.df.length r.c2], .int .i64 st] A (fun u_ A_ => ∃ v B, u_ = v ∧ OwnL strC 1 9 v B (needsF r.d st) ∧ Dis B A ∧ SubA (B ++ A) A_) := by
  refine callA_of_denA ⟨Tryd.prog, 24, Tryd.f24, 18, [0, 1, 2, 4, 5], [], [], _⟩ (args := [_, _]) Tryd.func24 rfl (by kernel_rfl) Tryd.ntmps24 (by simp) (by kernel_rfl) ?_
  intro ν fr; have nuE := fr.nu
  by_cases s1 : st = 1
  · have s1' := eq_true s1
    simp (maxDischargeDepth := 16) only [argE_nil, argE_cons, ↓vmD, vmV, vmStd, Nat.reduceMul, ↓reduceIte, Nat.reduceAdd, Nat.reduceSub, Nat.reduceEqDiff, Nat.reduceLT, Nat.reduceLeDiff, reduceCtorEq, Int.reduceToNat, Int.reduceLT, Int.reduceLE, Int.reduceEq, Int.reduceNeg, Int.reduceBEq, Int.reduceBNe, String.reduceEq, forall_const, ↓vmDA, vmVA, ↓vmQA, vmR, vmRA, ↓vmSA, vmSV, tyS, nuE, SubA.skip, SubA.refl, fr.2, vbRsX, possible_v, days_v, due_v, rkind_v, rdays_v, rdaysS_v, rdue_v, s1', sc_s0]
    have f0 := fr.2 0
    have g1 := fr.2 1
    have f1 : ∀ o, Vm.look ((ν 0, o) :: A) (ν 1) = none := fun o => by simp [Vm.look, nuE, fr.2 1]
    refine RunA.use ?_
    refine append_src (m := r.d.cl.length) (news := r.d.cl.flatMap strC) (B := [(ν 1, .cells #[] 9)]) slc25 zro9 rfl (by decide) (OwnL.at0 strC 1 _ _) (SubA.left [_] _) ?_ (flat_one str_one r.d.cl) (by simp only [maxLen, List.length_nil]; omega) (by simp only [List.length_nil]; omega) ?_
    · rcases hr.1.1.src with h | ⟨g, off, h1, h2⟩
      · exact .inl h
      · refine .inr ⟨g, off, h1, ?_⟩
        rw [← h2]
        obtain ⟨cc, ce, cfr, hlook⟩ := rdCS_some h2
        rw [hlook]
        congr 1
        exact SubA.fresh (f1 _) (SubA.fresh f0 (SubA.refl _)) _ _ hlook
    intro v' B' ho' hb'
    refine ⟨B' ++ A, SubA.app (SubA.fresh (f1 _) (SubA.fresh f0 (SubA.refl _))), ?_⟩
    intro ν2 fr2
    have fr := fr2
    have nuE := fr.nu
    simp (maxDischargeDepth := 16) only [argE_nil, argE_cons, ↓vmD, vmV, vmStd, Nat.reduceMul, ↓reduceIte, Nat.reduceAdd, Nat.reduceSub, Nat.reduceEqDiff, Nat.reduceLT, Nat.reduceLeDiff, reduceCtorEq, Int.reduceToNat, Int.reduceLT, Int.reduceLE, Int.reduceEq, Int.reduceNeg, Int.reduceBEq, Int.reduceBNe, String.reduceEq, forall_const, ↓vmDA, vmVA, ↓vmQA, vmR, vmRA, ↓vmSA, vmSV, tyS, nuE, SubA.skip, SubA.refl, fr.2, vbRsX, possible_v, days_v, due_v, rkind_v, rdays_v, rdaysS_v, rdue_v]
    refine ⟨_, B', rfl, ?_, ap_dis hb' (Dis.one g1) (SubA.fresh (f1 _) (SubA.fresh f0 (SubA.refl _))), SubA.refl _⟩
    have hn : needsF r.d st = r.d.cl := by simp [needsF, s1]
    rw [hn]
    unfold OwnL
    simpa using ho'
  · have s1' := eq_false s1
    by_cases s2 : st = 2
    · have s2' := eq_true s2
      simp (maxDischargeDepth := 16) only [argE_nil, argE_cons, ↓vmD, vmV, vmStd, Nat.reduceMul, ↓reduceIte, Nat.reduceAdd, Nat.reduceSub, Nat.reduceEqDiff, Nat.reduceLT, Nat.reduceLeDiff, reduceCtorEq, Int.reduceToNat, Int.reduceLT, Int.reduceLE, Int.reduceEq, Int.reduceNeg, Int.reduceBEq, Int.reduceBNe, String.reduceEq, forall_const, ↓vmDA, vmVA, ↓vmQA, vmR, vmRA, ↓vmSA, vmSV, tyS, nuE, SubA.skip, SubA.refl, fr.2, vbRsX, possible_v, days_v, due_v, rkind_v, rdays_v, rdaysS_v, rdue_v, s1', s2', sc_s0]
      have f0 := fr.2 0
      have g1 := fr.2 1
      have f1 : ∀ o, Vm.look ((ν 0, o) :: A) (ν 1) = none := fun o => by simp [Vm.look, nuE, fr.2 1]
      refine RunA.use ?_
      refine append_src (m := r.d.df.length) (news := r.d.df.flatMap strC) (B := [(ν 1, .cells #[] 9)]) slc25 zro9 rfl (by decide) (OwnL.at0 strC 1 _ _) (SubA.left [_] _) ?_ (flat_one str_one r.d.df) (by simp only [maxLen, List.length_nil]; omega) (by simp only [List.length_nil]; omega) ?_
      · rcases hr.2.1.src with h | ⟨g, off, h1, h2⟩
        · exact .inl h
        · refine .inr ⟨g, off, h1, ?_⟩
          rw [← h2]
          obtain ⟨cc, ce, cfr, hlook⟩ := rdCS_some h2
          rw [hlook]
          congr 1
          exact SubA.fresh (f1 _) (SubA.fresh f0 (SubA.refl _)) _ _ hlook
      intro v' B' ho' hb'
      refine ⟨B' ++ A, SubA.app (SubA.fresh (f1 _) (SubA.fresh f0 (SubA.refl _))), ?_⟩
      intro ν2 fr2
      have fr := fr2
      have nuE := fr.nu
      simp (maxDischargeDepth := 16) only [argE_nil, argE_cons, ↓vmD, vmV, vmStd, Nat.reduceMul, ↓reduceIte, Nat.reduceAdd, Nat.reduceSub, Nat.reduceEqDiff, Nat.reduceLT, Nat.reduceLeDiff, reduceCtorEq, Int.reduceToNat, Int.reduceLT, Int.reduceLE, Int.reduceEq, Int.reduceNeg, Int.reduceBEq, Int.reduceBNe, String.reduceEq, forall_const, ↓vmDA, vmVA, ↓vmQA, vmR, vmRA, ↓vmSA, vmSV, tyS, nuE, SubA.skip, SubA.refl, fr.2, vbRsX, possible_v, days_v, due_v, rkind_v, rdays_v, rdaysS_v, rdue_v]
      refine ⟨_, B', rfl, ?_, ap_dis hb' (Dis.one g1) (SubA.fresh (f1 _) (SubA.fresh f0 (SubA.refl _))), SubA.refl _⟩
      have hn : needsF r.d st = r.d.df := by simp [needsF, s1, s2]
      rw [hn]
      unfold OwnL
      simpa using ho'
    · have s2' := eq_false s2
      simp (maxDischargeDepth := 16) only [argE_nil, argE_cons, ↓vmD, vmV, vmStd, Nat.reduceMul, ↓reduceIte, Nat.reduceAdd, Nat.reduceSub, Nat.reduceEqDiff, Nat.reduceLT, Nat.reduceLeDiff, reduceCtorEq, Int.reduceToNat, Int.reduceLT, Int.reduceLE, Int.reduceEq, Int.reduceNeg, Int.reduceBEq, Int.reduceBNe, String.reduceEq, forall_const, ↓vmDA, vmVA, ↓vmQA, vmR, vmRA, ↓vmSA, vmSV, tyS, nuE, SubA.skip, SubA.refl, fr.2, vbRsX, possible_v, days_v, due_v, rkind_v, rdays_v, rdaysS_v, rdue_v, s1', s2']
      exact ⟨_, [], rfl, by simp only [needsF, s1, s2, if_false]; exact OwnL.nil _ _ _, Dis.nil _, SubA.fresh (fr.2 0) (SubA.refl _)⟩

end Go.Proofs.YtamiclgnehfhpaaDoor
