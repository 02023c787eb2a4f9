/-
Reasons: as data, as cells; the walks of the lists of texts, of Days, Due, Needs and Find.
Conditions: none.
-/
import Derived.Test.YtiholbpchhifiaaGreatDoorLst
import Derived.Test.YtiholbpchhifiaaGreatDoorNam
namespace Go.Proofs.YtiholbpchhifiaaGreatDoor
open Go.Vm
set_option linter.unusedSimpArgs false
set_option linter.unusedVariables false
set_option maxHeartbeats 1000000
set_option maxRecDepth 20000
theorem vbRsw : type_of% (And.intro @slIndexByte_v (And.intro @indexByte_v (And.intro @indexRune_v (And.intro @containsRune_v (And.intro @classOf_v (And.intro @isWordByte_v (And.intro @wordAt_v (@isName_v)))))))) := And.intro @slIndexByte_v (And.intro @indexByte_v (And.intro @indexRune_v (And.intro @containsRune_v (And.intro @classOf_v (And.intro @isWordByte_v (And.intro @wordAt_v (@isName_v)))))))
/-- A reason's data. -/
structure Rn where
  code : Txt
  d1 : Int
  d2 : Int
  d3 : Int
  d4 : Int
  cl : List Txt
  df : List Txt
/-- A reason, and where its lists lie. -/
structure Rs where
  d : Rn
  p1 : Option Addr
  c1 : Nat
  p2 : Option Addr
  c2 : Nat
def rsC (r : Rs) : List Value := [.string (bs r.d.code), .int .i64 r.d.d1, .int .i64 r.d.d2, .int .i64 r.d.d3, .int .i64 r.d.d4, .slice r.p1 r.d.cl.length r.c1, .slice r.p2 r.d.df.length r.c2]
theorem rsC_len (r : Rs) : (rsC r).length = 7 := rfl
def noRn : Rn := ⟨[], 0, 0, 0, 0, [], []⟩
def noRs : Rs := ⟨noRn, none, 0, none, 0⟩
def InR (A : AH) (r : Rs) : Prop := TxR A r.p1 r.c1 r.d.cl ∧ TxR A r.p2 r.c2 r.d.df
theorem InR.mono {A B : AH} {r : Rs} (h : InR A r) (hs : SubA A B) : InR B r := ⟨h.1.mono hs, h.2.mono hs⟩
/-- A table, to be read. -/
def RsR (A : AH) (p : Option Addr) (L : List Rs) : Prop := StR rsC 7 A p L ∧ ∀ r ∈ L, InR A r
theorem RsR.mono {A B : AH} {p : Option Addr} {L : List Rs} (h : RsR A p L) (hs : SubA A B) : RsR B p L := ⟨h.1.mono hs, fun r hr => (h.2 r hr).mono hs⟩
theorem RsR.nil {A : AH} {p : Option Addr} : RsR A p [] := ⟨StR.nil, fun r hr => by cases hr⟩
theorem RsR.take {A : AH} {p : Option Addr} {L : List Rs} (h : RsR A p L) (i : Nat) : RsR A p (L.take i) := ⟨StR.take h.1 i, fun r hr => h.2 r (List.mem_of_mem_take hr)⟩
def claimT : Txt := [99, 108, 97, 105, 109]
def defenceT : Txt := [100, 101, 102, 101, 110, 99, 101]
def kindF (s : Txt) : Bool := nameF (bs s) && (!decide (s = claimT) && !decide (s = defenceT))
def kindsG (dn : List Txt) : List Txt → Int
  | [] => 0
  | k :: r => if kindF k = false then 5 else if k ∈ dn then 7 else kindsG (dn ++ [k]) r
def kindsE (l : List Txt) : Int := if 8 < l.length then 3 else kindsG [] l
def okD (n : Int) : Bool := decide (1 ≤ n) && decide (n ≤ 1000)
def findR (c : Txt) : List Rn → Option Rn
  | [] => none
  | r :: l => if r.code = c then some r else findR c l
def okDs (r : Rn) : Bool := okD r.d1 && (okD r.d2 && (okD r.d3 && okD r.d4))
def chkG (dn : List Rn) : List Rn → Int
  | [] => 0
  | r :: l => if nameF (bs r.code) = false then 5 else if (findR r.code dn).isSome = true then 7 else if okDs r = false then 4 else if kindsE r.cl ≠ 0 then kindsE r.cl else if kindsE r.df ≠ 0 then kindsE r.df else chkG (dn ++ [r]) l
def chkE (l : List Rn) : Int := if 32 < l.length then 3 else chkG [] l
def daysF (r : Rn) (stage : Int) : Int × Int := if stage = 0 then (r.d1, 0) else if stage = 1 then (r.d2, 0) else if stage = 2 then (r.d3, 0) else if stage = 3 then (r.d4, 0) else (0, 8)
def dueF (r : Rn) (stage date : Int) : Int × Int :=
  if (daysF r stage).2 ≠ 0 then (0, (daysF r stage).2) else if okD (daysF r stage).1 = false then (0, 4)
  else if date < 0 ∨ 99999 < date ∨ 99999 < date + (daysF r stage).1 then (0, 14) else (date + (daysF r stage).1, 0)
def needsF (r : Rn) (stage : Int) : List Txt := if stage = 1 then r.cl else if stage = 2 then r.df else []
theorem findR_some {c : Txt} : ∀ {L : List Rn} {r : Rn}, findR c L = some r → r ∈ L ∧ r.code = c
  | [], _, h => by cases h
  | x :: l, r, h => by
    simp only [findR] at h
    split at h
    · rename_i e; cases h; exact ⟨by simp, e⟩
    · have := findR_some h; exact ⟨by simp [this.1], this.2⟩
set_option linter.unusedSimpArgs false
set_option linter.unusedVariables false
set_option maxHeartbeats 2000000
set_option maxRecDepth 20000
theorem sc_s0 : sliceCells Tryz.prog 37 0 [] = some (9, #[]) := by kernel_rfl
theorem sc_s2 (a b : ByteArray) : sliceCells Tryz.prog 37 2 [(0, .string a), (1, .string b)] = some (9, #[.string a, .string b]) := by kernel_rfl
theorem cloneS_h (A : AH) (T : List Txt) (p : Option Addr) (cap : Nat) (hT : TxR A p cap T) (hl : T.length ≤ 8000000000000) : CallA Tryz.prog 38 #[.slice p T.length cap] A (fun u_ A_ => ∃ v B, u_ = v ∧ OwnL strC 1 9 v B T ∧ Dis B A ∧ SubA (B ++ A) A_) := by
  refine callA_of_denA ⟨Tryz.prog, 38, Tryz.f38, 8, [0, 2], [], [], _⟩ (args := [_]) Tryz.func38 rfl (by kernel_rfl) Tryz.ntmps38 (by simp) (by kernel_rfl) ?_
  intro ν fr; have nuE := fr.nu
  have hn := hT.isNone
  cases hp : p.isNone with
  | true =>
    have := hn hp
    subst this
    simp (maxDischargeDepth := 16) only [argE_nil, argE_cons, ↓vmD, vmV, vmStd, Nat.reduceMul, ↓reduceIte, Nat.reduceAdd, Nat.reduceSub, Nat.reduceEqDiff, Nat.reduceLT, Nat.reduceLeDiff, reduceCtorEq, Int.reduceToNat, Int.reduceLT, Int.reduceLE, Int.reduceEq, Int.reduceNeg, Int.reduceBEq, Int.reduceBNe, String.reduceEq, forall_const, ↓vmDA, vmVA, ↓vmQA, vmR, vmRA, ↓vmSA, vmSV, tyS, nuE, SubA.skip, SubA.refl, fr.2, vbRsw, hp]
    exact ⟨_, [], rfl, OwnL.nil _ _ _, Dis.nil _, SubA.refl _⟩
  | false =>
    simp (maxDischargeDepth := 16) only [argE_nil, argE_cons, ↓vmD, vmV, vmStd, Nat.reduceMul, ↓reduceIte, Nat.reduceAdd, Nat.reduceSub, Nat.reduceEqDiff, Nat.reduceLT, Nat.reduceLeDiff, reduceCtorEq, Int.reduceToNat, Int.reduceLT, Int.reduceLE, Int.reduceEq, Int.reduceNeg, Int.reduceBEq, Int.reduceBNe, String.reduceEq, forall_const, ↓vmDA, vmVA, ↓vmQA, vmR, vmRA, ↓vmSA, vmSV, tyS, nuE, SubA.skip, SubA.refl, fr.2, vbRsw, hp, sc_s0]
    have f0 := fr.2 0
    refine RunA.use ?_
    refine append_src (m := T.length) (news := T.flatMap strC) (B := [(ν 0, .cells #[] 9)]) slc37 zro9 rfl (by decide) (OwnL.at0 strC 1 _ _) (SubA.left [_] _) ?_ (flat_one str_one T) (by simp only [maxLen, List.length_nil]; omega) (by simp only [List.length_nil]; omega) ?_
    · rcases hT.1.src with h | ⟨g, off, h1, h2⟩
      · exact .inl h
      · refine .inr ⟨g, off, h1, ?_⟩
        rw [← h2]
        obtain ⟨cc, ce, cfr, hlook⟩ := rdCS_some h2
        rw [hlook]
        congr 1
        exact SubA.fresh f0 (SubA.refl _) _ _ hlook
    intro v' B' ho' hb'
    refine ⟨B' ++ A, SubA.app (SubA.fresh f0 (SubA.refl _)), ?_⟩
    intro ν2 fr2
    have fr := fr2
    have nuE := fr.nu
    simp (maxDischargeDepth := 16) only [argE_nil, argE_cons, ↓vmD, vmV, vmStd, Nat.reduceMul, ↓reduceIte, Nat.reduceAdd, Nat.reduceSub, Nat.reduceEqDiff, Nat.reduceLT, Nat.reduceLeDiff, reduceCtorEq, Int.reduceToNat, Int.reduceLT, Int.reduceLE, Int.reduceEq, Int.reduceNeg, Int.reduceBEq, Int.reduceBNe, String.reduceEq, forall_const, ↓vmDA, vmVA, ↓vmQA, vmR, vmRA, ↓vmSA, vmSV, tyS, nuE, SubA.skip, SubA.refl, fr.2, vbRsw]
    refine ⟨_, B', rfl, ?_, ap_dis hb' (Dis.one f0) (SubA.fresh f0 (SubA.refl _)), SubA.refl _⟩
    unfold OwnL
    simpa using ho'

theorem indexS_h (A : AH) (T : List Txt) (p : Option Addr) (cap : Nat) (s : Txt) (hT : TxR A p cap T) : CallA Tryz.prog 34 #[.slice p T.length cap, .string (bs s)] A (fun u_ A_ => u_ = .int .i64 (optI (idxT s T)) ∧ SubA A A_) := by
  refine callA_of_denA ⟨Tryz.prog, 34, Tryz.f34, 19, [0, 1, 4, 5, 7, 8], [], [], _⟩ (args := [_, _]) Tryz.func34 rfl (by kernel_rfl) Tryz.ntmps34 (by simp) (by kernel_rfl) ?_
  intro ν fr; have nuE := fr.nu
  simp (maxDischargeDepth := 16) only [argE_nil, argE_cons, ↓vmD, vmV, vmStd, Nat.reduceMul, ↓reduceIte, Nat.reduceAdd, Nat.reduceSub, Nat.reduceEqDiff, Nat.reduceLT, Nat.reduceLeDiff, reduceCtorEq, Int.reduceToNat, Int.reduceLT, Int.reduceLE, Int.reduceEq, Int.reduceNeg, Int.reduceBEq, Int.reduceBNe, String.reduceEq, forall_const, ↓vmDA, vmVA, ↓vmQA, vmR, vmRA, ↓vmSA, vmSV, tyS, nuE, SubA.skip, SubA.refl, fr.2, vbRsw]
  have hcap := hT.2
  obtain ⟨e, l, he, hd, hle, hx⟩ : ∃ (e : Nat) (l : List Txt), e = 0 ∧ l = T.drop e ∧ e ≤ T.length ∧ idxT s T = (idxT s l).map (· + e) := ⟨0, T, rfl, rfl, by omega, by cases idxT s T <;> simp⟩
  rw [show (8, some (Value.int .i64 0)) = (8, some (Value.int .i64 (e : Int))) by rw [he]; rfl]
  clear he nuE fr
  induction l generalizing e with
  | nil =>
    obtain ⟨hn1, hn2⟩ := drop_nil hd hle
    have lt : ((e : Int) < (T.length : Int)) = False := eq_false (by omega)
    refine LoopA.intro (by kernel_rfl) ?_
    intro ν fr; have nuE := fr.nu
    simp (maxDischargeDepth := 16) only [argE_nil, argE_cons, ↓vmD, vmV, vmStd, Nat.reduceMul, ↓reduceIte, Nat.reduceAdd, Nat.reduceSub, Nat.reduceEqDiff, Nat.reduceLT, Nat.reduceLeDiff, reduceCtorEq, Int.reduceToNat, Int.reduceLT, Int.reduceLE, Int.reduceEq, Int.reduceNeg, Int.reduceBEq, Int.reduceBNe, String.reduceEq, forall_const, ↓vmDA, vmVA, ↓vmQA, vmR, vmRA, ↓vmSA, vmSV, tyS, nuE, SubA.skip, SubA.refl, fr.2, vbRsw, lt]
    rw [hx]; rfl
  | cons x l ih =>
    obtain ⟨ha, hlt, hd', htk⟩ := drop_some hd
    have lt : ((e : Int) < (T.length : Int)) = True := eq_true (by omega)
    have we : IntKind.i64.wrap ((e : Int) + 1) = ((e + 1 : Nat) : Int) := by rw [w_i64 (by omega) (by omega)]; omega
    obtain ⟨bk, off, cs, ty, fr0, hp0, hbk, hcr, hcc⟩ := hT.1.at ha
    subst hp0
    have hc0 : cs[off + e * 1]? = some (.string (bs x)) := hcc 0 _ rfl
    have t1 : ((bs s).toList = (bs x).toList) = (s = x) := by rw [bs_list, bs_list]
    refine LoopA.intro (by kernel_rfl) ?_
    intro ν fr; have nuE := fr.nu
    by_cases hs : x = s
    · have hs' := eq_true hs.symm
      simp (maxDischargeDepth := 16) only [argE_nil, argE_cons, ↓vmD, vmV, vmStd, Nat.reduceMul, ↓reduceIte, Nat.reduceAdd, Nat.reduceSub, Nat.reduceEqDiff, Nat.reduceLT, Nat.reduceLeDiff, reduceCtorEq, Int.reduceToNat, Int.reduceLT, Int.reduceLE, Int.reduceEq, Int.reduceNeg, Int.reduceBEq, Int.reduceBNe, String.reduceEq, forall_const, ↓vmDA, vmVA, ↓vmQA, vmR, vmRA, ↓vmSA, vmSV, tyS, nuE, SubA.skip, SubA.refl, fr.2, vbRsw, lt, hbk, hc0, t1, hs', we]
      subst hs
      rw [hx]; simp [idxT, optI]
    · have hs' := eq_false (fun h : s = x => hs h.symm)
      simp (maxDischargeDepth := 16) only [argE_nil, argE_cons, ↓vmD, vmV, vmStd, Nat.reduceMul, ↓reduceIte, Nat.reduceAdd, Nat.reduceSub, Nat.reduceEqDiff, Nat.reduceLT, Nat.reduceLeDiff, reduceCtorEq, Int.reduceToNat, Int.reduceLT, Int.reduceLE, Int.reduceEq, Int.reduceNeg, Int.reduceBEq, Int.reduceBNe, String.reduceEq, forall_const, ↓vmDA, vmVA, ↓vmQA, vmR, vmRA, ↓vmSA, vmSV, tyS, nuE, SubA.skip, SubA.refl, fr.2, vbRsw, lt, hbk, hc0, t1, hs', we]
      exact LoopA.weak (ih (e + 1) hd' (by omega) (by rw [hx]; simp only [idxT, if_neg hs, Option.map_map]; congr 1; funext i; simp only [Function.comp]; omega)) (by simp only [subE, get_cons, Nat.reduceEqDiff, ↓reduceIte, reduceCtorEq, Nat.reduceAdd, and_self, and_true]) (SubA.refl _)
theorem indexS_w (A : AH) (T : List Txt) (p : Option Addr) (cap : Nat) (s : Txt) (hT : TxR A p cap T) (B_ : AH) (hB_ : SubA A B_) : valA Tryz.prog 34 #[.slice p T.length cap, .string (bs s)] B_ = some (.int .i64 (optI (idxT s T))) := valA_eq (pureA_at (by kernel_rfl) (indexS_h A T p cap s hT) hB_)
theorem indexS_v (A : AH) (T : List Txt) (p : Option Addr) (cap : Nat) (s : Txt) (hT : TxR A p cap T) : valA Tryz.prog 34 #[.slice p T.length cap, .string (bs s)] A = some (.int .i64 (optI (idxT s T))) := valA_eq (pureA_at (by kernel_rfl) (indexS_h A T p cap s hT) (SubA.refl _))
theorem containsS_h (A : AH) (T : List Txt) (p : Option Addr) (cap : Nat) (s : Txt) (hT : TxR A p cap T) : CallA Tryz.prog 24 #[.slice p T.length cap, .string (bs s)] A (fun u_ A_ => u_ = .bool (decide (s ∈ T)) ∧ SubA A A_) := by
  refine callA_of_denA ⟨Tryz.prog, 24, Tryz.f24, 9, [0, 1, 4], [], [], _⟩ (args := [_, _]) Tryz.func24 rfl (by kernel_rfl) Tryz.ntmps24 (by simp) (by kernel_rfl) ?_
  intro ν fr; have nuE := fr.nu
  have iv := indexS_w A T p cap s hT
  have hm := idxT_mem s T
  cases hi : idxT s T with
  | none =>
    rw [hi] at hm iv
    have hm' : decide (s ∈ T) = false := hm.symm
    simp (maxDischargeDepth := 16) only [argE_nil, argE_cons, ↓vmD, vmV, vmStd, Nat.reduceMul, ↓reduceIte, Nat.reduceAdd, Nat.reduceSub, Nat.reduceEqDiff, Nat.reduceLT, Nat.reduceLeDiff, reduceCtorEq, Int.reduceToNat, Int.reduceLT, Int.reduceLE, Int.reduceEq, Int.reduceNeg, Int.reduceBEq, Int.reduceBNe, String.reduceEq, forall_const, ↓vmDA, vmVA, ↓vmQA, vmR, vmRA, ↓vmSA, vmSV, tyS, nuE, SubA.skip, SubA.refl, fr.2, vbRsw, iv, optI, hm']
  | some i =>
    rw [hi] at hm iv
    have hm' : decide (s ∈ T) = true := hm.symm
    have h0 : (0 ≤ (i : Int)) := by omega
    simp (maxDischargeDepth := 16) only [argE_nil, argE_cons, ↓vmD, vmV, vmStd, Nat.reduceMul, ↓reduceIte, Nat.reduceAdd, Nat.reduceSub, Nat.reduceEqDiff, Nat.reduceLT, Nat.reduceLeDiff, reduceCtorEq, Int.reduceToNat, Int.reduceLT, Int.reduceLE, Int.reduceEq, Int.reduceNeg, Int.reduceBEq, Int.reduceBNe, String.reduceEq, forall_const, ↓vmDA, vmVA, ↓vmQA, vmR, vmRA, ↓vmSA, vmSV, tyS, nuE, SubA.skip, SubA.refl, fr.2, vbRsw, iv, optI, hm', h0]
theorem containsS_w (A : AH) (T : List Txt) (p : Option Addr) (cap : Nat) (s : Txt) (hT : TxR A p cap T) (B_ : AH) (hB_ : SubA A B_) : valA Tryz.prog 24 #[.slice p T.length cap, .string (bs s)] B_ = some (.bool (decide (s ∈ T))) := valA_eq (pureA_at (by kernel_rfl) (containsS_h A T p cap s hT) hB_)
theorem containsS_v (A : AH) (T : List Txt) (p : Option Addr) (cap : Nat) (s : Txt) (hT : TxR A p cap T) : valA Tryz.prog 24 #[.slice p T.length cap, .string (bs s)] A = some (.bool (decide (s ∈ T))) := valA_eq (pureA_at (by kernel_rfl) (containsS_h A T p cap s hT) (SubA.refl _))
theorem isOneOf_h (A : AH) (T : List Txt) (p : Option Addr) (cap : Nat) (s : Txt) (hT : TxR A p cap T) : CallA Tryz.prog 76 #[.string (bs s), .slice p T.length cap] A (fun u_ A_ => u_ = .bool (decide (s ∈ T)) ∧ SubA A A_) := by
  refine callA_of_denA ⟨Tryz.prog, 76, Tryz.f76, 8, [0, 1, 4], [], [], _⟩ (args := [_, _]) Tryz.func76 rfl (by kernel_rfl) Tryz.ntmps76 (by simp) (by kernel_rfl) ?_
  intro ν fr; have nuE := fr.nu
  have cv := containsS_w A T p cap s hT
  simp (maxDischargeDepth := 16) only [argE_nil, argE_cons, ↓vmD, vmV, vmStd, Nat.reduceMul, ↓reduceIte, Nat.reduceAdd, Nat.reduceSub, Nat.reduceEqDiff, Nat.reduceLT, Nat.reduceLeDiff, reduceCtorEq, Int.reduceToNat, Int.reduceLT, Int.reduceLE, Int.reduceEq, Int.reduceNeg, Int.reduceBEq, Int.reduceBNe, String.reduceEq, forall_const, ↓vmDA, vmVA, ↓vmQA, vmR, vmRA, ↓vmSA, vmSV, tyS, nuE, SubA.skip, SubA.refl, fr.2, vbRsw, cv]
theorem isOneOf_w (A : AH) (T : List Txt) (p : Option Addr) (cap : Nat) (s : Txt) (hT : TxR A p cap T) (B_ : AH) (hB_ : SubA A B_) : valA Tryz.prog 76 #[.string (bs s), .slice p T.length cap] B_ = some (.bool (decide (s ∈ T))) := valA_eq (pureA_at (by kernel_rfl) (isOneOf_h A T p cap s hT) hB_)
theorem isOneOf_v (A : AH) (T : List Txt) (p : Option Addr) (cap : Nat) (s : Txt) (hT : TxR A p cap T) : valA Tryz.prog 76 #[.string (bs s), .slice p T.length cap] A = some (.bool (decide (s ∈ T))) := valA_eq (pureA_at (by kernel_rfl) (isOneOf_h A T p cap s hT) (SubA.refl _))
theorem possible_h (n : Int) : CallA Tryz.prog 56 #[.int .i64 n] [] (fun u_ _ => u_ = .bool (okD n)) := by
  refine callA_of_denA ⟨Tryz.prog, 56, Tryz.f56, 9, [0, 2], [], [], _⟩ (args := [_]) Tryz.func56 rfl (by kernel_rfl) Tryz.ntmps56 (by simp) (by kernel_rfl) ?_
  intro ν fr; have nuE := fr.nu
  simp (maxDischargeDepth := 16) only [argE_nil, argE_cons, ↓vmD, vmV, vmStd, Nat.reduceMul, ↓reduceIte, Nat.reduceAdd, Nat.reduceSub, Nat.reduceEqDiff, Nat.reduceLT, Nat.reduceLeDiff, reduceCtorEq, Int.reduceToNat, Int.reduceLT, Int.reduceLE, Int.reduceEq, Int.reduceNeg, Int.reduceBEq, Int.reduceBNe, String.reduceEq, forall_const, ↓vmDA, vmVA, ↓vmQA, vmR, vmRA, ↓vmSA, vmSV, tyS, nuE, SubA.skip, SubA.refl, fr.2, vbRsw]
  unfold okD
  all_goals ((repeat' split) <;> (try simp_all) <;> (try omega))
theorem possible_v (n : Int) (A_ : AH) : valA Tryz.prog 56 #[.int .i64 n] A_ = some (.bool (okD n)) := valA_eq (pureA_of (by kernel_rfl) (possible_h n))
theorem checkKinds_h (A : AH) (T : List Txt) (p : Option Addr) (cap : Nat) (hT : TxR A p cap T) : CallA Tryz.prog 57 #[.slice p T.length cap] A (fun u_ A_ => u_ = .int .i64 (kindsE T) ∧ SubA A A_) := by
  refine callA_of_denA ⟨Tryz.prog, 57, Tryz.f57, 29, [0, 2, 3, 4, 8, 9, 10], [], [], _⟩ (args := [_]) Tryz.func57 rfl (by kernel_rfl) Tryz.ntmps57 (by simp) (by kernel_rfl) ?_
  intro ν fr; have nuE := fr.nu
  have hcap := hT.2
  by_cases h8 : 8 < T.length
  · have h8' : ((8 : Int) < (T.length : Int)) = True := eq_true (by omega)
    have hk : kindsE T = 3 := if_pos h8
    simp (maxDischargeDepth := 16) only [argE_nil, argE_cons, ↓vmD, vmV, vmStd, Nat.reduceMul, ↓reduceIte, Nat.reduceAdd, Nat.reduceSub, Nat.reduceEqDiff, Nat.reduceLT, Nat.reduceLeDiff, reduceCtorEq, Int.reduceToNat, Int.reduceLT, Int.reduceLE, Int.reduceEq, Int.reduceNeg, Int.reduceBEq, Int.reduceBNe, String.reduceEq, forall_const, ↓vmDA, vmVA, ↓vmQA, vmR, vmRA, ↓vmSA, vmSV, tyS, nuE, SubA.skip, SubA.refl, fr.2, vbRsw, possible_v, h8', hk]
  have h8' : ((8 : Int) < (T.length : Int)) = False := eq_false (by omega)
  simp (maxDischargeDepth := 16) only [argE_nil, argE_cons, ↓vmD, vmV, vmStd, Nat.reduceMul, ↓reduceIte, Nat.reduceAdd, Nat.reduceSub, Nat.reduceEqDiff, Nat.reduceLT, Nat.reduceLeDiff, reduceCtorEq, Int.reduceToNat, Int.reduceLT, Int.reduceLE, Int.reduceEq, Int.reduceNeg, Int.reduceBEq, Int.reduceBNe, String.reduceEq, forall_const, ↓vmDA, vmVA, ↓vmQA, vmR, vmRA, ↓vmSA, vmSV, tyS, nuE, SubA.skip, SubA.refl, fr.2, vbRsw, possible_v, h8']
  obtain ⟨e, l, he, hd, hle, hx⟩ : ∃ (e : Nat) (l : List Txt), e = 0 ∧ l = T.drop e ∧ e ≤ T.length ∧ kindsE T = kindsG (T.take e) l := ⟨0, T, rfl, rfl, by omega, if_neg h8⟩
  rw [show (10, some (Value.int .i64 0)) = (10, some (Value.int .i64 (e : Int))) by rw [he]; rfl]
  clear he nuE fr
  induction l generalizing e with
  | nil =>
    obtain ⟨hn1, hn2⟩ := drop_nil hd hle
    have lt : ((e : Int) < (T.length : Int)) = False := eq_false (by omega)
    refine LoopA.intro (by kernel_rfl) ?_
    intro ν fr; have nuE := fr.nu
    simp (maxDischargeDepth := 16) only [argE_nil, argE_cons, ↓vmD, vmV, vmStd, Nat.reduceMul, ↓reduceIte, Nat.reduceAdd, Nat.reduceSub, Nat.reduceEqDiff, Nat.reduceLT, Nat.reduceLeDiff, reduceCtorEq, Int.reduceToNat, Int.reduceLT, Int.reduceLE, Int.reduceEq, Int.reduceNeg, Int.reduceBEq, Int.reduceBNe, String.reduceEq, forall_const, ↓vmDA, vmVA, ↓vmQA, vmR, vmRA, ↓vmSA, vmSV, tyS, nuE, SubA.skip, SubA.refl, fr.2, vbRsw, possible_v, lt]
    rw [hx]; rfl
  | cons x l ih =>
    obtain ⟨ha, hlt, hd', htk⟩ := drop_some hd
    have lt : ((e : Int) < (T.length : Int)) = True := eq_true (by omega)
    have we : IntKind.i64.wrap ((e : Int) + 1) = ((e + 1 : Nat) : Int) := by rw [w_i64 (by omega) (by omega)]; omega
    obtain ⟨bk, off, cs, ty, fr0, hp0, hbk, hcr, hcc⟩ := hT.1.at ha
    subst hp0
    have hc0 : cs[off + e * 1]? = some (.string (bs x)) := hcc 0 _ rfl
    refine LoopA.intro (by kernel_rfl) ?_
    intro ν fr; have nuE := fr.nu
    have iv := isOneOf_w [(ν 0, .cells #[.string ⟨#[99, 108, 97, 105, 109]⟩, .string ⟨#[100, 101, 102, 101, 110, 99, 101]⟩] 9)] [claimT, defenceT] (some ⟨ν 0, 0, none⟩) 2 x (TxR.at (ν 0) 9 [claimT, defenceT] (by simp))
    have i1 := fun B hB => isOneOf_w A (T.take e) (some ⟨bk, off, none⟩) cap x ⟨StR.take hT.1 e, by rw [List.length_take]; omega, hT.2.2⟩ B hB
    have htl : (T.take e).length = e := by rw [List.length_take]; omega
    rw [htl] at i1
    simp only [List.length_cons, List.length_nil, Nat.reduceAdd] at iv
    have f0 := fr.2 0
    have i2 := i1 _ (SubA.fresh (o := Obj.cells #[.string ⟨#[99, 108, 97, 105, 109]⟩, .string ⟨#[100, 101, 102, 101, 110, 99, 101]⟩] 9) f0 (SubA.refl A))
    have hk : decide (x ∈ [claimT, defenceT]) = (decide (x = claimT) || decide (x = defenceT)) := by simp [Bool.decide_or]
    have iv' := iv _ (SubA.left [_] A)
    simp only [List.cons_append, List.nil_append] at iv'
    rw [hk] at iv'
    have hcl : (e : Int) ≤ (T.length : Int) := by omega
    have hcl2 : (e : Int) ≤ (cap : Int) := by omega
    simp (maxDischargeDepth := 16) only [argE_nil, argE_cons, ↓vmD, vmV, vmStd, Nat.reduceMul, ↓reduceIte, Nat.reduceAdd, Nat.reduceSub, Nat.reduceEqDiff, Nat.reduceLT, Nat.reduceLeDiff, reduceCtorEq, Int.reduceToNat, Int.reduceLT, Int.reduceLE, Int.reduceEq, Int.reduceNeg, Int.reduceBEq, Int.reduceBNe, String.reduceEq, forall_const, ↓vmDA, vmVA, ↓vmQA, vmR, vmRA, ↓vmSA, vmSV, tyS, nuE, SubA.skip, SubA.refl, fr.2, vbRsw, possible_v, lt, hbk, hc0, we, sc_s2, iv', i2, hcl, hcl2, ite_self, Nat.sub_zero]
    have hkx : kindF x = (nameF (bs x) && (!decide (x = claimT) && !decide (x = defenceT))) := rfl
    cases h1 : nameF (bs x) with
    | false => rw [hx]; simp [kindsG, hkx, h1]
    | true =>
      simp only [if_true]
      by_cases h2 : x = claimT ∨ x = defenceT
      · have h3 : kindF x = false := by rw [hkx]; rcases h2 with h2 | h2 <;> simp [h2]
        rw [if_pos h2, hx]; simp [kindsG, h3]
      · have h3 : kindF x = true := by rw [hkx, h1]; simp only [not_or] at h2; simp [h2]
        rw [if_neg h2]
        by_cases h4 : x ∈ T.take e
        · rw [if_pos h4, hx]; simp [kindsG, h3, h4]
        · rw [if_neg h4]
          exact LoopA.at (SubA.fresh f0 (SubA.refl _)) (LoopA.weak (ih (e + 1) hd' (by omega) (by rw [hx, htk]; simp [kindsG, h3, h4])) (by simp only [subE, get_cons, Nat.reduceEqDiff, ↓reduceIte, reduceCtorEq, Nat.reduceAdd, and_self, and_true]) (SubA.refl _))
theorem checkKinds_w (A : AH) (T : List Txt) (p : Option Addr) (cap : Nat) (hT : TxR A p cap T) (B_ : AH) (hB_ : SubA A B_) : valA Tryz.prog 57 #[.slice p T.length cap] B_ = some (.int .i64 (kindsE T)) := valA_eq (pureA_at (by kernel_rfl) (checkKinds_h A T p cap hT) hB_)
theorem checkKinds_v (A : AH) (T : List Txt) (p : Option Addr) (cap : Nat) (hT : TxR A p cap T) : valA Tryz.prog 57 #[.slice p T.length cap] A = some (.int .i64 (kindsE T)) := valA_eq (pureA_at (by kernel_rfl) (checkKinds_h A T p cap hT) (SubA.refl _))
theorem days_h (r : Rs) (st : Int) : CallA Tryz.prog 58 #[.agg #[.string (bs r.d.code), .int .i64 r.d.d1, .int .i64 r.d.d2, .int .i64 r.d.d3, .int .i64 r.d.d4, .slice r.p1 r.d.cl.length r.c1, .slice r.p2 r.d.df.length r.c2], .int .i64 st] [] (fun u_ _ => u_ = .tuple #[.int .i64 (daysF r.d st).1, .int .i64 (daysF r.d st).2]) := by
  refine callA_of_denA ⟨Tryz.prog, 58, Tryz.f58, 23, [0, 1, 2, 4, 5, 6], [], [], _⟩ (args := [_, _]) Tryz.func58 rfl (by kernel_rfl) Tryz.ntmps58 (by simp) (by kernel_rfl) ?_
  intro ν fr; have nuE := fr.nu
  simp (maxDischargeDepth := 16) only [argE_nil, argE_cons, ↓vmD, vmV, vmStd, Nat.reduceMul, ↓reduceIte, Nat.reduceAdd, Nat.reduceSub, Nat.reduceEqDiff, Nat.reduceLT, Nat.reduceLeDiff, reduceCtorEq, Int.reduceToNat, Int.reduceLT, Int.reduceLE, Int.reduceEq, Int.reduceNeg, Int.reduceBEq, Int.reduceBNe, String.reduceEq, forall_const, ↓vmDA, vmVA, ↓vmQA, vmR, vmRA, ↓vmSA, vmSV, tyS, nuE, SubA.skip, SubA.refl, fr.2, vbRsw, possible_v]
  unfold daysF
  all_goals ((repeat' split) <;> (try simp_all) <;> (try omega))
theorem days_v (r : Rs) (st : Int) (A_ : AH) : valA Tryz.prog 58 #[.agg #[.string (bs r.d.code), .int .i64 r.d.d1, .int .i64 r.d.d2, .int .i64 r.d.d3, .int .i64 r.d.d4, .slice r.p1 r.d.cl.length r.c1, .slice r.p2 r.d.df.length r.c2], .int .i64 st] A_ = some (.tuple #[.int .i64 (daysF r.d st).1, .int .i64 (daysF r.d st).2]) := valA_eq (pureA_of (by kernel_rfl) (days_h r st))
theorem due_h (r : Rs) (st date : Int) : CallA Tryz.prog 40 #[.agg #[.string (bs r.d.code), .int .i64 r.d.d1, .int .i64 r.d.d2, .int .i64 r.d.d3, .int .i64 r.d.d4, .slice r.p1 r.d.cl.length r.c1, .slice r.p2 r.d.df.length r.c2], .int .i64 st, .int .i64 date] [] (fun u_ _ => u_ = .tuple #[.int .i64 (dueF r.d st date).1, .int .i64 (dueF r.d st date).2]) := by
  refine callA_of_denA ⟨Tryz.prog, 40, Tryz.f40, 37, [0, 1, 2, 3, 6, 7, 8, 9], [], [], _⟩ (args := [_, _, _]) Tryz.func40 rfl (by kernel_rfl) Tryz.ntmps40 (by simp) (by kernel_rfl) ?_
  intro ν fr; have nuE := fr.nu
  simp (maxDischargeDepth := 16) only [argE_nil, argE_cons, ↓vmD, vmV, vmStd, Nat.reduceMul, ↓reduceIte, Nat.reduceAdd, Nat.reduceSub, Nat.reduceEqDiff, Nat.reduceLT, Nat.reduceLeDiff, reduceCtorEq, Int.reduceToNat, Int.reduceLT, Int.reduceLE, Int.reduceEq, Int.reduceNeg, Int.reduceBEq, Int.reduceBNe, String.reduceEq, forall_const, ↓vmDA, vmVA, ↓vmQA, vmR, vmRA, ↓vmSA, vmSV, tyS, nuE, SubA.skip, SubA.refl, fr.2, vbRsw, possible_v, days_v]
  unfold dueF
  by_cases h1 : (daysF r.d st).2 = 0
  · simp only [h1, not_true_eq_false, ne_eq, if_false]
    cases h2 : okD (daysF r.d st).1 with
    | false => simp
    | true =>
      simp only [Bool.true_eq_false, if_false]
      simp only [okD, Bool.and_eq_true, decide_eq_true_eq] at h2
      by_cases h3 : date < 0 ∨ 99999 < date
      · have h3' : date < 0 ∨ 99999 < date ∨ 99999 < date + (daysF r.d st).1 := by omega
        simp only [h3, h3', true_or, if_true]
      · have w : IntKind.i64.wrap (date + (daysF r.d st).1) = date + (daysF r.d st).1 := w_i64 (by omega) (by omega)
        rw [w]
        by_cases h4 : 99999 < date + (daysF r.d st).1
        · have h4' : date < 0 ∨ 99999 < date ∨ 99999 < date + (daysF r.d st).1 := by omega
          rw [if_pos h4', if_pos (.inr h4)]
        · have h4' : ¬ (date < 0 ∨ 99999 < date ∨ 99999 < date + (daysF r.d st).1) := by omega
          rw [if_neg h4', if_neg (by omega)]
  · simp only [h1, ne_eq, not_false_eq_true, if_true]
theorem due_v (r : Rs) (st date : Int) (A_ : AH) : valA Tryz.prog 40 #[.agg #[.string (bs r.d.code), .int .i64 r.d.d1, .int .i64 r.d.d2, .int .i64 r.d.d3, .int .i64 r.d.d4, .slice r.p1 r.d.cl.length r.c1, .slice r.p2 r.d.df.length r.c2], .int .i64 st, .int .i64 date] A_ = some (.tuple #[.int .i64 (dueF r.d st date).1, .int .i64 (dueF r.d st date).2]) := valA_eq (pureA_of (by kernel_rfl) (due_h r st date))
theorem needs_h (A : AH) (r : Rs) (st : Int) (hr : InR A r) (hl : r.d.cl.length ≤ 8000000000000 ∧ r.d.df.length ≤ 8000000000000) : CallA Tryz.prog 28 #[.agg #[.string (bs r.d.code), .int .i64 r.d.d1, .int .i64 r.d.d2, .int .i64 r.d.d3, .int .i64 r.d.d4, .slice r.p1 r.d.cl.length r.c1, .slice r.p2 r.d.df.length r.c2], .int .i64 st] A (fun u_ A_ => ∃ v B, u_ = v ∧ OwnL strC 1 9 v B (needsF r.d st) ∧ Dis B A ∧ SubA (B ++ A) A_) := by
  refine callA_of_denA ⟨Tryz.prog, 28, Tryz.f28, 16, [0, 1, 2, 4, 5], [38], [], _⟩ (args := [_, _]) Tryz.func28 rfl (by kernel_rfl) Tryz.ntmps28 (by simp) (by kernel_rfl) ?_
  intro ν fr; have nuE := fr.nu
  have f0 := fr.2 0
  by_cases s1 : st = 1
  · have s1' := eq_true s1
    simp (maxDischargeDepth := 16) only [argE_nil, argE_cons, ↓vmD, vmV, vmStd, Nat.reduceMul, ↓reduceIte, Nat.reduceAdd, Nat.reduceSub, Nat.reduceEqDiff, Nat.reduceLT, Nat.reduceLeDiff, reduceCtorEq, Int.reduceToNat, Int.reduceLT, Int.reduceLE, Int.reduceEq, Int.reduceNeg, Int.reduceBEq, Int.reduceBNe, String.reduceEq, forall_const, ↓vmDA, vmVA, ↓vmQA, vmR, vmRA, ↓vmSA, vmSV, tyS, nuE, SubA.skip, SubA.refl, fr.2, vbRsw, possible_v, days_v, due_v, s1']
    refine CallA.new (cloneS_h A _ _ _ hr.1 hl.1) (SubA.fresh f0 (SubA.refl _)) ?_
    intro v B ho hd
    intro ν fr; have nuE := fr.nu
    simp (maxDischargeDepth := 16) only [argE_nil, argE_cons, ↓vmD, vmV, vmStd, Nat.reduceMul, ↓reduceIte, Nat.reduceAdd, Nat.reduceSub, Nat.reduceEqDiff, Nat.reduceLT, Nat.reduceLeDiff, reduceCtorEq, Int.reduceToNat, Int.reduceLT, Int.reduceLE, Int.reduceEq, Int.reduceNeg, Int.reduceBEq, Int.reduceBNe, String.reduceEq, forall_const, ↓vmDA, vmVA, ↓vmQA, vmR, vmRA, ↓vmSA, vmSV, tyS, nuE, SubA.skip, SubA.refl, fr.2, vbRsw, possible_v, days_v, due_v]
    exact ⟨v, B, rfl, by simpa [needsF, s1] using ho, Dis.subr hd (SubA.fresh f0 (SubA.refl _)), SubA.app (SubA.fresh f0 (SubA.refl _))⟩
  · have s1' := eq_false s1
    by_cases s2 : st = 2
    · have s2' := eq_true s2
      simp (maxDischargeDepth := 16) only [argE_nil, argE_cons, ↓vmD, vmV, vmStd, Nat.reduceMul, ↓reduceIte, Nat.reduceAdd, Nat.reduceSub, Nat.reduceEqDiff, Nat.reduceLT, Nat.reduceLeDiff, reduceCtorEq, Int.reduceToNat, Int.reduceLT, Int.reduceLE, Int.reduceEq, Int.reduceNeg, Int.reduceBEq, Int.reduceBNe, String.reduceEq, forall_const, ↓vmDA, vmVA, ↓vmQA, vmR, vmRA, ↓vmSA, vmSV, tyS, nuE, SubA.skip, SubA.refl, fr.2, vbRsw, possible_v, days_v, due_v, s1', s2']
      refine CallA.new (cloneS_h A _ _ _ hr.2 hl.2) (SubA.fresh f0 (SubA.refl _)) ?_
      intro v B ho hd
      intro ν fr; have nuE := fr.nu
      simp (maxDischargeDepth := 16) only [argE_nil, argE_cons, ↓vmD, vmV, vmStd, Nat.reduceMul, ↓reduceIte, Nat.reduceAdd, Nat.reduceSub, Nat.reduceEqDiff, Nat.reduceLT, Nat.reduceLeDiff, reduceCtorEq, Int.reduceToNat, Int.reduceLT, Int.reduceLE, Int.reduceEq, Int.reduceNeg, Int.reduceBEq, Int.reduceBNe, String.reduceEq, forall_const, ↓vmDA, vmVA, ↓vmQA, vmR, vmRA, ↓vmSA, vmSV, tyS, nuE, SubA.skip, SubA.refl, fr.2, vbRsw, possible_v, days_v, due_v]
      exact ⟨v, B, rfl, by simpa [needsF, s2] using ho, Dis.subr hd (SubA.fresh f0 (SubA.refl _)), SubA.app (SubA.fresh f0 (SubA.refl _))⟩
    · have s2' := eq_false s2
      simp (maxDischargeDepth := 16) only [argE_nil, argE_cons, ↓vmD, vmV, vmStd, Nat.reduceMul, ↓reduceIte, Nat.reduceAdd, Nat.reduceSub, Nat.reduceEqDiff, Nat.reduceLT, Nat.reduceLeDiff, reduceCtorEq, Int.reduceToNat, Int.reduceLT, Int.reduceLE, Int.reduceEq, Int.reduceNeg, Int.reduceBEq, Int.reduceBNe, String.reduceEq, forall_const, ↓vmDA, vmVA, ↓vmQA, vmR, vmRA, ↓vmSA, vmSV, tyS, nuE, SubA.skip, SubA.refl, fr.2, vbRsw, possible_v, days_v, due_v, s1', s2']
      exact ⟨_, [], rfl, by simp only [needsF, s1, s2, if_false]; exact OwnL.nil _ _ _, Dis.nil _, SubA.fresh f0 (SubA.refl _)⟩

theorem find_h (A : AH) (L : List Rs) (p : Option Addr) (cap : Nat) (c : Txt) (hL : RsR A p L) (hl : ∀ r ∈ L, r.d.cl.length ≤ 8000000000000 ∧ r.d.df.length ≤ 8000000000000) (hl2 : L.length ≤ 8000000000000) : CallA Tryz.prog 27 #[.slice p L.length cap, .string (bs c)] A (fun u_ A_ => ∃ r B, u_ = .tuple #[.agg (rsC r).toArray, .bool (findR c (L.map Rs.d)).isSome] ∧ r.d = (findR c (L.map Rs.d)).getD noRn ∧ InR (B ++ A) r ∧ Dis B A ∧ SubA (B ++ A) A_) := by
  refine callA_of_denA ⟨Tryz.prog, 27, Tryz.f27, 29, [0, 1, 4, 5, 7, 8, 9, 10], [38], [], _⟩ (args := [_, _]) Tryz.func27 rfl (by kernel_rfl) Tryz.ntmps27 (by simp) (by kernel_rfl) ?_
  intro ν fr; have nuE := fr.nu
  have hsz : (L.length : Int) ≤ 9223372036854775807 := by omega
  simp (maxDischargeDepth := 16) only [argE_nil, argE_cons, ↓vmD, vmV, vmStd, Nat.reduceMul, ↓reduceIte, Nat.reduceAdd, Nat.reduceSub, Nat.reduceEqDiff, Nat.reduceLT, Nat.reduceLeDiff, reduceCtorEq, Int.reduceToNat, Int.reduceLT, Int.reduceLE, Int.reduceEq, Int.reduceNeg, Int.reduceBEq, Int.reduceBNe, String.reduceEq, forall_const, ↓vmDA, vmVA, ↓vmQA, vmR, vmRA, ↓vmSA, vmSV, tyS, nuE, SubA.skip, SubA.refl, fr.2, vbRsw, possible_v, days_v, due_v]
  obtain ⟨b0, hb0⟩ : ∃ b0, b0 = ν 0 := ⟨_, rfl⟩
  rw [← hb0]
  have f0 : Vm.look A b0 = none := by rw [hb0]; exact fr.2 0
  obtain ⟨e, l, he, hd, hle, hx⟩ : ∃ (e : Nat) (l : List Rs), e = 0 ∧ l = L.drop e ∧ e ≤ L.length ∧ findR c (L.map Rs.d) = findR c (l.map Rs.d) := ⟨0, L, rfl, rfl, by omega, rfl⟩
  rw [show (10, some (Value.int .i64 0)) = (10, some (Value.int .i64 (e : Int))) by rw [he]; rfl]
  clear he nuE fr
  induction l generalizing e with
  | nil =>
    obtain ⟨hn1, hn2⟩ := drop_nil hd hle
    have lt : ((e : Int) < (L.length : Int)) = False := eq_false (by omega)
    refine LoopA.intro (by kernel_rfl) ?_
    intro ν fr; have nuE := And.intro (fr.mem (b := b0) (by simp)) (fr.nu)
    simp (maxDischargeDepth := 16) only [argE_nil, argE_cons, ↓vmD, vmV, vmStd, Nat.reduceMul, ↓reduceIte, Nat.reduceAdd, Nat.reduceSub, Nat.reduceEqDiff, Nat.reduceLT, Nat.reduceLeDiff, reduceCtorEq, Int.reduceToNat, Int.reduceLT, Int.reduceLE, Int.reduceEq, Int.reduceNeg, Int.reduceBEq, Int.reduceBNe, String.reduceEq, forall_const, ↓vmDA, vmVA, ↓vmQA, vmR, vmRA, ↓vmSA, vmSV, tyS, nuE, SubA.skip, SubA.refl, fr.2, vbRsw, possible_v, days_v, due_v, lt]
    rw [hx]
    exact ⟨noRs, [], rfl, rfl, ⟨TxR.nil, TxR.nil⟩, Dis.nil _, SubA.fresh f0 (SubA.refl _)⟩
  | cons x l ih =>
    obtain ⟨ha, hlt, hd', htk⟩ := drop_some hd
    have lt : ((e : Int) < (L.length : Int)) = True := eq_true (by omega)
    have we : IntKind.i64.wrap ((e : Int) + 1) = ((e + 1 : Nat) : Int) := by rw [w_i64 (by omega) (by omega)]; omega
    obtain ⟨bk, off, cs, ty, fr0, hp0, hbk, hcr, hcc⟩ := hL.1.at ha
    subst hp0
    obtain ⟨n1, n2⟩ := look_ne f0 hbk
    have t1 : ((bs x.d.code).toList = (bs c).toList) = (x.d.code = c) := by rw [bs_list, bs_list]
    have hxm := List.mem_of_getElem? ha
    have hxr := hL.2 x hxm
    obtain ⟨y1, y2⟩ := hl x hxm
    refine LoopA.intro (by kernel_rfl) ?_
    intro ν fr; have nuE := And.intro (fr.mem (b := b0) (by simp)) (fr.nu)
    simp only [rsC] at hcr
    by_cases hc : x.d.code = c
    · have hc' := eq_true hc
      have f1 := fr.2 0
      simp (maxDischargeDepth := 16) only [argE_nil, argE_cons, ↓vmD, vmV, vmStd, Nat.reduceMul, ↓reduceIte, Nat.reduceAdd, Nat.reduceSub, Nat.reduceEqDiff, Nat.reduceLT, Nat.reduceLeDiff, reduceCtorEq, Int.reduceToNat, Int.reduceLT, Int.reduceLE, Int.reduceEq, Int.reduceNeg, Int.reduceBEq, Int.reduceBNe, String.reduceEq, forall_const, ↓vmDA, vmVA, ↓vmQA, vmR, vmRA, ↓vmSA, vmSV, tyS, nuE, SubA.skip, SubA.refl, fr.2, vbRsw, possible_v, days_v, due_v, lt, hbk, hcr, n1, n2, t1, hc', we]
      have dst_ : ((ν 0 = b0) = False) ∧ ((b0 = ν 0) = False) := (by simp [nuE]); generalize ν 0 = n0 at dst_  f1 ⊢
      have f2 : Vm.look A n0 = none := (SubA.fresh (o := Obj.cells (rsC noRs).toArray 57) f0 (SubA.refl A)).none f1
      refine CallA.newX (cloneS_h A _ _ _ hxr.1 y1) (SubA.skip f2 (SubA.fresh f0 (SubA.refl _))) ?_
      intro v B ho hd
      have d1 := (Dis.headn hd)
      have d2 := (Dis.headn (Dis.tailn hd f1))
      have dA := (Dis.tailn (Dis.tailn hd f1) f0)
      obtain ⟨q, cap1, rfl, hq⟩ := own_tx ho
      refine ⟨_, SubA.trans (cons_in (cons_out d2)) (cons_out d1), ?_⟩
      intro ν fr; have nuE := And.intro (fr.mem (b := n0) (by simp)) (And.intro (fr.mem (b := b0) (by simp)) (And.intro dst_ fr.nu))
      simp (maxDischargeDepth := 16) only [argE_nil, argE_cons, ↓vmD, vmV, vmStd, Nat.reduceMul, ↓reduceIte, Nat.reduceAdd, Nat.reduceSub, Nat.reduceEqDiff, Nat.reduceLT, Nat.reduceLeDiff, reduceCtorEq, Int.reduceToNat, Int.reduceLT, Int.reduceLE, Int.reduceEq, Int.reduceNeg, Int.reduceBEq, Int.reduceBNe, String.reduceEq, forall_const, ↓vmDA, vmVA, ↓vmQA, vmR, vmRA, ↓vmSA, vmSV, tyS, nuE, SubA.skip, SubA.refl, fr.2, vbRsw, possible_v, days_v, due_v]
      refine CallA.newX (cloneS_h A _ _ _ hxr.2 y2) (SubA.skip f2 (SubA.skip f0 dA.right)) ?_
      intro v2 B2 ho2 hd2
      have g0 : Vm.look (B ++ A) b0 = none := look_app_none d2 f0
      have g1 : Vm.look ((b0, Obj.cells (rsC noRs).toArray 57) :: (B ++ A)) n0 = none := by
        have e1 : (b0 = n0) = False := dst_.2
        have := look_app_none d1 f2
        simp only [Vm.look, e1, if_false]; exact this
      have d3 := Dis.headn hd2
      have d4 := Dis.headn (Dis.tailn hd2 g1)
      have dBA := Dis.tailn (Dis.tailn hd2 g1) g0
      obtain ⟨q2, cap2, rfl, hq2⟩ := own_tx ho2
      refine ⟨_, SubA.trans (cons_in (cons_out d4)) (cons_out d3), ?_⟩
      intro ν fr; have nuE := And.intro (fr.mem (b := n0) (by simp)) (And.intro (fr.mem (b := b0) (by simp)) (And.intro dst_ fr.nu))
      simp (maxDischargeDepth := 16) only [argE_nil, argE_cons, ↓vmD, vmV, vmStd, Nat.reduceMul, ↓reduceIte, Nat.reduceAdd, Nat.reduceSub, Nat.reduceEqDiff, Nat.reduceLT, Nat.reduceLeDiff, reduceCtorEq, Int.reduceToNat, Int.reduceLT, Int.reduceLE, Int.reduceEq, Int.reduceNeg, Int.reduceBEq, Int.reduceBNe, String.reduceEq, forall_const, ↓vmDA, vmVA, ↓vmQA, vmR, vmRA, ↓vmSA, vmSV, tyS, nuE, SubA.skip, SubA.refl, fr.2, vbRsw, possible_v, days_v, due_v]
      rw [hx]
      have hB2 : Dis B2 B := Dis.subr dBA (SubA.left B A)
      have hf : findR c ((x :: l).map Rs.d) = some x.d := by simp only [List.map_cons, findR, if_pos hc]
      rw [hf]
      refine ⟨⟨x.d, q, cap1, q2, cap2⟩, B2 ++ B, rfl, rfl, ⟨hq.mono ?_, hq2.mono ?_⟩, (Dis.subr dBA dA.right).app dA, ?_⟩
      · exact SubA.trans hB2.right (SubA.left _ _)
      · exact SubA.trans (SubA.left B2 B) (SubA.left _ _)
      · rw [List.append_assoc]
        refine SubA.skip ?_ (SubA.skip ?_ (SubA.refl _))
        · exact look_app_none d3 (look_app_none d1 f2)
        · exact look_app_none d4 g0
    · have hc' := eq_false hc
      simp (maxDischargeDepth := 16) only [argE_nil, argE_cons, ↓vmD, vmV, vmStd, Nat.reduceMul, ↓reduceIte, Nat.reduceAdd, Nat.reduceSub, Nat.reduceEqDiff, Nat.reduceLT, Nat.reduceLeDiff, reduceCtorEq, Int.reduceToNat, Int.reduceLT, Int.reduceLE, Int.reduceEq, Int.reduceNeg, Int.reduceBEq, Int.reduceBNe, String.reduceEq, forall_const, ↓vmDA, vmVA, ↓vmQA, vmR, vmRA, ↓vmSA, vmSV, tyS, nuE, SubA.skip, SubA.refl, fr.2, vbRsw, possible_v, days_v, due_v, lt, hbk, hcr, n1, n2, t1, hc', we]
      refine LoopA.at (SubA.skip (fr.2 0) (SubA.refl _)) ?_
      exact LoopA.weak (ih (e + 1) hd' (by omega) (by rw [hx]; simp only [List.map_cons, findR, if_neg hc])) (by simp only [subE, get_cons, Nat.reduceEqDiff, ↓reduceIte, reduceCtorEq, Nat.reduceAdd, and_self, and_true]) (SubA.refl _)

end Go.Proofs.YtiholbpchhifiaaGreatDoor
