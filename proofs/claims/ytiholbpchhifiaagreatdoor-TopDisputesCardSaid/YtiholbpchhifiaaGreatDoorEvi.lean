/-
Evidence: the walks of Check, and of the test whether items suffice.
Conditions: none.
-/
import Derived.Test.YtiholbpchhifiaaGreatDoorRsk
import Derived.Test.YtiholbpchhifiaaGreatDoorPnL
import Derived.Test.YtiholbpchhifiaaGreatDoorMp
namespace Go.Proofs.YtiholbpchhifiaaGreatDoor
open Go.Vm
set_option linter.unusedSimpArgs false
set_option linter.unusedVariables false
set_option maxHeartbeats 2000000
set_option maxRecDepth 20000
theorem vbEvi : type_of% (And.intro @slIndexByte_v (And.intro @indexByte_v (And.intro @indexRune_v (And.intro @containsRune_v (And.intro @classOf_v (And.intro @isWordByte_v (And.intro @wordAt_v (And.intro @isName_v (And.intro @possible_v (And.intro @days_v (@due_v))))))))))) := And.intro @slIndexByte_v (And.intro @indexByte_v (And.intro @indexRune_v (And.intro @containsRune_v (And.intro @classOf_v (And.intro @isWordByte_v (And.intro @wordAt_v (And.intro @isName_v (And.intro @possible_v (And.intro @days_v (@due_v))))))))))
def nmL : Txt → Bool
  | [] => false
  | c :: r => letterB c.toNat && r.all fun x => wordB x.toNat
theorem wlen_all : ∀ l : Txt, decide (wlen l = l.length) = l.all fun x => wordB x.toNat
  | [] => rfl
  | c :: l => by
    have ih := wlen_all l
    cases hc : wordB c.toNat with
    | true => simp only [wlen, hc, List.all_cons, List.length_cons, if_true, Bool.true_and, ← ih]; simp
    | false => simp [wlen, hc]
theorem name_nm (l : Txt) : nameF (bs l) = (decide (1 ≤ l.length) && (decide (l.length ≤ 16) && nmL l)) := by
  unfold nameF
  rw [bs_list, bs_size, wlen_all]
  cases l with
  | nil => rfl
  | cons c r =>
    cases hl : letterB c.toNat <;> simp [nmL, hl, wordB]
theorem nm_app {dn : Txt} (h : nmL dn = true) (k : Txt) : nmL (dn ++ k) = k.all fun x => wordB x.toNat := by
  cases dn with
  | nil => cases h
  | cons c r =>
    simp only [nmL, Bool.and_eq_true] at h
    simp only [List.cons_append, nmL, h.1, List.all_append, h.2, Bool.true_and]
theorem evName_h (l : Txt) : CallA Tryz.prog 72 #[.string (bs l)] [] (fun u_ _ => u_ = .bool (nameF (bs l))) := by
  refine callA_of_denA ⟨Tryz.prog, 72, Tryz.f72, 52, [0, 2, 3, 4, 5, 15, 16], [], [], _⟩ (args := [_]) Tryz.func72 rfl (by kernel_rfl) Tryz.ntmps72 (by simp) (by kernel_rfl) ?_
  intro ν fr; have nuE := fr.nu
  simp (maxDischargeDepth := 16) only [argE_nil, argE_cons, ↓vmD, vmV, vmStd, Nat.reduceMul, ↓reduceIte, Nat.reduceAdd, Nat.reduceSub, Nat.reduceEqDiff, Nat.reduceLT, Nat.reduceLeDiff, reduceCtorEq, Int.reduceToNat, Int.reduceLT, Int.reduceLE, Int.reduceEq, Int.reduceNeg, Int.reduceBEq, Int.reduceBNe, String.reduceEq, forall_const, ↓vmDA, vmVA, ↓vmQA, vmR, vmRA, ↓vmSA, vmSV, tyS, nuE, SubA.skip, SubA.refl, fr.2, vbEvi, bs_size]
  rw [name_nm]
  by_cases h1 : (l.length : Int) < 1
  · have : ¬ 1 ≤ l.length := by omega
    rw [if_pos (.inl h1)]; simp [this]
  by_cases h2 : (16 : Int) < (l.length : Int)
  · have : ¬ l.length ≤ 16 := by omega
    rw [if_pos (.inr h2)]; simp [this]
  rw [if_neg (by omega)]
  have g1 : 1 ≤ l.length := by omega
  have g2 : l.length ≤ 16 := by omega
  rw [decide_eq_true g1, decide_eq_true g2, Bool.true_and, Bool.true_and]
  obtain ⟨e, k, dn, he, ha, h3, hd⟩ : ∃ (e : Nat) (k dn : List UInt8), e = 0 ∧ l = dn ++ k ∧ dn.length = e ∧ (0 < e → nmL dn = true) := ⟨0, l, [], rfl, rfl, rfl, by omega⟩
  rw [show Obj.stringIter (bs l) 0 = .stringIter (bs l) e by rw [he]]
  have dst_ : True := (by simp [nuE]); generalize ν 0 = n0 at dst_  ⊢
  clear he nuE fr
  induction k generalizing e dn with
  | nil =>
    obtain ⟨lt, hd2, hle, dc⟩ := at_nil ha h3
    rw [hd2] at hd
    have hd3 := hd (by omega)
    refine LoopA.intro (by kernel_rfl) ?_
    intro ν fr; have nuE := And.intro (fr.mem (b := n0) (by simp)) (And.intro dst_ fr.nu)
    simp (maxDischargeDepth := 16) only [argE_nil, argE_cons, ↓vmD, vmV, vmStd, Nat.reduceMul, ↓reduceIte, Nat.reduceAdd, Nat.reduceSub, Nat.reduceEqDiff, Nat.reduceLT, Nat.reduceLeDiff, reduceCtorEq, Int.reduceToNat, Int.reduceLT, Int.reduceLE, Int.reduceEq, Int.reduceNeg, Int.reduceBEq, Int.reduceBNe, String.reduceEq, forall_const, ↓vmDA, vmVA, ↓vmQA, vmR, vmRA, ↓vmSA, vmSV, tyS, nuE, SubA.skip, SubA.refl, fr.2, vbEvi, bs_size, dc, hd3]
  | cons c k ih =>
    obtain ⟨lt, we, hc, hle, dc, ha', h3', hlen⟩ := at_cons ha h3 (by omega)
    refine LoopA.intro (by kernel_rfl) ?_
    intro ν fr; have nuE := And.intro (fr.mem (b := n0) (by simp)) (And.intro dst_ fr.nu)
    by_cases h128 : c.toNat < 128
    · have dl := dec_low ha h3 h128
      have bad : letterB c.toNat = false → (e = 0 ∨ wordB c.toNat = false) → nmL l = false := fun h1 h2 => by
        rcases Nat.eq_zero_or_pos e with h0 | h0
        · rw [h0] at h3
          rw [ha, List.eq_nil_of_length_eq_zero h3]
          simp [nmL, h1]
        · rw [ha, nm_app (hd h0)]
          have : wordB c.toNat = false := by
            rcases h2 with h2 | h2
            · omega
            · exact h2
          simp [this]
      have good : (letterB c.toNat = true ∨ (¬ e = 0 ∧ wordB c.toNat = true)) → nmL (dn ++ [c]) = true := fun h => by
        rcases Nat.eq_zero_or_pos e with h0 | h0
        · rw [h0] at h3
          rw [List.eq_nil_of_length_eq_zero h3]
          rcases h with h | h
          · simp [nmL, h]
          · omega
        · rw [nm_app (hd h0)]
          rcases h with h | h
          · simp [wordB, h]
          · simp [h.2]
      simp (maxDischargeDepth := 16) only [argE_nil, argE_cons, ↓vmD, vmV, vmStd, Nat.reduceMul, ↓reduceIte, Nat.reduceAdd, Nat.reduceSub, Nat.reduceEqDiff, Nat.reduceLT, Nat.reduceLeDiff, reduceCtorEq, Int.reduceToNat, Int.reduceLT, Int.reduceLE, Int.reduceEq, Int.reduceNeg, Int.reduceBEq, Int.reduceBNe, String.reduceEq, forall_const, ↓vmDA, vmVA, ↓vmQA, vmR, vmRA, ↓vmSA, vmSV, tyS, nuE, SubA.skip, SubA.refl, fr.2, vbEvi, bs_size, dc, dl]
      rw [letter_int]
      cases hl : letterB c.toNat with
      | true =>
        rw [if_neg (by simp)]
        exact LoopA.weak (ih (e + 1) (dn ++ [c]) ha' h3' (fun _ => good (.inl hl))) (by simp only [subE, get_cons, Nat.reduceEqDiff, ↓reduceIte, reduceCtorEq, Nat.reduceAdd, and_self, and_true]) (SubE.sub (by simp only [SubE_nil, SubE_cons, look_cons, look_nil, nuE, ↓reduceIte, Nat.reduceEqDiff, and_self, and_true, Nat.reduceAdd]))
      | false =>
        have hw : wordB c.toNat = true ↔ (48 ≤ c.toNat ∧ c.toNat ≤ 57) ∨ c.toNat = 95 := by simp [wordB, hl, digitB]
        by_cases h0 : e = 0
        · rw [if_pos ⟨rfl, .inl (by omega)⟩, bad hl (.inl h0)]
        · by_cases hwd : wordB c.toNat = true
          · have := hw.1 hwd
            rw [if_neg (by omega)]
            exact LoopA.weak (ih (e + 1) (dn ++ [c]) ha' h3' (fun _ => good (.inr ⟨h0, hwd⟩))) (by simp only [subE, get_cons, Nat.reduceEqDiff, ↓reduceIte, reduceCtorEq, Nat.reduceAdd, and_self, and_true]) (SubE.sub (by simp only [SubE_nil, SubE_cons, look_cons, look_nil, nuE, ↓reduceIte, Nat.reduceEqDiff, and_self, and_true, Nat.reduceAdd]))
          · have h5 : ¬ ((48 ≤ c.toNat ∧ c.toNat ≤ 57) ∨ c.toNat = 95) := fun h => hwd (hw.2 h)
            rw [if_pos ⟨rfl, .inr (by omega)⟩, bad hl (.inr (by simpa using hwd))]
    · have dh := dec_high ha h3 (by omega)
      have nw : wordB c.toNat = false ∧ letterB c.toNat = false := by simp [wordB, letterB, digitB]; omega
      have hf : nmL l = false := by
        rcases Nat.eq_zero_or_pos e with h0 | h0
        · rw [h0] at h3
          rw [ha, List.eq_nil_of_length_eq_zero h3]
          simp [nmL, nw.2]
        · rw [ha, nm_app (hd h0)]; simp [nw.1]
      simp (maxDischargeDepth := 16) only [argE_nil, argE_cons, ↓vmD, vmV, vmStd, Nat.reduceMul, ↓reduceIte, Nat.reduceAdd, Nat.reduceSub, Nat.reduceEqDiff, Nat.reduceLT, Nat.reduceLeDiff, reduceCtorEq, Int.reduceToNat, Int.reduceLT, Int.reduceLE, Int.reduceEq, Int.reduceNeg, Int.reduceBEq, Int.reduceBNe, String.reduceEq, forall_const, ↓vmDA, vmVA, ↓vmQA, vmR, vmRA, ↓vmSA, vmSV, tyS, nuE, SubA.skip, SubA.refl, fr.2, vbEvi, bs_size, dc, hf]
      have hb1 : (decide ((97 : Int) ≤ ((Utf8.decode (bs l) e).1 : Int)) && decide (((Utf8.decode (bs l) e).1 : Int) ≤ 122) || decide ((65 : Int) ≤ ((Utf8.decode (bs l) e).1 : Int)) && decide (((Utf8.decode (bs l) e).1 : Int) ≤ 90)) = false := by simp; omega
      rw [if_pos ⟨hb1, .inr (by omega)⟩]
      trivial
theorem evName_v (l : Txt) (A_ : AH) : valA Tryz.prog 72 #[.string (bs l)] A_ = some (.bool (nameF (bs l))) := valA_eq (pureA_of (by kernel_rfl) (evName_h l))
theorem evCheck_h (l : Txt) (n h : Int) : CallA Tryz.prog 46 #[.agg #[.string (bs l), .int .i64 n, .int .u64 h]] [] (fun u_ _ => u_ = .int .i64 (if nameF (bs l) = false then 5 else if n < 1 ∨ 1000000 < n then 4 else 0)) := by
  refine callA_of_denA ⟨Tryz.prog, 46, Tryz.f46, 15, [0, 1, 2], [], [], _⟩ (args := [_]) Tryz.func46 rfl (by kernel_rfl) Tryz.ntmps46 (by simp) (by kernel_rfl) ?_
  intro ν fr; have nuE := fr.nu
  simp (maxDischargeDepth := 16) only [argE_nil, argE_cons, ↓vmD, vmV, vmStd, Nat.reduceMul, ↓reduceIte, Nat.reduceAdd, Nat.reduceSub, Nat.reduceEqDiff, Nat.reduceLT, Nat.reduceLeDiff, reduceCtorEq, Int.reduceToNat, Int.reduceLT, Int.reduceLE, Int.reduceEq, Int.reduceNeg, Int.reduceBEq, Int.reduceBNe, String.reduceEq, forall_const, ↓vmDA, vmVA, ↓vmQA, vmR, vmRA, ↓vmSA, vmSV, tyS, nuE, SubA.skip, SubA.refl, fr.2, vbEvi, evName_v]
  all_goals ((repeat' split) <;> (try simp_all) <;> (try omega))
theorem evCheck_v (l : Txt) (n h : Int) (A_ : AH) : valA Tryz.prog 46 #[.agg #[.string (bs l), .int .i64 n, .int .u64 h]] A_ = some (.int .i64 (if nameF (bs l) = false then 5 else if n < 1 ∨ 1000000 < n then 4 else 0)) := valA_eq (pureA_of (by kernel_rfl) (evCheck_h l n h))
structure Itm where
  kd : Txt
  sz : Int
  hs : Int
def itC (x : Itm) : List Value := [.string (bs x.kd), .int .i64 x.sz, .int .u64 x.hs]
theorem itC_len (x : Itm) : (itC x).length = 3 := rfl
def evF (x : Itm) : Int := if nameF (bs x.kd) = false then 5 else if x.sz < 1 ∨ 1000000 < x.sz then 4 else 0
def suffF (items : List Itm) (needs : List Txt) : Bool := decide (items.length ≤ 16) && (items.all (fun x => decide (evF x = 0)) && needs.all fun k => decide (k ∈ items.map Itm.kd))
theorem und_kb : Tryz.prog.underlying 105 = some (.map 9 4) := by kernel_rfl
theorem und_st : Tryz.prog.underlying 9 = some .string := by kernel_rfl
theorem suff_h (A : AH) (L : List Itm) (p : Option Addr) (cap : Nat) (hL : StR itC 3 A p L) (T : List Txt) (q : Option Addr) (qcap : Nat) (hT : TxR A q qcap T) : CallA Tryz.prog 29 #[.slice p L.length cap, .slice q T.length qcap] A (fun u_ A_ => u_ = .bool (suffF L T) ∧ SubA A A_) := by
  refine callA_of_denA ⟨Tryz.prog, 29, Tryz.f29, 38, [0, 1, 4, 5, 7, 9, 14, 15, 16, 27, 28, 29], [], [], _⟩ (args := [_, _]) Tryz.func29 rfl (by kernel_rfl) Tryz.ntmps29 (by simp) (by kernel_rfl) ?_
  intro ν fr; have nuE := fr.nu
  by_cases h16 : 16 < L.length
  · have h16' : ((16 : Int) < (L.length : Int)) = True := eq_true (by omega)
    have hk : suffF L T = false := by simp [suffF]; omega
    simp (maxDischargeDepth := 16) only [argE_nil, argE_cons, ↓vmD, vmV, vmStd, Nat.reduceMul, ↓reduceIte, Nat.reduceAdd, Nat.reduceSub, Nat.reduceEqDiff, Nat.reduceLT, Nat.reduceLeDiff, reduceCtorEq, Int.reduceToNat, Int.reduceLT, Int.reduceLE, Int.reduceEq, Int.reduceNeg, Int.reduceBEq, Int.reduceBNe, String.reduceEq, forall_const, ↓vmDA, vmVA, ↓vmQA, vmR, vmRA, ↓vmSA, vmSV, tyS, nuE, SubA.skip, SubA.refl, fr.2, vbEvi, evName_v, evCheck_v, h16', hk]
  have h16' : ((16 : Int) < (L.length : Int)) = False := eq_false (by omega)
  simp (maxDischargeDepth := 16) only [argE_nil, argE_cons, ↓vmD, vmV, vmStd, Nat.reduceMul, ↓reduceIte, Nat.reduceAdd, Nat.reduceSub, Nat.reduceEqDiff, Nat.reduceLT, Nat.reduceLeDiff, reduceCtorEq, Int.reduceToNat, Int.reduceLT, Int.reduceLE, Int.reduceEq, Int.reduceNeg, Int.reduceBEq, Int.reduceBNe, String.reduceEq, forall_const, ↓vmDA, vmVA, ↓vmQA, vmR, vmRA, ↓vmSA, vmSV, tyS, nuE, SubA.skip, SubA.refl, fr.2, vbEvi, evName_v, evCheck_v, h16']
  have hcap := hT.2
  obtain ⟨m0, hm0⟩ : ∃ m0, m0 = ν 0 := ⟨_, rfl⟩
  have f0 : Vm.look A m0 = none := by rw [hm0]; exact fr.2 0
  rw [← hm0]
  obtain ⟨e, l, es, cl, m, he, hes, hd, hle, hok, hm, hlk⟩ : ∃ (e : Nat) (l : List Itm) (es : Array MapEntry) (cl : Nat) (m : SMap), e = 0 ∧ Obj.map es cl = Obj.map #[] 0 ∧ l = L.drop e ∧ e ≤ L.length ∧ (L.take e).all (fun x => decide (evF x = 0)) = true ∧ MapIs es m ∧ ∀ k, lookM m (bs k) = if k ∈ (L.take e).map Itm.kd then some (.bool true) else none :=
    ⟨0, L, #[], 0, [], rfl, rfl, rfl, by omega, rfl, rfl, fun k => by simp [lookM_nil]⟩
  rw [show (16, some (Value.int .i64 0)) = (16, some (Value.int .i64 (e : Int))) by rw [he]; rfl]
  rw [← hes]
  clear he nuE fr hes hm0
  induction l generalizing e es cl m with
  | nil =>
    obtain ⟨hn1, hn2⟩ := drop_nil hd hle
    have lt : ((e : Int) < (L.length : Int)) = False := eq_false (by omega)
    rw [hn2] at hok hlk
    refine LoopA.intro (by kernel_rfl) ?_
    intro ν fr; have nuE := And.intro (fr.mem (b := m0) (by simp)) (fr.nu)
    simp (maxDischargeDepth := 16) only [argE_nil, argE_cons, ↓vmD, vmV, vmStd, Nat.reduceMul, ↓reduceIte, Nat.reduceAdd, Nat.reduceSub, Nat.reduceEqDiff, Nat.reduceLT, Nat.reduceLeDiff, reduceCtorEq, Int.reduceToNat, Int.reduceLT, Int.reduceLE, Int.reduceEq, Int.reduceNeg, Int.reduceBEq, Int.reduceBNe, String.reduceEq, forall_const, ↓vmDA, vmVA, ↓vmQA, vmR, vmRA, ↓vmSA, vmSV, tyS, nuE, SubA.skip, SubA.refl, fr.2, vbEvi, evName_v, evCheck_v, lt]
    clear hd hle
    obtain ⟨e, l, he, hd, hle, hno⟩ : ∃ (e : Nat) (l : List Txt), e = 0 ∧ l = T.drop e ∧ e ≤ T.length ∧ (T.take e).all (fun k => decide (k ∈ L.map Itm.kd)) = true := ⟨0, T, rfl, rfl, by omega, rfl⟩
    rw [show (29, some (Value.int .i64 0)) = (29, some (Value.int .i64 (e : Int))) by rw [he]; rfl]
    clear he nuE fr
    induction l generalizing e with
    | nil =>
      obtain ⟨hm1, hm2⟩ := drop_nil hd hle
      have lt : ((e : Int) < (T.length : Int)) = False := eq_false (by omega)
      rw [hm2] at hno
      refine LoopA.intro (by kernel_rfl) ?_
      intro ν fr; have nuE := And.intro (fr.mem (b := m0) (by simp)) (fr.nu)
      simp (maxDischargeDepth := 16) only [argE_nil, argE_cons, ↓vmD, vmV, vmStd, Nat.reduceMul, ↓reduceIte, Nat.reduceAdd, Nat.reduceSub, Nat.reduceEqDiff, Nat.reduceLT, Nat.reduceLeDiff, reduceCtorEq, Int.reduceToNat, Int.reduceLT, Int.reduceLE, Int.reduceEq, Int.reduceNeg, Int.reduceBEq, Int.reduceBNe, String.reduceEq, forall_const, ↓vmDA, vmVA, ↓vmQA, vmR, vmRA, ↓vmSA, vmSV, tyS, nuE, SubA.skip, SubA.refl, fr.2, vbEvi, evName_v, evCheck_v, lt]
      have hf : suffF L T = true := by simp only [suffF, hok, hno, Bool.and_self, Bool.and_true, decide_eq_true_eq]; omega
      exact ⟨by rw [hf], SubA.fresh f0 (SubA.refl _)⟩
    | cons x l ih =>
      obtain ⟨ha, hlt, hd', htk⟩ := drop_some hd
      have lt : ((e : Int) < (T.length : Int)) = True := eq_true (by omega)
      have we : IntKind.i64.wrap ((e : Int) + 1) = ((e + 1 : Nat) : Int) := by rw [w_i64 (by omega) (by omega)]; omega
      obtain ⟨bk, off, cs, ty, fr0, hp0, hbk, hcr, hcc⟩ := hT.1.at ha
      subst hp0
      obtain ⟨n1, n2⟩ := look_ne f0 hbk
      have hc0 : cs[off + e * 1]? = some (.string (bs x)) := hcc 0 _ rfl
      have lk := rdA_lookup (s := bs x) (A := (m0, Obj.map es cl) :: A) (ok := false) (es := es) (cl := cl) (r := m0) und_kb und_st zro4 (by simp [Vm.look]) hm
      rw [hlk x] at lk
      refine LoopA.intro (by kernel_rfl) ?_
      intro ν fr; have nuE := And.intro (fr.mem (b := m0) (by simp)) (fr.nu)
      by_cases hx : x ∈ L.map Itm.kd
      · simp only [hx, if_true, Option.getD_some, Bool.false_eq_true, if_false] at lk
        simp (maxDischargeDepth := 16) only [argE_nil, argE_cons, ↓vmD, vmV, vmStd, Nat.reduceMul, ↓reduceIte, Nat.reduceAdd, Nat.reduceSub, Nat.reduceEqDiff, Nat.reduceLT, Nat.reduceLeDiff, reduceCtorEq, Int.reduceToNat, Int.reduceLT, Int.reduceLE, Int.reduceEq, Int.reduceNeg, Int.reduceBEq, Int.reduceBNe, String.reduceEq, forall_const, ↓vmDA, vmVA, ↓vmQA, vmR, vmRA, ↓vmSA, vmSV, tyS, nuE, SubA.skip, SubA.refl, fr.2, vbEvi, evName_v, evCheck_v, lt, hbk, hc0, n1, n2, lk, we]
        exact LoopA.weak (ih (e + 1) hd' (by omega) (by rw [htk, List.all_append, hno]; simp only [List.all_cons, List.all_nil, decide_eq_true hx, Bool.and_self])) (by simp only [subE, get_cons, Nat.reduceEqDiff, ↓reduceIte, reduceCtorEq, Nat.reduceAdd, and_self, and_true]) (SubA.refl _)
      · simp only [hx, if_false, Option.getD_none, Bool.false_eq_true] at lk
        simp (maxDischargeDepth := 16) only [argE_nil, argE_cons, ↓vmD, vmV, vmStd, Nat.reduceMul, ↓reduceIte, Nat.reduceAdd, Nat.reduceSub, Nat.reduceEqDiff, Nat.reduceLT, Nat.reduceLeDiff, reduceCtorEq, Int.reduceToNat, Int.reduceLT, Int.reduceLE, Int.reduceEq, Int.reduceNeg, Int.reduceBEq, Int.reduceBNe, String.reduceEq, forall_const, ↓vmDA, vmVA, ↓vmQA, vmR, vmRA, ↓vmSA, vmSV, tyS, nuE, SubA.skip, SubA.refl, fr.2, vbEvi, evName_v, evCheck_v, lt, hbk, hc0, n1, n2, lk, we]
        have hf : suffF L T = false := by
          simp only [suffF, Bool.and_eq_false_iff]
          exact .inr (.inr (by rw [List.all_eq_false]; exact ⟨x, List.mem_of_getElem? ha, by simpa using hx⟩))
        exact ⟨by rw [hf], SubA.fresh f0 (SubA.refl _)⟩
  | cons x l ih =>
    obtain ⟨ha, hlt, hd', htk⟩ := drop_some hd
    have lt : ((e : Int) < (L.length : Int)) = True := eq_true (by omega)
    have we : IntKind.i64.wrap ((e : Int) + 1) = ((e + 1 : Nat) : Int) := by rw [w_i64 (by omega) (by omega)]; omega
    obtain ⟨bk, off, cs, ty, fr0, hp0, hbk, hcr, hcc⟩ := hL.at ha
    subst hp0
    obtain ⟨n1, n2⟩ := look_ne f0 hbk
    simp only [itC] at hcr
    refine LoopA.intro (by kernel_rfl) ?_
    intro ν fr; have nuE := And.intro (fr.mem (b := m0) (by simp)) (fr.nu)
    have hev : (if nameF (bs x.kd) = false then (5 : Int) else if x.sz < 1 ∨ 1000000 < x.sz then 4 else 0) = evF x := rfl
    have evc := fun A' => (evCheck_v x.kd x.sz x.hs A').trans (by rw [hev])
    by_cases h0 : evF x = 0
    · simp (maxDischargeDepth := 16) only [argE_nil, argE_cons, ↓vmD, vmV, vmStd, Nat.reduceMul, ↓reduceIte, Nat.reduceAdd, Nat.reduceSub, Nat.reduceEqDiff, Nat.reduceLT, Nat.reduceLeDiff, reduceCtorEq, Int.reduceToNat, Int.reduceLT, Int.reduceLE, Int.reduceEq, Int.reduceNeg, Int.reduceBEq, Int.reduceBNe, String.reduceEq, forall_const, ↓vmDA, vmVA, ↓vmQA, vmR, vmRA, ↓vmSA, vmSV, tyS, nuE, SubA.skip, SubA.refl, fr.2, vbEvi, evName_v, evCheck_v, lt, hbk, hcr, n1, n2, evc, h0, we]
      have z1 : Vm.look A (ν 0) = none := (SubA.fresh (o := Obj.map es cl) f0 (SubA.refl A)).none (fr.2 0)
      have z2 : (m0 = ν 0) = False := by simp [nuE]
      refine rA_update und_kb und_st (by simp (maxDischargeDepth := 16) only [argE_nil, argE_cons, ↓vmD, vmV, vmStd, Nat.reduceMul, ↓reduceIte, Nat.reduceAdd, Nat.reduceSub, Nat.reduceEqDiff, Nat.reduceLT, Nat.reduceLeDiff, reduceCtorEq, Int.reduceToNat, Int.reduceLT, Int.reduceLE, Int.reduceEq, Int.reduceNeg, Int.reduceBEq, Int.reduceBNe, String.reduceEq, forall_const, ↓vmDA, vmVA, ↓vmQA, vmR, vmRA, ↓vmSA, vmSV, tyS, nuE, SubA.skip, SubA.refl, fr.2, vbEvi, evName_v, evCheck_v]; rfl) hm ?_
      intro es' cl' hm'
      intro ν3 fr3
      simp only [putB, nuE, if_false, if_true] at fr3 ⊢
      have fr := fr3
      have nuE := fr.nu
      simp (maxDischargeDepth := 16) only [argE_nil, argE_cons, ↓vmD, vmV, vmStd, Nat.reduceMul, ↓reduceIte, Nat.reduceAdd, Nat.reduceSub, Nat.reduceEqDiff, Nat.reduceLT, Nat.reduceLeDiff, reduceCtorEq, Int.reduceToNat, Int.reduceLT, Int.reduceLE, Int.reduceEq, Int.reduceNeg, Int.reduceBEq, Int.reduceBNe, String.reduceEq, forall_const, ↓vmDA, vmVA, ↓vmQA, vmR, vmRA, ↓vmSA, vmSV, tyS, nuE, SubA.skip, SubA.refl, fr.2, vbEvi, evName_v, evCheck_v, we]
      refine LoopA.at (A := (m0, Obj.map es' cl') :: A) (SubA.skip (by simp only [Vm.look, z2, if_false]; exact z1) (SubA.refl _)) ?_
      refine LoopA.weak (ih (e + 1) es' cl' _ hd' (by omega) (by rw [htk, List.all_append, hok]; simp [h0]) hm' ?_) (by simp only [subE, get_cons, Nat.reduceEqDiff, ↓reduceIte, reduceCtorEq, Nat.reduceAdd, and_self, and_true]) (SubA.refl _)
      intro k
      rw [lookM_upd, hlk k, htk]
      by_cases hk : k = x.kd
      · subst hk; simp
      · rw [if_neg (fun h => hk (bs_inj h))]
        simp only [List.map_append, List.map_cons, List.map_nil, List.mem_append, List.mem_singleton, hk, or_false]
    · have hf : suffF L T = false := by
        simp only [suffF, Bool.and_eq_false_iff]
        exact .inr (.inl (by rw [List.all_eq_false]; exact ⟨x, List.mem_of_getElem? ha, by simpa using h0⟩))
      simp (maxDischargeDepth := 16) only [argE_nil, argE_cons, ↓vmD, vmV, vmStd, Nat.reduceMul, ↓reduceIte, Nat.reduceAdd, Nat.reduceSub, Nat.reduceEqDiff, Nat.reduceLT, Nat.reduceLeDiff, reduceCtorEq, Int.reduceToNat, Int.reduceLT, Int.reduceLE, Int.reduceEq, Int.reduceNeg, Int.reduceBEq, Int.reduceBNe, String.reduceEq, forall_const, ↓vmDA, vmVA, ↓vmQA, vmR, vmRA, ↓vmSA, vmSV, tyS, nuE, SubA.skip, SubA.refl, fr.2, vbEvi, evName_v, evCheck_v, lt, hbk, hcr, n1, n2, evc, h0, we, hf]
      exact SubA.skip ((SubA.fresh f0 (SubA.refl _)).none (fr.2 0)) (SubA.fresh f0 (SubA.refl _))
theorem suff_w (A : AH) (L : List Itm) (p : Option Addr) (cap : Nat) (hL : StR itC 3 A p L) (T : List Txt) (q : Option Addr) (qcap : Nat) (hT : TxR A q qcap T) (B_ : AH) (hB_ : SubA A B_) : valA Tryz.prog 29 #[.slice p L.length cap, .slice q T.length qcap] B_ = some (.bool (suffF L T)) := valA_eq (pureA_at (by kernel_rfl) (suff_h A L p cap hL T q qcap hT) hB_)
theorem suff_v (A : AH) (L : List Itm) (p : Option Addr) (cap : Nat) (hL : StR itC 3 A p L) (T : List Txt) (q : Option Addr) (qcap : Nat) (hT : TxR A q qcap T) : valA Tryz.prog 29 #[.slice p L.length cap, .slice q T.length qcap] A = some (.bool (suffF L T)) := valA_eq (pureA_at (by kernel_rfl) (suff_h A L p cap hL T q qcap hT) (SubA.refl _))
end Go.Proofs.YtiholbpchhifiaaGreatDoor
