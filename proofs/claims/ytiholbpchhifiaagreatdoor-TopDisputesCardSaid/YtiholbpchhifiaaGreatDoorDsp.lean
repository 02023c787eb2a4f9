/-
Disputes: the walk of Open.
Conditions: none.
-/
import Derived.Test.YtiholbpchhifiaaGreatDoorDso
import Derived.Test.YtiholbpchhifiaaGreatDoorFra
namespace Go.Proofs.YtiholbpchhifiaaGreatDoor
open Go.Vm
set_option linter.unusedSimpArgs false
set_option linter.unusedVariables false
set_option maxHeartbeats 4000000
set_option maxRecDepth 20000
theorem vbDsp : type_of% (And.intro @slIndexByte_v (And.intro @indexByte_v (And.intro @indexRune_v (And.intro @containsRune_v (And.intro @classOf_v (And.intro @isWordByte_v (And.intro @wordAt_v (And.intro @isName_v (And.intro @possible_v (And.intro @days_v (And.intro @due_v (And.intro @evName_v (And.intro @evCheck_v (And.intro @dNext_v (And.intro @recId_v (And.intro @moneyCur_v (And.intro @inTotal_v (And.intro @exCard_v (And.intro @recCheck_v (@dspId_v)))))))))))))))))))) := And.intro @slIndexByte_v (And.intro @indexByte_v (And.intro @indexRune_v (And.intro @containsRune_v (And.intro @classOf_v (And.intro @isWordByte_v (And.intro @wordAt_v (And.intro @isName_v (And.intro @possible_v (And.intro @days_v (And.intro @due_v (And.intro @evName_v (And.intro @evCheck_v (And.intro @dNext_v (And.intro @recId_v (And.intro @moneyCur_v (And.intro @inTotal_v (And.intro @exCard_v (And.intro @recCheck_v (@dspId_v)))))))))))))))))))
theorem look_cat_app : ∀ (a m : List AH) (b : Nat), Vm.look (cat (a ++ m)) b = Vm.look (cat (a ++ [cat m])) b
  | [], m, b => rfl
  | x :: a, m, b => by
    rw [List.cons_append, List.cons_append, cat_cons, cat_cons, look_append, look_append, look_cat_app a m b]
theorem Sep.coarse : ∀ {a m : List AH}, Sep (a ++ m) → Sep (a ++ [cat m])
  | [], m, _ => Sep.one _
  | x :: a, m, h => by
    refine Sep.cons ?_ (Sep.coarse (a := a) h.2)
    intro y hy
    refine Sep.dis h y ?_
    have := look_cat_app a m y
    intro hn
    exact hy (this.symm.trans hn)
theorem Sep.fine : ∀ {a m : List AH}, Sep (a ++ [cat m]) → Sep m → Sep (a ++ m)
  | [], m, _, h => h
  | x :: a, m, h, k => by
    refine Sep.cons ?_ (Sep.fine (a := a) h.2 k)
    intro y hy
    refine Sep.dis h y ?_
    have := look_cat_app a m y
    intro hn
    exact hy (this.trans hn)
theorem Sep.tail : ∀ {a m : List AH}, Sep (a ++ m) → Sep m
  | [], _, h => h
  | x :: a, m, h => Sep.tail (a := a) h.2
theorem Sep.set : ∀ {l : List AH} (i : Nat) (y : AH), Sep l → (∀ b, Vm.look (at_ l i) b = none → Vm.look y b = none) → Sep (l.set i y)
  | [], _, _, h, _ => h
  | x :: l, 0, y, h, hy => Sep.cons ((Sep.dis h).less hy) h.2
  | x :: l, i + 1, y, h, hy => by
    refine ⟨SepT.of fun z hz => ?_, Sep.set i y h.2 hy⟩
    by_cases hi : i < l.length
    · rcases List.mem_or_eq_of_mem_set hz with e | e
      · exact h.1.all z e
      · subst e
        exact ((h.1.all _ (at_mem hi)).symm.less hy).symm
    · rw [List.set_eq_of_length_le (by omega)] at hz
      exact h.1.all z hz
theorem one_less {b : Nat} {o u : Obj} : ∀ x, Vm.look [(b, o)] x = none → Vm.look [(b, u)] x = none := fun x h => by
  simp only [Vm.look] at h ⊢
  split at h
  · cases h
  · rename_i hne; rw [if_neg hne]
theorem Sep.snoc : ∀ {l : List AH} {X : AH}, Sep l → Dis (cat l) X → Sep (l ++ [X])
  | [], X, _, _ => Sep.one X
  | x :: l, X, h, d => by
    refine ⟨SepT.of fun w hw => ?_, Sep.snoc (l := l) h.2 fun y hy => ?_⟩
    · rcases List.mem_append.1 hw with e | e
      · exact h.1.all w e
      · simp at e
        subst e
        intro y hy
        have := d y hy
        rw [cat_cons] at this
        exact (SubA.left x (cat l)).none this
    · have := d y hy
      exact (Sep.sub h |> fun hs => by
        rw [cat_cons, look_append] at this
        cases hx : Vm.look x y with
        | some o => rw [hx] at this; cases this
        | none => rw [hx] at this; exact this)
theorem sc_fo (a b c d e g : ByteArray) (n i j k l : Int) : sliceCells Tryz.prog 62 1 [(0, .agg #[.string a, .string b, .string c, .string d, .string e, .int .i64 n, .string g, .int .i64 i, .int .i64 j, .int .i64 k, .slice none 0 0, .int .i64 l])] = some (68, #[.string a, .string b, .string c, .string d, .string e, .int .i64 n, .string g, .int .i64 i, .int .i64 j, .int .i64 k, .slice none 0 0, .int .i64 l]) := by kernel_rfl
/-- What Open leaves. -/
def OpenP (X : AH) (db : Nat) (R : List Rs) (F : List Fd) (u : Value) (D : AH) (q : Int × List Fd) : Prop := u = .int .i64 q.1 ∧ ∃ E' fv' F', DkP E' db fv' R F' ∧ F'.map Fo.d = q.2 ∧ Dis E' X ∧ SubA (E' ++ X) D
theorem openP_h (E : AH) (X : AH) (db : Nat) (fv : Value) (R : List Rs) (F : List Fo) (hE : DkP E db fv R F) (hEX : Dis E X) (hF : FdsOk (F.map Fo.d)) (id : Txt) (r : Rd) (code : Txt) (amount date : Int) (L : List Itm) (p : Option Addr) (cap : Nat) (hL : StR itC 3 X p L) : CallA Tryz.prog 6 #[.pointer (some ⟨db, 0, none⟩), .string (bs id), .agg #[.int .i64 r.kd, .string (bs r.id), .string (bs r.au), .string (bs r.aq), .string (bs r.is), .string (bs r.me), .string (bs r.ca), .int .i64 r.am, .string (bs r.cu), .int .i64 r.da, .int .i64 r.ct, .bool r.fi], .string (bs code), .int .i64 amount, .int .i64 date, .slice p L.length cap] (E ++ X) (fun u_ A_ => OpenP X db R (F.map Fo.d) u_ A_ (openX (R.map Rs.d) (F.map Fo.d) id r code amount date L)) := by
  refine callA_of_denA ⟨Tryz.prog, 6, Tryz.f6, 100, [0, 1, 2, 3, 4, 5, 6, 9, 14, 16, 17, 18], [20], [], _⟩ (args := [_, _, _, _, _, _, _]) Tryz.func6 rfl (by kernel_rfl) Tryz.ntmps6 (by simp) (by kernel_rfl) ?_
  intro ν fr; have nuE := fr.nu
  have cv := fun B hB => checkD_w (E ++ X) E (SubA.left E X) db fv R F hE hF r code amount date L p cap (hL.mono hEX.right) B hB
  obtain ⟨rp, rcap, pr, es, cl, M, RX, FB, rfl, sp, h1, h2, h3, h3b, h4, h5, h6, h7⟩ := hE
  obtain ⟨fp, fcap, rfl, hfc, hfs⟩ := h4.read foC_len
  have hE : DkP _ db _ R F := ⟨rp, rcap, pr, es, cl, M, RX, FB, rfl, sp, h1, h2, h3, h3b, h4, h5, h6, h7⟩
  have spc := Sep.coarse (a := [_, _, _, _]) sp
  have eq0 : ∀ b, Vm.look (cat ([(db, (Obj.cells #[.slice rp R.length rcap, .slice fp F.length fcap, .map (some pr)] 65))] :: [(pr, .map es cl)] :: RX :: FB :: F.map Fo.sb)) b = Vm.look (cat [[(db, (Obj.cells #[.slice rp R.length rcap, .slice fp F.length fcap, .map (some pr)] 65))], [(pr, .map es cl)], RX, FB, cat (F.map Fo.sb)]) b := fun b => look_cat_app [_, _, _, _] (F.map Fo.sb) b
  have l1 : Vm.look (cat ([(db, (Obj.cells #[.slice rp R.length rcap, .slice fp F.length fcap, .map (some pr)] 65))] :: [(pr, .map es cl)] :: RX :: FB :: F.map Fo.sb) ++ X) db = some (Obj.cells #[.slice rp R.length rcap, .slice fp F.length fcap, .map (some pr)] 65) := SubA.left _ _ _ _ (sp.sub [(db, (Obj.cells #[.slice rp R.length rcap, .slice fp F.length fcap, .map (some pr)] 65))] (by simp) _ _ (by simp [Vm.look]))
  have l2 : Vm.look (cat ([(db, (Obj.cells #[.slice rp R.length rcap, .slice fp F.length fcap, .map (some pr)] 65))] :: [(pr, .map es cl)] :: RX :: FB :: F.map Fo.sb) ++ X) pr = some (.map es cl) := SubA.left _ _ _ _ (sp.sub [(pr, .map es cl)] (by simp) _ _ (by simp [Vm.look]))
  have mdp : (db = pr) = False := eq_false (fun e => by
    have := sp.1.all [(pr, .map es cl)] (by simp) pr (by simp [Vm.look])
    simp [Vm.look, e] at this)
  have nd := fr.ne (b := db) (by rw [l1]; simp)
  have np := fr.ne (b := pr) (by rw [l2]; simp)
  have f0 := fr.2 0
  have cv0 := cv ((ν 0, (Obj.cells #[.int .i64 r.kd, .string (bs r.id), .string (bs r.au), .string (bs r.aq), .string (bs r.is), .string (bs r.me), .string (bs r.ca), .int .i64 r.am, .string (bs r.cu), .int .i64 r.da, .int .i64 r.ct, .bool r.fi] 29)) :: (cat ([(db, (Obj.cells #[.slice rp R.length rcap, .slice fp F.length fcap, .map (some pr)] 65))] :: [(pr, .map es cl)] :: RX :: FB :: F.map Fo.sb) ++ X)) (SubA.fresh f0 (SubA.refl _))
  have lk := rdA_lookup (s := bs id) (A := (ν 0, (Obj.cells #[.int .i64 r.kd, .string (bs r.id), .string (bs r.au), .string (bs r.aq), .string (bs r.is), .string (bs r.me), .string (bs r.ca), .int .i64 r.am, .string (bs r.cu), .int .i64 r.da, .int .i64 r.ct, .bool r.fi] 29)) :: (cat ([(db, (Obj.cells #[.slice rp R.length rcap, .slice fp F.length fcap, .map (some pr)] 65))] :: [(pr, .map es cl)] :: RX :: FB :: F.map Fo.sb) ++ X)) (ok := true) (es := es) (cl := cl) (r := pr) und_mi und_st zro3 (by simp only [Vm.look, np, if_false]; exact l2) h6
  rw [h7 id] at lk
  have same : ∀ o, OpenP X db R (F.map Fo.d) (.int .i64 (openX (R.map Rs.d) (F.map Fo.d) id r code amount date L).1) ((ν 0, o) :: (cat ([(db, (Obj.cells #[.slice rp R.length rcap, .slice fp F.length fcap, .map (some pr)] 65))] :: [(pr, .map es cl)] :: RX :: FB :: F.map Fo.sb) ++ X)) (openX (R.map Rs.d) (F.map Fo.d) id r code amount date L) ∨ openE (R.map Rs.d) (F.map Fo.d) id r code amount date L = 0 := fun o => by
    by_cases h : openE (R.map Rs.d) (F.map Fo.d) id r code amount date L = 0
    · exact .inr h
    · refine .inl ⟨rfl, _, _, F, hE, by unfold openX; rw [if_pos h], hEX, SubA.fresh f0 (SubA.refl _)⟩
  have bad : ∀ o k, openE (R.map Rs.d) (F.map Fo.d) id r code amount date L = k → k ≠ 0 → OpenP X db R (F.map Fo.d) (.int .i64 k) ((ν 0, o) :: (cat ([(db, (Obj.cells #[.slice rp R.length rcap, .slice fp F.length fcap, .map (some pr)] 65))] :: [(pr, .map es cl)] :: RX :: FB :: F.map Fo.sb) ++ X)) (openX (R.map Rs.d) (F.map Fo.d) id r code amount date L) := fun o k hk h0 => by
    rcases same o with h | h
    · have : (openX (R.map Rs.d) (F.map Fo.d) id r code amount date L).1 = k := by unfold openX; rw [if_pos (by rw [hk]; exact h0)]; exact hk
      rw [this] at h; exact h
    · rw [hk] at h; exact absurd h h0
  have hlen : (F.map Fo.d).length = F.length := by simp
  cases e1 : idF (bs id) with
  | false =>
    have hx : openE (R.map Rs.d) (F.map Fo.d) id r code amount date L = 5 := if_pos e1
    simp (maxDischargeDepth := 16) only [argE_nil, argE_cons, ↓vmD, vmV, vmStd, Nat.reduceMul, ↓reduceIte, Nat.reduceAdd, Nat.reduceSub, Nat.reduceEqDiff, Nat.reduceLT, Nat.reduceLeDiff, reduceCtorEq, Int.reduceToNat, Int.reduceLT, Int.reduceLE, Int.reduceEq, Int.reduceNeg, Int.reduceBEq, Int.reduceBNe, String.reduceEq, forall_const, ↓vmDA, vmVA, ↓vmQA, vmR, vmRA, ↓vmSA, vmSV, tyS, nuE, SubA.skip, SubA.refl, fr.2, vbDsp, e1]
    exact bad _ _ hx (by decide)
  | true =>
  cases e2 : posF id (F.map Fo.d) with
  | some i =>
    have hx : openE (R.map Rs.d) (F.map Fo.d) id r code amount date L = 7 := by unfold openE; rw [if_neg (by simp [e1]), if_pos (by rw [e2]; rfl)]
    simp only [e2, Option.map_some, Option.getD_some, Option.isSome_some, if_true] at lk
    simp (maxDischargeDepth := 16) only [argE_nil, argE_cons, ↓vmD, vmV, vmStd, Nat.reduceMul, ↓reduceIte, Nat.reduceAdd, Nat.reduceSub, Nat.reduceEqDiff, Nat.reduceLT, Nat.reduceLeDiff, reduceCtorEq, Int.reduceToNat, Int.reduceLT, Int.reduceLE, Int.reduceEq, Int.reduceNeg, Int.reduceBEq, Int.reduceBNe, String.reduceEq, forall_const, ↓vmDA, vmVA, ↓vmQA, vmR, vmRA, ↓vmSA, vmSV, tyS, nuE, SubA.skip, SubA.refl, fr.2, vbDsp, e1, l1, nd, np, lk]
    exact bad _ _ hx (by decide)
  | none =>
  simp only [e2, Option.map_none, Option.getD_none, Option.isSome_none, if_true] at lk
  by_cases e3 : 64 ≤ F.length
  · have hx : openE (R.map Rs.d) (F.map Fo.d) id r code amount date L = 12 := by unfold openE; rw [if_neg (by simp [e1]), if_neg (by rw [e2]; simp), if_pos (by rw [hlen]; exact e3)]
    have e3' : ((F.length : Int) < 64) = False := eq_false (by omega)
    have e3'' : ((64 : Int) ≤ (F.length : Int)) = True := eq_true (by omega)
    simp (maxDischargeDepth := 16) only [argE_nil, argE_cons, ↓vmD, vmV, vmStd, Nat.reduceMul, ↓reduceIte, Nat.reduceAdd, Nat.reduceSub, Nat.reduceEqDiff, Nat.reduceLT, Nat.reduceLeDiff, reduceCtorEq, Int.reduceToNat, Int.reduceLT, Int.reduceLE, Int.reduceEq, Int.reduceNeg, Int.reduceBEq, Int.reduceBNe, String.reduceEq, forall_const, ↓vmDA, vmVA, ↓vmQA, vmR, vmRA, ↓vmSA, vmSV, tyS, nuE, SubA.skip, SubA.refl, fr.2, vbDsp, e1, l1, nd, np, lk, e3', e3'']
    exact bad _ _ hx (by decide)
  have e3' : ((F.length : Int) < 64) = True := eq_true (by omega)
  have e3'' : ((64 : Int) ≤ (F.length : Int)) = False := eq_false (by omega)
  have hx : openE (R.map Rs.d) (F.map Fo.d) id r code amount date L = checkX (R.map Rs.d) (F.map Fo.d) r code amount date L := by unfold openE; rw [if_neg (by simp [e1]), if_neg (by rw [e2]; simp), if_neg (by rw [hlen]; exact e3)]
  by_cases e4 : checkX (R.map Rs.d) (F.map Fo.d) r code amount date L = 0
  rotate_left
  · simp (maxDischargeDepth := 16) only [argE_nil, argE_cons, ↓vmD, vmV, vmStd, Nat.reduceMul, ↓reduceIte, Nat.reduceAdd, Nat.reduceSub, Nat.reduceEqDiff, Nat.reduceLT, Nat.reduceLeDiff, reduceCtorEq, Int.reduceToNat, Int.reduceLT, Int.reduceLE, Int.reduceEq, Int.reduceNeg, Int.reduceBEq, Int.reduceBNe, String.reduceEq, forall_const, ↓vmDA, vmVA, ↓vmQA, vmR, vmRA, ↓vmSA, vmSV, tyS, nuE, SubA.skip, SubA.refl, fr.2, vbDsp, e1, l1, nd, np, lk, e3', e3'', cv0, e4]
    exact bad _ _ hx e4
  simp (maxDischargeDepth := 16) only [argE_nil, argE_cons, ↓vmD, vmV, vmStd, Nat.reduceMul, ↓reduceIte, Nat.reduceAdd, Nat.reduceSub, Nat.reduceEqDiff, Nat.reduceLT, Nat.reduceLeDiff, reduceCtorEq, Int.reduceToNat, Int.reduceLT, Int.reduceLE, Int.reduceEq, Int.reduceNeg, Int.reduceBEq, Int.reduceBNe, String.reduceEq, forall_const, ↓vmDA, vmVA, ↓vmQA, vmR, vmRA, ↓vmSA, vmSV, tyS, nuE, SubA.skip, SubA.refl, fr.2, vbDsp, e1, l1, nd, np, lk, e3', e3'', cv0, e4]
  have f1 := fr.2 1
  have nd1 := nd 1
  have np1 := np 1
  have dst_ : ((ν 0 = ν 1) = False) ∧ ((ν 1 = ν 0) = False) := (by simp [nuE]); generalize ν 0 = b0 at dst_  f0 f1 nd1 np1 ⊢; generalize ν 1 = n1 at dst_  f0 f1 nd1 np1 ⊢
  clear nuE fr nd np dst_ same bad cv cv0 lk
  -- what is known, part by part
  have sE : SubA (cat [[(db, (Obj.cells #[.slice rp R.length rcap, .slice fp F.length fcap, .map (some pr)] 65))], [(pr, .map es cl)], FB, RX, cat (F.map Fo.sb)]) (cat ([(db, (Obj.cells #[.slice rp R.length rcap, .slice fp F.length fcap, .map (some pr)] 65))] :: [(pr, .map es cl)] :: RX :: FB :: F.map Fo.sb)) := fun b o hl => (eq0 b).trans (Sep.subs spc [0, 1, 3, 2, 4] rfl b o hl)
  have spX : Sep [[(db, (Obj.cells #[.slice rp R.length rcap, .slice fp F.length fcap, .map (some pr)] 65))], [(pr, .map es cl)], FB, RX, cat (F.map Fo.sb), X] := Sep.snoc (Sep.pick spc [0, 1, 3, 2, 4] rfl rfl) fun x hx => sE.none (hEX x hx)
  have sX : SubA (cat [[(db, (Obj.cells #[.slice rp R.length rcap, .slice fp F.length fcap, .map (some pr)] 65))], [(pr, .map es cl)], FB, RX, cat (F.map Fo.sb), X]) (cat ([(db, (Obj.cells #[.slice rp R.length rcap, .slice fp F.length fcap, .map (some pr)] 65))] :: [(pr, .map es cl)] :: RX :: FB :: F.map Fo.sb) ++ X) := fun b o hl => by
    have := look_cat_app [[(db, (Obj.cells #[.slice rp R.length rcap, .slice fp F.length fcap, .map (some pr)] 65))], [(pr, .map es cl)], FB, RX] [cat (F.map Fo.sb), X] b
    rw [look_append, eq0 b]
    have h2 : Vm.look (cat [[(db, (Obj.cells #[.slice rp R.length rcap, .slice fp F.length fcap, .map (some pr)] 65))], [(pr, .map es cl)], FB, RX, cat (F.map Fo.sb), X]) b = Vm.look (cat [[(db, (Obj.cells #[.slice rp R.length rcap, .slice fp F.length fcap, .map (some pr)] 65))], [(pr, .map es cl)], FB, RX, cat (F.map Fo.sb)] ++ X) b := by simp only [cat, List.append_assoc]
    rw [h2, look_append] at hl
    have h3 : Vm.look (cat [[(db, (Obj.cells #[.slice rp R.length rcap, .slice fp F.length fcap, .map (some pr)] 65))], [(pr, .map es cl)], FB, RX, cat (F.map Fo.sb)]) b = Vm.look (cat [[(db, (Obj.cells #[.slice rp R.length rcap, .slice fp F.length fcap, .map (some pr)] 65))], [(pr, .map es cl)], RX, FB, cat (F.map Fo.sb)]) b := by
      cases hb : Vm.look (cat [[(db, (Obj.cells #[.slice rp R.length rcap, .slice fp F.length fcap, .map (some pr)] 65))], [(pr, .map es cl)], FB, RX, cat (F.map Fo.sb)]) b with
      | some o => exact (Sep.subs spc [0, 1, 3, 2, 4] rfl b o hb).symm
      | none =>
        refine Eq.symm ?_
        refine (Sep.subs (Sep.pick spc [0, 1, 3, 2, 4] rfl rfl) [0, 1, 3, 2, 4] rfl).none ?_
        exact hb
    rw [h3] at hl
    exact hl
  have sp1 : Sep [[(n1, (Obj.cells #[.string (bs id), .string (bs r.id), .string (bs code), .string (bs r.is), .string (bs r.aq), .int .i64 amount, .string (bs r.cu), .int .i64 0, .int .i64 date, .int .i64 0] 43))], [(db, (Obj.cells #[.slice rp R.length rcap, .slice fp F.length fcap, .map (some pr)] 65))], [(pr, .map es cl)], FB, RX, cat (F.map Fo.sb), X] := Sep.fresh (SubA.none sX f1) _ spX
  refine MeantA.at (A := cat [[(n1, (Obj.cells #[.string (bs id), .string (bs r.id), .string (bs code), .string (bs r.is), .string (bs r.aq), .int .i64 amount, .string (bs r.cu), .int .i64 0, .int .i64 date, .int .i64 0] 43))], [(db, (Obj.cells #[.slice rp R.length rcap, .slice fp F.length fcap, .map (some pr)] 65))], [(pr, .map es cl)], FB, RX, cat (F.map Fo.sb), X]) (cons_in (SubA.fresh f0 sX)) ?_
  simp only [cat, List.cons_append, List.nil_append]
  refine MeantA.tree [10] (.one 0 0 (.one 1 0 (.one 2 0 (.one 3 0 (.one 4 0 (.one 5 0 (.one 6 0 (.one 7 0 (.one 8 0 (.one 9 0 (.one 10 2 .nil))))))))))) _ (SubA.refl _) (by kernel_rfl) (by kernel_rfl) (by kernel_rfl) (by kernel_rfl) (by kernel_rfl) ?_
  intro ν fr
  have nuE := And.intro nd1 (And.intro np1 (And.intro mdp (And.intro (fr.mem (b := n1) (by simp)) (And.intro (fr.mem (b := db) (by simp)) (And.intro (fr.mem (b := pr) (by simp)) fr.nu)))))
  simp (maxDischargeDepth := 16) only [argE_nil, argE_cons, ↓vmD, vmV, vmStd, Nat.reduceMul, ↓reduceIte, Nat.reduceAdd, Nat.reduceSub, Nat.reduceEqDiff, Nat.reduceLT, Nat.reduceLeDiff, reduceCtorEq, Int.reduceToNat, Int.reduceLT, Int.reduceLE, Int.reduceEq, Int.reduceNeg, Int.reduceBEq, Int.reduceBNe, String.reduceEq, forall_const, ↓vmDA, vmVA, ↓vmQA, vmR, vmRA, ↓vmSA, vmSV, tyS, nuE, SubA.skip, SubA.refl, fr.2, vbDsp, tA_nil, tA_one]
  refine rA_update und_mi und_st (by simp (maxDischargeDepth := 16) only [argE_nil, argE_cons, ↓vmD, vmV, vmStd, Nat.reduceMul, ↓reduceIte, Nat.reduceAdd, Nat.reduceSub, Nat.reduceEqDiff, Nat.reduceLT, Nat.reduceLeDiff, reduceCtorEq, Int.reduceToNat, Int.reduceLT, Int.reduceLE, Int.reduceEq, Int.reduceNeg, Int.reduceBEq, Int.reduceBNe, String.reduceEq, forall_const, ↓vmDA, vmVA, ↓vmQA, vmR, vmRA, ↓vmSA, vmSV, tyS, nuE, SubA.skip, SubA.refl, fr.2, vbDsp]; rfl) h6 ?_
  intro es2 cl2 hm2
  have h7' : MapOk (updM M (bs id) (.int .i64 (F.length : Int))) (F.map Fo.d ++ [openF (R.map Rs.d) id r code amount date]) := by
    intro k
    rw [lookM_upd, h7 k, posF_app]
    by_cases hk : k = id
    · subst hk
      rw [if_pos rfl, e2]
      simp only [hlen]
      rw [if_pos (show (openF (R.map Rs.d) k r code amount date).c.id = k from rfl)]
      rfl
    · rw [if_neg (fun h => hk (bs_inj h))]
      cases posF k (F.map Fo.d) with
      | some j => rfl
      | none => simp only; rw [if_neg (show ¬ (openF (R.map Rs.d) id r code amount date).c.id = k from fun h => hk h.symm)]
  intro ν2 fr2
  simp only [putB, nuE, if_false, if_true] at fr2 ⊢
  have fr := fr2
  have nuE := And.intro nd1 (And.intro np1 (And.intro mdp (And.intro (fr.mem (b := n1) (by simp)) (And.intro (fr.mem (b := db) (by simp)) (And.intro (fr.mem (b := pr) (by simp)) fr.nu)))))
  have sp2 : Sep [[(n1, (Obj.cells #[.string (bs id), .string (bs r.id), .string (bs code), .string (bs r.is), .string (bs r.aq), .int .i64 amount, .string (bs r.cu), .int .i64 0, .int .i64 date, .int .i64 0] 43))], [(db, (Obj.cells #[.slice rp R.length rcap, .slice fp F.length fcap, .map (some pr)] 65))], [(pr, .map es2 cl2)], FB, RX, cat (F.map Fo.sb), X] := Sep.set (l := [[(n1, (Obj.cells #[.string (bs id), .string (bs r.id), .string (bs code), .string (bs r.is), .string (bs r.aq), .int .i64 amount, .string (bs r.cu), .int .i64 0, .int .i64 date, .int .i64 0] 43))], [(db, (Obj.cells #[.slice rp R.length rcap, .slice fp F.length fcap, .map (some pr)] 65))], [(pr, .map es cl)], FB, RX, cat (F.map Fo.sb), X]) 2 [(pr, .map es2 cl2)] sp1 one_less
  simp (maxDischargeDepth := 16) only [argE_nil, argE_cons, ↓vmD, vmV, vmStd, Nat.reduceMul, ↓reduceIte, Nat.reduceAdd, Nat.reduceSub, Nat.reduceEqDiff, Nat.reduceLT, Nat.reduceLeDiff, reduceCtorEq, Int.reduceToNat, Int.reduceLT, Int.reduceLE, Int.reduceEq, Int.reduceNeg, Int.reduceBEq, Int.reduceBNe, String.reduceEq, forall_const, ↓vmDA, vmVA, ↓vmQA, vmR, vmRA, ↓vmSA, vmSV, tyS, nuE, SubA.skip, SubA.refl, fr.2, vbDsp]
  clear nuE fr fr2
  refine MeantA.tree [11] (.one 0 0 (.one 1 0 (.one 2 0 (.one 3 0 (.one 4 0 (.one 5 0 (.one 6 0 (.one 7 0 (.one 8 1 (.one 9 0 (.one 10 0 (.one 11 2 .nil)))))))))))) [(n1, (Obj.cells #[.string (bs id), .string (bs r.id), .string (bs code), .string (bs r.is), .string (bs r.aq), .int .i64 amount, .string (bs r.cu), .int .i64 0, .int .i64 date, .int .i64 0] 43)), (db, (Obj.cells #[.slice rp R.length rcap, .slice fp F.length fcap, .map (some pr)] 65))] (SubA.left [_, _] _) (by kernel_rfl) (by kernel_rfl) (by kernel_rfl) (by kernel_rfl) (by kernel_rfl) ?_
  intro ν fr
  have nuE := And.intro nd1 (And.intro np1 (And.intro mdp (And.intro (fr.mem (b := n1) (by simp)) (And.intro (fr.mem (b := db) (by simp)) (And.intro (fr.mem (b := pr) (by simp)) fr.nu)))))
  simp (maxDischargeDepth := 16) only [argE_nil, argE_cons, ↓vmD, vmV, vmStd, Nat.reduceMul, ↓reduceIte, Nat.reduceAdd, Nat.reduceSub, Nat.reduceEqDiff, Nat.reduceLT, Nat.reduceLeDiff, reduceCtorEq, Int.reduceToNat, Int.reduceLT, Int.reduceLE, Int.reduceEq, Int.reduceNeg, Int.reduceBEq, Int.reduceBNe, String.reduceEq, forall_const, ↓vmDA, vmVA, ↓vmQA, vmR, vmRA, ↓vmSA, vmSV, tyS, nuE, SubA.skip, SubA.refl, fr.2, vbDsp, tA_nil, tA_one, sc_fo]
  have f5 := fr.2 0
  have g5 : Vm.look (cat [[(n1, (Obj.cells #[.string (bs id), .string (bs r.id), .string (bs code), .string (bs r.is), .string (bs r.aq), .int .i64 amount, .string (bs r.cu), .int .i64 0, .int .i64 date, .int .i64 0] 43))], [(db, (Obj.cells #[.slice rp R.length rcap, .slice fp F.length fcap, .map (some pr)] 65))], [(pr, .map es2 cl2)], FB, RX, cat (F.map Fo.sb), X]) (ν 0) = none := f5
  refine RunA.use ?_
  refine append_src (m := 1) (news := foC (⟨⟨⟨id, r.id, code, r.is, r.aq, amount, r.cu, 0, date, 0⟩, [], 0⟩, .slice none 0 0, []⟩ : Fo)) (B := FB) slc62 zro68 rfl (by decide) h4 (SubA.fresh g5 (Sep.subs sp2 [3] rfl)) (.inr ⟨ν 0, 0, rfl, by simp (maxDischargeDepth := 16) only [argE_nil, argE_cons, ↓vmD, vmV, vmStd, Nat.reduceMul, ↓reduceIte, Nat.reduceAdd, Nat.reduceSub, Nat.reduceEqDiff, Nat.reduceLT, Nat.reduceLeDiff, reduceCtorEq, Int.reduceToNat, Int.reduceLT, Int.reduceLE, Int.reduceEq, Int.reduceNeg, Int.reduceBEq, Int.reduceBNe, String.reduceEq, forall_const, ↓vmDA, vmVA, ↓vmQA, vmR, vmRA, ↓vmSA, vmSV, tyS, nuE, SubA.skip, SubA.refl, fr.2, vbDsp, foC, bs]⟩) (by simp [foC, Value.oneCell']) (by simp only [maxLen]; omega) (by omega) ?_
  intro v' FB' ho' hb'
  have ho2 : OwnL foC 12 68 v' FB' (F ++ [(⟨⟨⟨id, r.id, code, r.is, r.aq, amount, r.cu, 0, date, 0⟩, [], 0⟩, .slice none 0 0, []⟩ : Fo)]) := by
    unfold OwnL
    rw [List.length_append, List.flatMap_append]
    simpa only [List.map_cons, List.map_nil, List.length_cons, List.length_nil, List.flatMap_cons, List.flatMap_nil, List.append_nil, Nat.zero_add] using ho'
  have dO : Dis FB' (cat [[(n1, (Obj.cells #[.string (bs id), .string (bs r.id), .string (bs code), .string (bs r.is), .string (bs r.aq), .int .i64 amount, .string (bs r.cu), .int .i64 0, .int .i64 date, .int .i64 0] 43))], [(db, (Obj.cells #[.slice rp R.length rcap, .slice fp F.length fcap, .map (some pr)] 65))], [(pr, .map es2 cl2)], RX, cat (F.map Fo.sb), X]) := ap_dis hb' (Sep.dis (Sep.pick sp2 [3, 0, 1, 2, 4, 5, 6] rfl rfl)) (SubA.fresh g5 (Sep.subs sp2 [0, 1, 2, 4, 5, 6] rfl))
  have sp3 : Sep [FB', [(n1, (Obj.cells #[.string (bs id), .string (bs r.id), .string (bs code), .string (bs r.is), .string (bs r.aq), .int .i64 amount, .string (bs r.cu), .int .i64 0, .int .i64 date, .int .i64 0] 43))], [(db, (Obj.cells #[.slice rp R.length rcap, .slice fp F.length fcap, .map (some pr)] 65))], [(pr, .map es2 cl2)], RX, cat (F.map Fo.sb), X] := Sep.cons dO (Sep.pick sp2 [0, 1, 2, 4, 5, 6] rfl rfl)
  have hS3 : SubA (cat [[(n1, (Obj.cells #[.string (bs id), .string (bs r.id), .string (bs code), .string (bs r.is), .string (bs r.aq), .int .i64 amount, .string (bs r.cu), .int .i64 0, .int .i64 date, .int .i64 0] 43))], [(db, (Obj.cells #[.slice rp R.length rcap, .slice fp F.length fcap, .map (some pr)] 65))], [(pr, .map es2 cl2)], FB', RX, cat (F.map Fo.sb), X]) (FB' ++ ((ν 0, Obj.cells (foC (⟨⟨⟨id, r.id, code, r.is, r.aq, amount, r.cu, 0, date, 0⟩, [], 0⟩, .slice none 0 0, []⟩ : Fo)).toArray 68) :: cat [[(n1, (Obj.cells #[.string (bs id), .string (bs r.id), .string (bs code), .string (bs r.is), .string (bs r.aq), .int .i64 amount, .string (bs r.cu), .int .i64 0, .int .i64 date, .int .i64 0] 43))], [(db, (Obj.cells #[.slice rp R.length rcap, .slice fp F.length fcap, .map (some pr)] 65))], [(pr, .map es2 cl2)], FB, RX, cat (F.map Fo.sb), X])) :=
    SubA.trans (Sep.subs sp3 [1, 2, 3, 0, 4, 5, 6] rfl) (SubA.app (SubA.fresh g5 (Sep.subs sp2 [0, 1, 2, 4, 5, 6] rfl)))
  obtain ⟨fb, fcap2, cur, rfl, rfl, hc1, hc2, hc3, hc4⟩ := ho2.blk (by simp)
  refine ⟨_, hS3, ?_⟩
  simp only [cat, List.cons_append, List.nil_append]
  have sp4 := Sep.pick sp3 [1, 2, 3, 0, 4, 5, 6] rfl rfl
  intro ν3 fr3
  have fr := fr3
  have nuE := And.intro nd1 (And.intro np1 (And.intro mdp (And.intro (fr.mem (b := n1) (by simp)) (And.intro (fr.mem (b := db) (by simp)) (And.intro (fr.mem (b := pr) (by simp)) fr.nu)))))
  simp (maxDischargeDepth := 16) only [argE_nil, argE_cons, ↓vmD, vmV, vmStd, Nat.reduceMul, ↓reduceIte, Nat.reduceAdd, Nat.reduceSub, Nat.reduceEqDiff, Nat.reduceLT, Nat.reduceLeDiff, reduceCtorEq, Int.reduceToNat, Int.reduceLT, Int.reduceLE, Int.reduceEq, Int.reduceNeg, Int.reduceBEq, Int.reduceBNe, String.reduceEq, forall_const, ↓vmDA, vmVA, ↓vmQA, vmR, vmRA, ↓vmSA, vmSV, tyS, nuE, SubA.skip, SubA.refl, fr.2, vbDsp]
  have sp5 : Sep [[(n1, (Obj.cells #[.string (bs id), .string (bs r.id), .string (bs code), .string (bs r.is), .string (bs r.aq), .int .i64 amount, .string (bs r.cu), .int .i64 0, .int .i64 date, .int .i64 0] 43))], [(db, (Obj.cells #[.slice rp R.length rcap, .slice (some ⟨fb, 0, none⟩) (F ++ [(⟨⟨⟨id, r.id, code, r.is, r.aq, amount, r.cu, 0, date, 0⟩, [], 0⟩, .slice none 0 0, []⟩ : Fo)]).length fcap2, .map (some pr)] 65))], [(pr, .map es2 cl2)], [(fb, .cells cur 68)], RX, cat (F.map Fo.sb), X] := Sep.set (l := [[(n1, (Obj.cells #[.string (bs id), .string (bs r.id), .string (bs code), .string (bs r.is), .string (bs r.aq), .int .i64 amount, .string (bs r.cu), .int .i64 0, .int .i64 date, .int .i64 0] 43))], [(db, (Obj.cells #[.slice rp R.length rcap, .slice fp F.length fcap, .map (some pr)] 65))], [(pr, .map es2 cl2)], [(fb, .cells cur 68)], RX, cat (F.map Fo.sb), X]) 1 [(db, (Obj.cells #[.slice rp R.length rcap, .slice (some ⟨fb, 0, none⟩) (F ++ [(⟨⟨⟨id, r.id, code, r.is, r.aq, amount, r.cu, 0, date, 0⟩, [], 0⟩, .slice none 0 0, []⟩ : Fo)]).length fcap2, .map (some pr)] 65))] sp4 one_less
  have spF : Sep ([[(db, (Obj.cells #[.slice rp R.length rcap, .slice (some ⟨fb, 0, none⟩) (F ++ [(⟨⟨⟨id, r.id, code, r.is, r.aq, amount, r.cu, 0, date, 0⟩, [], 0⟩, .slice none 0 0, []⟩ : Fo)]).length fcap2, .map (some pr)] 65))], [(pr, .map es2 cl2)], RX, [(fb, .cells cur 68)]] ++ (F ++ [(⟨⟨⟨id, r.id, code, r.is, r.aq, amount, r.cu, 0, date, 0⟩, [], 0⟩, .slice none 0 0, []⟩ : Fo)]).map Fo.sb) := by
    rw [List.map_append, ← List.append_assoc]
    refine Sep.snoc (Sep.fine (Sep.pick sp5 [1, 2, 4, 3, 5] rfl rfl) (Sep.tail (a := [_, _, _, _]) sp)) fun x hx => absurd rfl hx
  have hmem : ∀ x ∈ [[(db, (Obj.cells #[.slice rp R.length rcap, .slice (some ⟨fb, 0, none⟩) (F ++ [(⟨⟨⟨id, r.id, code, r.is, r.aq, amount, r.cu, 0, date, 0⟩, [], 0⟩, .slice none 0 0, []⟩ : Fo)]).length fcap2, .map (some pr)] 65))], [(pr, .map es2 cl2)], RX, [(fb, .cells cur 68)]] ++ (F ++ [(⟨⟨⟨id, r.id, code, r.is, r.aq, amount, r.cu, 0, date, 0⟩, [], 0⟩, .slice none 0 0, []⟩ : Fo)]).map Fo.sb, SubA x (cat [[(n1, (Obj.cells #[.string (bs id), .string (bs r.id), .string (bs code), .string (bs r.is), .string (bs r.aq), .int .i64 amount, .string (bs r.cu), .int .i64 0, .int .i64 date, .int .i64 0] 43))], [(db, (Obj.cells #[.slice rp R.length rcap, .slice (some ⟨fb, 0, none⟩) (F ++ [(⟨⟨⟨id, r.id, code, r.is, r.aq, amount, r.cu, 0, date, 0⟩, [], 0⟩, .slice none 0 0, []⟩ : Fo)]).length fcap2, .map (some pr)] 65))], [(pr, .map es2 cl2)], [(fb, .cells cur 68)], RX, cat (F.map Fo.sb)]) := by
    intro x hx
    have sq : Sep [[(n1, (Obj.cells #[.string (bs id), .string (bs r.id), .string (bs code), .string (bs r.is), .string (bs r.aq), .int .i64 amount, .string (bs r.cu), .int .i64 0, .int .i64 date, .int .i64 0] 43))], [(db, (Obj.cells #[.slice rp R.length rcap, .slice (some ⟨fb, 0, none⟩) (F ++ [(⟨⟨⟨id, r.id, code, r.is, r.aq, amount, r.cu, 0, date, 0⟩, [], 0⟩, .slice none 0 0, []⟩ : Fo)]).length fcap2, .map (some pr)] 65))], [(pr, .map es2 cl2)], [(fb, .cells cur 68)], RX, cat (F.map Fo.sb)] := Sep.pick sp5 [0, 1, 2, 3, 4, 5] rfl rfl
    rcases List.mem_append.1 hx with h | h
    · refine Sep.sub sq x ?_
      simp only [List.mem_cons, List.not_mem_nil, or_false] at h ⊢
      rcases h with h | h | h | h <;> simp [h]
    · rw [List.map_append] at h
      rcases List.mem_append.1 h with h | h
      · exact SubA.trans (Sep.sub (Sep.tail (a := [_, _, _, _]) sp) x h) (Sep.sub sq _ (by simp))
      · simp at h; subst h; exact SubA.nil _
  have hE1 : DkP (cat ([(db, (Obj.cells #[.slice rp R.length rcap, .slice (some ⟨fb, 0, none⟩) (F ++ [(⟨⟨⟨id, r.id, code, r.is, r.aq, amount, r.cu, 0, date, 0⟩, [], 0⟩, .slice none 0 0, []⟩ : Fo)]).length fcap2, .map (some pr)] 65))] :: [(pr, .map es2 cl2)] :: RX :: [(fb, .cells cur 68)] :: (F ++ [(⟨⟨⟨id, r.id, code, r.is, r.aq, amount, r.cu, 0, date, 0⟩, [], 0⟩, .slice none 0 0, []⟩ : Fo)]).map Fo.sb)) db (.slice (some ⟨fb, 0, none⟩) (F ++ [(⟨⟨⟨id, r.id, code, r.is, r.aq, amount, r.cu, 0, date, 0⟩, [], 0⟩, .slice none 0 0, []⟩ : Fo)]).length fcap2) R (F ++ [(⟨⟨⟨id, r.id, code, r.is, r.aq, amount, r.cu, 0, date, 0⟩, [], 0⟩, .slice none 0 0, []⟩ : Fo)]) := by
    refine ⟨rp, rcap, pr, es2, cl2, _, RX, [(fb, .cells cur 68)], rfl, spF, h1, h2, h3, h3b, ho2, fun g hg => ?_, hm2, ?_⟩
    · rcases List.mem_append.1 hg with h | h
      · exact h5 g h
      · simp at h; subst h; exact OwnL.nil _ _ _
    · intro k
      rw [h7' k, List.map_append]
      exact congrArg _ (posF_ids (by simp [openF, enterX]))
  generalize hEq : cat ([(db, (Obj.cells #[.slice rp R.length rcap, .slice (some ⟨fb, 0, none⟩) (F ++ [(⟨⟨⟨id, r.id, code, r.is, r.aq, amount, r.cu, 0, date, 0⟩, [], 0⟩, .slice none 0 0, []⟩ : Fo)]).length fcap2, .map (some pr)] 65))] :: [(pr, .map es2 cl2)] :: RX :: [(fb, .cells cur 68)] :: (F ++ [(⟨⟨⟨id, r.id, code, r.is, r.aq, amount, r.cu, 0, date, 0⟩, [], 0⟩, .slice none 0 0, []⟩ : Fo)]).map Fo.sb) = E1 at hE1
  have sE1 : SubA E1 (cat [[(n1, (Obj.cells #[.string (bs id), .string (bs r.id), .string (bs code), .string (bs r.is), .string (bs r.aq), .int .i64 amount, .string (bs r.cu), .int .i64 0, .int .i64 date, .int .i64 0] 43))], [(db, (Obj.cells #[.slice rp R.length rcap, .slice (some ⟨fb, 0, none⟩) (F ++ [(⟨⟨⟨id, r.id, code, r.is, r.aq, amount, r.cu, 0, date, 0⟩, [], 0⟩, .slice none 0 0, []⟩ : Fo)]).length fcap2, .map (some pr)] 65))], [(pr, .map es2 cl2)], [(fb, .cells cur 68)], RX, cat (F.map Fo.sb)]) := by
    rw [← hEq]
    intro b o hl
    obtain ⟨x, hx, hxo⟩ := cat_some hl
    exact hmem x hx b o hxo
  have dEX : Dis E1 X := Dis.subl (Sep.dis (Sep.perm sp5 (l := _) (m := [X, [(n1, (Obj.cells #[.string (bs id), .string (bs r.id), .string (bs code), .string (bs r.is), .string (bs r.aq), .int .i64 amount, .string (bs r.cu), .int .i64 0, .int .i64 date, .int .i64 0] 43))], [(db, (Obj.cells #[.slice rp R.length rcap, .slice (some ⟨fb, 0, none⟩) (F ++ [(⟨⟨⟨id, r.id, code, r.is, r.aq, amount, r.cu, 0, date, 0⟩, [], 0⟩, .slice none 0 0, []⟩ : Fo)]).length fcap2, .map (some pr)] 65))], [(pr, .map es2 cl2)], [(fb, .cells cur 68)], RX, cat (F.map Fo.sb)]) (List.perm_append_comm (l₁ := [_, _, _, _, _, _]) (l₂ := [X])))).symm sE1
  have ldb : Vm.look E1 db = some (Obj.cells #[.slice rp R.length rcap, .slice (some ⟨fb, 0, none⟩) (F ++ [(⟨⟨⟨id, r.id, code, r.is, r.aq, amount, r.cu, 0, date, 0⟩, [], 0⟩, .slice none 0 0, []⟩ : Fo)]).length fcap2, .map (some pr)] 65) := by
    rw [← hEq]
    exact Sep.sub spF [(db, (Obj.cells #[.slice rp R.length rcap, .slice (some ⟨fb, 0, none⟩) (F ++ [(⟨⟨⟨id, r.id, code, r.is, r.aq, amount, r.cu, 0, date, 0⟩, [], 0⟩, .slice none 0 0, []⟩ : Fo)]).length fcap2, .map (some pr)] 65))] (by simp) _ _ (by simp [Vm.look])
  refine MeantA.at (A := E1 ++ X) (SubA.both (SubA.trans sE1 ?_) ?_) ?_
  · exact Sep.subs sp5 [0, 1, 2, 3, 4, 5] rfl
  · exact Sep.subs sp5 [6] rfl
  have ldb2 := SubA.left E1 X _ _ ldb
  clear nuE fr fr3
  refine MeantA.tree [] (.one 0 0 (.one 1 0 (.one 2 0 (.one 3 0 (.one 4 0 (.one 5 0 (.one 6 0 (.one 7 0 (.one 8 0 (.one 9 0 (.one 10 0 (.one 11 0 (.one 12 0 (.one 13 1 .nil)))))))))))))) [(db, (Obj.cells #[.slice rp R.length rcap, .slice (some ⟨fb, 0, none⟩) (F ++ [(⟨⟨⟨id, r.id, code, r.is, r.aq, amount, r.cu, 0, date, 0⟩, [], 0⟩, .slice none 0 0, []⟩ : Fo)]).length fcap2, .map (some pr)] 65))] (SubA.cons ldb2 (SubA.nil _)) (by kernel_rfl) (by kernel_rfl) (by kernel_rfl) (by kernel_rfl) (by kernel_rfl) ?_
  intro ν fr
  have nuE := fr.nu
  have wl : (F ++ [(⟨⟨⟨id, r.id, code, r.is, r.aq, amount, r.cu, 0, date, 0⟩, [], 0⟩, .slice none 0 0, []⟩ : Fo)]).length = F.length + 1 := by simp
  have wl2 : IntKind.i64.wrap (((F ++ [(⟨⟨⟨id, r.id, code, r.is, r.aq, amount, r.cu, 0, date, 0⟩, [], 0⟩, .slice none 0 0, []⟩ : Fo)]).length : Int) - 1) = (F.length : Int) := by rw [wl, w_i64 (by omega) (by omega)]; omega
  have li : ((F.length : Int) < 0) = False := eq_false (by omega)
  have li2 : ((F.length : Int) < ((F ++ [(⟨⟨⟨id, r.id, code, r.is, r.aq, amount, r.cu, 0, date, 0⟩, [], 0⟩, .slice none 0 0, []⟩ : Fo)]).length : Int)) = True := eq_true (by omega)
  simp (maxDischargeDepth := 16) only [argE_nil, argE_cons, ↓vmD, vmV, vmStd, Nat.reduceMul, ↓reduceIte, Nat.reduceAdd, Nat.reduceSub, Nat.reduceEqDiff, Nat.reduceLT, Nat.reduceLeDiff, reduceCtorEq, Int.reduceToNat, Int.reduceLT, Int.reduceLE, Int.reduceEq, Int.reduceNeg, Int.reduceBEq, Int.reduceBNe, String.reduceEq, forall_const, ↓vmDA, vmVA, ↓vmQA, vmR, vmRA, ↓vmSA, vmSV, tyS, nuE, SubA.skip, SubA.refl, fr.2, vbDsp, tA_nil, tA_one, wl2, li, li2]
  obtain ⟨fb', fcap', cur', e, lfb, hcs, hcc, hcall⟩ := hE1.enter (i := F.length) (f := (⟨⟨⟨id, r.id, code, r.is, r.aq, amount, r.cu, 0, date, 0⟩, [], 0⟩, .slice none 0 0, []⟩ : Fo)) (by simp) (by simp)
  cases e
  refine CallA.stX ((hcall 1 date).mono fun v D ⟨E', h, hs, _⟩ => ⟨E', h, hs⟩) (SubA.left E1 X) dEX.right dEX ?_
  rintro v E2 ⟨rfl, ⟨sv, B, hE2⟩, hl2⟩ d2
  have ldb3 : Vm.look (E2 ++ X) db = some (Obj.cells #[.slice rp R.length rcap, .slice (some ⟨fb, 0, none⟩) (F ++ [(⟨⟨⟨id, r.id, code, r.is, r.aq, amount, r.cu, 0, date, 0⟩, [], 0⟩, .slice none 0 0, []⟩ : Fo)]).length fcap2, .map (some pr)] 65) := SubA.left E2 X _ _ (hl2.trans ldb)
  intro ν fr; have nuE := fr.nu
  simp (maxDischargeDepth := 16) only [argE_nil, argE_cons, ↓vmD, vmV, vmStd, Nat.reduceMul, ↓reduceIte, Nat.reduceAdd, Nat.reduceSub, Nat.reduceEqDiff, Nat.reduceLT, Nat.reduceLeDiff, reduceCtorEq, Int.reduceToNat, Int.reduceLT, Int.reduceLE, Int.reduceEq, Int.reduceNeg, Int.reduceBEq, Int.reduceBNe, String.reduceEq, forall_const, ↓vmDA, vmVA, ↓vmQA, vmR, vmRA, ↓vmSA, vmSV, tyS, nuE, SubA.skip, SubA.refl, fr.2, vbDsp, ldb3]
  have ho : openE (R.map Rs.d) (F.map Fo.d) id r code amount date L = 0 := hx.trans e4
  have hox : openX (R.map Rs.d) (F.map Fo.d) id r code amount date L = (0, F.map Fo.d ++ [openF (R.map Rs.d) id r code amount date]) := by unfold openX; rw [if_neg (by rw [ho]; simp)]
  refine ⟨by rw [hox], E2, _, _, hE2, ?_, d2, SubA.refl _⟩
  rw [hox, List.map_set, List.map_append]
  simp only [List.map_cons, List.map_nil]
  rw [List.set_append_right _ _ (by simp)]
  simp [openF]

end Go.Proofs.YtiholbpchhifiaaGreatDoor
