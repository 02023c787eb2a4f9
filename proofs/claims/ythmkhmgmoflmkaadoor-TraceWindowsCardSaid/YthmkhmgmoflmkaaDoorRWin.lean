/-
Trace: the reference's window: Seen.
Conditions: none.
-/
import Derived.Test.YthmkhmgmoflmkaaDoorRefs
import Derived.Test.YthmkhmgmoflmkaaDoorVmAO
namespace Go.Proofs.YthmkhmgmoflmkaaDoor
open Go.Vm
set_option linter.unusedSimpArgs false
set_option linter.unusedVariables false
set_option maxHeartbeats 2000000
set_option maxRecDepth 20000
def enC (x : En) : List Value := [.string x.key, .string x.val, .int .i64 x.tm]
theorem en_len (x : En) : (enC x).length = 3 := rfl
theorem en_agg (x : En) : Value.agg (enC x).toArray = .agg #[.string x.key, .string x.val, .int .i64 x.tm] := rfl
theorem sc_en (a b c : Value) : sliceCells Tryd.prog 73 1 [(0, .agg #[a, b, c])] = some (78, #[a, b, c]) := by kernel_rfl
/-- The reference's window lies here. -/
def RWin (E : AH) (rb : Nat) (H : Int) (L : List En) : Prop := ∃ (p : Option Addr) (cap : Nat) (Br : AH), E = (rb, .cells #[.int .i64 H, .slice p L.length cap] 75) :: Br ∧ StR enC 3 Br p L ∧ Vm.look Br rb = none ∧ (keysL L).Nodup ∧ L.length ≤ 256
theorem rremb_h (A : AH) (rb : Nat) (H t at_ : Int) (v : Value) (e : TypeId) (fr0 : Nat × Nat) (hw : Vm.look A rb = some (.cells #[.int .i64 H, v] e fr0)) : CallA Tryd.prog 33 #[.pointer (some ⟨rb, 0, none⟩), .int .i64 t, .int .i64 at_] A (fun u_ A_ => u_ = .bool (remB H t at_) ∧ SubA A A_) := by
  refine callA_of_denA ⟨Tryd.prog, 33, Tryd.f33, 21, [0, 1, 2, 6], [], [], _⟩ (args := [_, _, _]) Tryd.func33 rfl (by kernel_rfl) Tryd.ntmps33 (by simp) (by kernel_rfl) ?_
  intro ν fr; have nuE := fr.nu
  by_cases h : at_ ≤ t
  · simp (maxDischargeDepth := 16) only [argE_nil, argE_cons, ↓vmD, vmV, vmStd, Nat.reduceMul, ↓reduceIte, Nat.reduceAdd, Nat.reduceSub, Nat.reduceEqDiff, Nat.reduceLT, Nat.reduceLeDiff, reduceCtorEq, Int.reduceToNat, Int.reduceLT, Int.reduceLE, Int.reduceEq, Int.reduceNeg, Int.reduceBEq, Int.reduceBNe, String.reduceEq, forall_const, ↓vmDA, vmVA, ↓vmQA, vmR, vmRA, ↓vmSA, vmSV, tyS, nuE, SubA.skip, SubA.refl, fr.2, digits03_v, isDate03_v, rreference_v, valueOf_v, rvalue_v, split_v, rsplit_v, h, remB]
  · simp (maxDischargeDepth := 16) only [argE_nil, argE_cons, ↓vmD, vmV, vmStd, Nat.reduceMul, ↓reduceIte, Nat.reduceAdd, Nat.reduceSub, Nat.reduceEqDiff, Nat.reduceLT, Nat.reduceLeDiff, reduceCtorEq, Int.reduceToNat, Int.reduceLT, Int.reduceLE, Int.reduceEq, Int.reduceNeg, Int.reduceBEq, Int.reduceBNe, String.reduceEq, forall_const, ↓vmDA, vmVA, ↓vmQA, vmR, vmRA, ↓vmSA, vmSV, tyS, nuE, SubA.skip, SubA.refl, fr.2, digits03_v, isDate03_v, rreference_v, valueOf_v, rvalue_v, split_v, rsplit_v, h, hw, remB]
theorem rremb_w (A : AH) (rb : Nat) (H t at_ : Int) (v : Value) (e : TypeId) (fr0 : Nat × Nat) (hw : Vm.look A rb = some (.cells #[.int .i64 H, v] e fr0)) (B_ : AH) (hB_ : SubA A B_) : valA Tryd.prog 33 #[.pointer (some ⟨rb, 0, none⟩), .int .i64 t, .int .i64 at_] B_ = some (.bool (remB H t at_)) := valA_eq (pureA_at (by kernel_rfl) (rremb_h A rb H t at_ v e fr0 hw) hB_)
theorem rremb_v (A : AH) (rb : Nat) (H t at_ : Int) (v : Value) (e : TypeId) (fr0 : Nat × Nat) (hw : Vm.look A rb = some (.cells #[.int .i64 H, v] e fr0)) : valA Tryd.prog 33 #[.pointer (some ⟨rb, 0, none⟩), .int .i64 t, .int .i64 at_] A = some (.bool (remB H t at_)) := valA_eq (pureA_at (by kernel_rfl) (rremb_h A rb H t at_ v e fr0 hw) (SubA.refl _))
theorem rem_filter {key : ByteArray} : ∀ {L : List En}, (keysL L).Nodup → remL key L = L.filter (fun x => decide (x.key ≠ key))
  | [], _ => rfl
  | x :: L, h => by
    simp only [keysL, List.map_cons, List.nodup_cons] at h
    by_cases hx : x.key = key
    · have h0 : remL key (x :: L) = L := by simp [remL, keysL, posS, hx]
      have h1 : L.filter (fun x => decide (x.key ≠ key)) = L := by
        rw [List.filter_eq_self]
        intro y hy
        simp only [decide_eq_true_eq]
        intro e
        exact h.1 (by rw [hx, ← e]; exact List.mem_map.2 ⟨y, hy, rfl⟩)
      rw [h0, List.filter_cons_of_neg (by simp [hx]), h1]
    · have ih := rem_filter (key := key) (L := L) h.2
      rw [List.filter_cons_of_pos (by simp [hx]), ← ih]
      unfold remL
      simp only [keysL, List.map_cons, posS]
      rw [if_neg hx]
      cases posS key (L.map (·.key)) <;> simp
theorem get_at {key : ByteArray} : ∀ {L : List En} {e : Nat} {x : En}, (keysL L).Nodup → L[e]? = some x → x.key = key → getE key L = some x
  | [], _, _, _, h, _ => by simp at h
  | y :: L, 0, x, _, h, hk => by
    simp at h; subst h
    simp [getE, keysL, posS, hk]
  | y :: L, e + 1, x, hn, h, hk => by
    simp only [keysL, List.map_cons, List.nodup_cons] at hn
    have h' : L[e]? = some x := by simpa using h
    have ih := get_at hn.2 h' hk
    have hy : y.key ≠ key := fun e2 => hn.1 (by rw [e2, ← hk]; exact List.mem_map.2 ⟨x, List.mem_of_getElem? h', rfl⟩)
    unfold getE at ih ⊢
    simp only [keysL, List.map_cons, posS] at ih ⊢
    rw [if_neg hy]
    cases hp : posS key (L.map (·.key)) with
    | none => rw [hp] at ih; cases ih
    | some i => rw [hp] at ih; simpa using ih
theorem get_mem {key : ByteArray} {L : List En} {x : En} (h : getE key L = some x) : x ∈ L ∧ x.key = key := by
  unfold getE at h
  split at h
  · rename_i i hp
    have hk := posS_lt hp
    refine ⟨List.mem_of_getElem? h, ?_⟩
    simp only [keysL, List.getElem?_map, h, Option.map_some, Option.some.injEq] at hk
    exact hk
  · cases h
theorem rseenW_h (E : AH) (rb : Nat) (H : Int) (L : List En) (hE : RWin E rb H L) (at_ : Int) (key val : ByteArray) : CallA Tryd.prog 16 #[.pointer (some ⟨rb, 0, none⟩), .int .i64 at_, .string key, .string val] E (fun u_ A_ => u_ = seenV H key at_ L ∧ ∃ E', RWin E' rb H (seenL H key val at_ L) ∧ SubA E' A_ ∧ ∀ b, Vm.look E b ≠ none → Vm.look A_ b ≠ none) := by
  refine callA_of_denA ⟨Tryd.prog, 16, Tryd.f16, 61, [0, 1, 2, 3, 8, 9, 10, 11, 12], [], [], _⟩ (args := [_, _, _, _]) Tryd.func16 rfl (by kernel_rfl) Tryd.ntmps16 (by simp) (by kernel_rfl) ?_
  intro ν fr; have nuE := fr.nu
  have hE0 := hE
  obtain ⟨p, cap, Br, rfl, hS, hr0, hnd, hl⟩ := hE
  simp (maxDischargeDepth := 16) only [argE_nil, argE_cons, ↓vmD, vmV, vmStd, Nat.reduceMul, ↓reduceIte, Nat.reduceAdd, Nat.reduceSub, Nat.reduceEqDiff, Nat.reduceLT, Nat.reduceLeDiff, reduceCtorEq, Int.reduceToNat, Int.reduceLT, Int.reduceLE, Int.reduceEq, Int.reduceNeg, Int.reduceBEq, Int.reduceBNe, String.reduceEq, forall_const, ↓vmDA, vmVA, ↓vmQA, vmR, vmRA, ↓vmSA, vmSV, tyS, nuE, digits03_v, isDate03_v, rreference_v, valueOf_v, rvalue_v, split_v, rsplit_v]
  obtain ⟨e, l, vl, C, acc, he, hv, hC, h3, hacc, ho, hdC, hno⟩ : ∃ (e : Nat) (l : List En) (vl : Value) (C : AH) (acc : List En), e = 0 ∧ vl = .slice none 0 0 ∧ C = [] ∧ l = L.drop e ∧ acc = (L.take e).filter (fun x => decide (x.key ≠ key)) ∧ OwnL enC 3 78 vl C acc ∧ Dis C ((rb, .cells #[.int .i64 H, .slice p L.length cap] 75) :: Br) ∧ (∀ x ∈ L.take e, x.key = key → remB H x.tm at_ = false) := ⟨0, L, _, [], [], rfl, rfl, rfl, by simp, by simp, OwnL.nil _ _ _, Dis.nil _, by simp⟩
  rw [show (11, some (Value.int .i64 0)) = (11, some (Value.int .i64 (e : Int))) by rw [he]; rfl]
  rw [show (10, some (Value.slice none 0 0)) = (10, some vl) by rw [hv]]
  refine LoopA.at (A := C ++ ((rb, .cells #[.int .i64 H, .slice p L.length cap] 75) :: Br)) (by rw [hC]; exact SubA.refl _) ?_
  clear he hv hC nuE fr
  have hLlen := keysL_len L
  induction l generalizing e vl C acc with
  | nil =>
    have hle := drop_nil h3
    have hlt : ((e : Int) < (L.length : Int)) = False := by simp; omega
    have htk : L.take e = L := List.take_of_length_le hle
    rw [htk] at hacc hno
    rw [← rem_filter hnd] at hacc
    have hk : keptE H at_ (getE key L) = none := by
      cases hg : getE key L with
      | none => rfl
      | some x =>
        obtain ⟨m1, m2⟩ := get_mem hg
        simp [keptE, hno x m1 m2]
    have e1 : seenV H key at_ L = .tuple #[.string ⟨#[]⟩, .bool false] := by unfold seenV; rw [hk]
    have e2 : seenL H key val at_ L = trimL acc ++ [⟨key, val, at_⟩] := by unfold seenL; rw [hk, hacc]
    have hal : acc.length ≤ 256 := by rw [hacc]; exact Nat.le_trans (rem_len _ _) hl
    have hnk : key ∉ keysL (trimL acc) := by rw [hacc]; exact trim_not (rem_not hnd)
    have hnd2 : (keysL (trimL acc ++ [⟨key, val, at_⟩])).Nodup := by
      simp only [keysL, List.map_append, List.map_cons, List.map_nil]
      rw [List.nodup_append]
      refine ⟨by rw [hacc]; exact trim_nodup (rem_nodup hnd), by simp, fun x hx y hy => ?_⟩
      simp only [List.mem_singleton] at hy
      subst hy
      exact fun e => hnk (e ▸ hx)
    have hl2 : (trimL acc ++ [(⟨key, val, at_⟩ : En)]).length ≤ 256 := by
      have := trim_len hal
      simp
      rcases this with h | h
      · omega
      · exact h.elim
    have sW : SubA ((rb, Obj.cells #[.int .i64 H, .slice p L.length cap] 75) :: Br) (C ++ ((rb, .cells #[.int .i64 H, .slice p L.length cap] 75) :: Br)) := hdC.right
    have hrbC : Vm.look C rb = none := hdC rb (by simp [Vm.look])
    obtain ⟨pv, cv, rfl, hcv⟩ := OwnL.slice ho
    refine LoopA.intro (by kernel_rfl) ?_
    intro ν fr; have nuE := fr.nu
    have lrb : Vm.look (C ++ ((rb, .cells #[.int .i64 H, .slice p L.length cap] 75) :: Br)) rb = some (.cells #[.int .i64 H, .slice p L.length cap] 75) := sW rb _ (by simp [Vm.look])
    have nrb := fr.ne (b := rb) (by rw [lrb]; simp)
    by_cases hb : 256 ≤ acc.length
    · have c1 : ((256 : Int) ≤ (acc.length : Int)) = True := eq_true (by omega)
      have htr : trimL acc = acc.tail := by unfold trimL; rw [if_pos hb]
      have hne : acc ≠ [] := by intro h; rw [h] at hb; simp at hb
      obtain ⟨g, cap2, cur, hv, rfl, q1, q2, q3, q4⟩ := OwnL.blk ho hne
      cases hv
      have c2 : ((1 : Int) ≤ (acc.length : Int)) = True := eq_true (by omega)
      have c3 : ((acc.length : Int) ≤ (cv : Int)) = True := eq_true (by omega)
      have c4 : (cv = 1) = False := eq_false (by omega)
      have grb := look_ne (show Vm.look [(g, Obj.cells cur 78)] rb = none from hrbC) (show Vm.look [(g, Obj.cells cur 78)] g = some (Obj.cells cur 78) by simp [Vm.look])
      have ng := fr.ne (b := g) (by simp [Vm.look])
      simp (maxDischargeDepth := 16) only [argE_nil, argE_cons, ↓vmD, vmV, vmStd, Nat.reduceMul, ↓reduceIte, Nat.reduceAdd, Nat.reduceSub, Nat.reduceEqDiff, Nat.reduceLT, Nat.reduceLeDiff, reduceCtorEq, Int.reduceToNat, Int.reduceLT, Int.reduceLE, Int.reduceEq, Int.reduceNeg, Int.reduceBEq, Int.reduceBNe, String.reduceEq, forall_const, ↓vmDA, vmVA, ↓vmQA, vmR, vmRA, ↓vmSA, vmSV, tyS, nuE, digits03_v, isDate03_v, rreference_v, valueOf_v, rvalue_v, split_v, rsplit_v, hlt, lrb, c1, c2, c3, c4, sc_en, nrb, grb, ng]
      have sC : SubA [(g, Obj.cells cur 78)] ((ν 0, .cells #[.string key, .string val, .int .i64 at_] 78) :: ([(g, Obj.cells cur 78)] ++ ((rb, .cells #[.int .i64 H, .slice p L.length cap] 75) :: Br))) := SubA.skip ((SubA.left _ _).none (fr.2 0)) (SubA.left _ _)
      have sW3 : SubA ((rb, .cells #[.int .i64 H, .slice p L.length cap] 75) :: Br) ((ν 0, .cells #[.string key, .string val, .int .i64 at_] 78) :: ([(g, Obj.cells cur 78)] ++ ((rb, .cells #[.int .i64 H, .slice p L.length cap] 75) :: Br))) := SubA.skip (sW.none (fr.2 0)) sW
      have hal2 : acc.length = 256 := by omega
      have hrow : rdCS (some (.cells cur 78)) 0 (acc.length * 3) = some (acc.flatMap enC).toArray := by
        rw [rdCS_cells, if_pos (by omega)]
        congr 1
        apply Array.ext'
        simp only [Array.toList_extract, List.extract_eq_take_drop, List.drop_zero, Nat.zero_add, Nat.sub_zero]
        exact q4
      have hrow2 := rdCS_sub (k := 3) (n := (acc.length - 1) * 3) hrow (by omega)
      have htl : (acc.flatMap enC).drop 3 = acc.tail.flatMap enC := by
        cases acc with
        | nil => rfl
        | cons y l => simp [enC]
      rw [htl, List.take_of_length_le (by rw [flat_len enC 3 en_len]; simp)] at hrow2
      refine RunA.use (append_off (m := 1) (news := [.string key, .string val, .int .i64 at_]) (xs := acc.tail.flatMap enC) slc73 zro78 rfl (by decide) (by simp (maxDischargeDepth := 16) only [argE_nil, argE_cons, ↓vmD, vmV, vmStd, Nat.reduceMul, ↓reduceIte, Nat.reduceAdd, Nat.reduceSub, Nat.reduceEqDiff, Nat.reduceLT, Nat.reduceLeDiff, reduceCtorEq, Int.reduceToNat, Int.reduceLT, Int.reduceLE, Int.reduceEq, Int.reduceNeg, Int.reduceBEq, Int.reduceBNe, String.reduceEq, forall_const, ↓vmDA, vmVA, ↓vmQA, vmR, vmRA, ↓vmSA, vmSV, tyS, nuE, digits03_v, isDate03_v, rreference_v, valueOf_v, rvalue_v, split_v, rsplit_v, ng]) (by omega) hrow2 (by simp (maxDischargeDepth := 16) only [argE_nil, argE_cons, ↓vmD, vmV, vmStd, Nat.reduceMul, ↓reduceIte, Nat.reduceAdd, Nat.reduceSub, Nat.reduceEqDiff, Nat.reduceLT, Nat.reduceLeDiff, reduceCtorEq, Int.reduceToNat, Int.reduceLT, Int.reduceLE, Int.reduceEq, Int.reduceNeg, Int.reduceBEq, Int.reduceBNe, String.reduceEq, forall_const, ↓vmDA, vmVA, ↓vmQA, vmR, vmRA, ↓vmSA, vmSV, tyS, nuE, digits03_v, isDate03_v, rreference_v, valueOf_v, rvalue_v, split_v, rsplit_v]) (by simp [Value.oneCell']) (by decide) (by simp [maxLen]; omega) (by omega) ?_)
      intro g' off' cap' cs' hcs hg'
      have hn1 : acc.length - 1 + 1 = (trimL acc ++ [(⟨key, val, at_⟩ : En)]).length := by rw [htr]; simp
      rw [hn1] at hcs ⊢
      have hS' : StR enC 3 [(g', Obj.cells cs' 78)] (some ⟨g', off', none⟩) (trimL acc ++ [⟨key, val, at_⟩]) := StR.of_row en_len (by simp only [Vm.look, if_true]; rw [hcs, htr]; simp [enC])
      have hgr : ¬ g' = rb := by
        rintro rfl
        rcases hg' with h | h
        · simp [h] at grb
        · have := sW3 g' _ (show Vm.look ((g', Obj.cells #[.int .i64 H, .slice p L.length cap] 75) :: Br) g' = some _ by simp [Vm.look]; rfl)
          simp only [List.cons_append, List.nil_append] at this
          rw [h] at this; cases this
      have dC' : Dis [(g', Obj.cells cs' 78)] [(rb, .cells #[.int .i64 H, .slice p L.length cap] 75)] := fun x hx => by
        simp only [Vm.look] at hx ⊢
        split
        · rename_i e9; subst e9; rw [if_neg (fun h => hgr h.symm)] at hx; exact absurd rfl hx
        · rfl
      refine ⟨[(rb, .cells #[.int .i64 H, .slice p L.length cap] 75)] ++ ([(g', Obj.cells cs' 78)] ++ Br), SubA.both (X := [_]) (dC'.sub (SubA.trans (SubA.left [(rb, .cells #[.int .i64 H, .slice p L.length cap] 75)] Br) sW3)) (SubA.app (SubA.trans (SubA.skip hr0 (SubA.refl _)) sW3)), ?_⟩
      intro ν' fr'
      have fr := fr'
      have nuE := fr.nu
      simp only [List.cons_append, List.nil_append] at fr ⊢
      simp (maxDischargeDepth := 16) only [argE_nil, argE_cons, ↓vmD, vmV, vmStd, Nat.reduceMul, ↓reduceIte, Nat.reduceAdd, Nat.reduceSub, Nat.reduceEqDiff, Nat.reduceLT, Nat.reduceLeDiff, reduceCtorEq, Int.reduceToNat, Int.reduceLT, Int.reduceLE, Int.reduceEq, Int.reduceNeg, Int.reduceBEq, Int.reduceBNe, String.reduceEq, forall_const, ↓vmDA, vmVA, ↓vmQA, vmR, vmRA, ↓vmSA, vmSV, tyS, nuE, digits03_v, isDate03_v, rreference_v, valueOf_v, rvalue_v, split_v, rsplit_v]
      rw [e1, e2]
      refine ⟨rfl, (rb, .cells #[.int .i64 H, .slice (some ⟨g', off', none⟩) (trimL acc ++ [(⟨key, val, at_⟩ : En)]).length cap'] 75) :: [(g', Obj.cells cs' 78)], ⟨some ⟨g', off', none⟩, cap', [(g', Obj.cells cs' 78)], rfl, hS', dC' rb (by simp [Vm.look]), hnd2, hl2⟩, ?_, fun b2 hb2 => ?_⟩
      · exact SubA.both (X := [_]) (SubE.sub ⟨by simp (maxDischargeDepth := 16) only [argE_nil, argE_cons, ↓vmD, vmV, vmStd, Nat.reduceMul, ↓reduceIte, Nat.reduceAdd, Nat.reduceSub, Nat.reduceEqDiff, Nat.reduceLT, Nat.reduceLeDiff, reduceCtorEq, Int.reduceToNat, Int.reduceLT, Int.reduceLE, Int.reduceEq, Int.reduceNeg, Int.reduceBEq, Int.reduceBNe, String.reduceEq, forall_const, ↓vmDA, vmVA, ↓vmQA, vmR, vmRA, ↓vmSA, vmSV, tyS, nuE, digits03_v, isDate03_v, rreference_v, valueOf_v, rvalue_v, split_v, rsplit_v], trivial⟩) (SubA.trans (SubA.left [(g', Obj.cells cs' 78)] Br) (SubA.skip (by rw [look_append, dC' rb (by simp [Vm.look])]; exact hr0) (SubA.refl _)))
      · by_cases e9 : rb = b2
        · rw [if_pos e9]; simp
        · rw [if_neg e9] at hb2 ⊢
          split
          · simp
          · exact hb2
    · have c1 : ((256 : Int) ≤ (acc.length : Int)) = False := eq_false (by omega)
      have htr : trimL acc = acc := by unfold trimL; rw [if_neg hb]
      simp (maxDischargeDepth := 16) only [argE_nil, argE_cons, ↓vmD, vmV, vmStd, Nat.reduceMul, ↓reduceIte, Nat.reduceAdd, Nat.reduceSub, Nat.reduceEqDiff, Nat.reduceLT, Nat.reduceLeDiff, reduceCtorEq, Int.reduceToNat, Int.reduceLT, Int.reduceLE, Int.reduceEq, Int.reduceNeg, Int.reduceBEq, Int.reduceBNe, String.reduceEq, forall_const, ↓vmDA, vmVA, ↓vmQA, vmR, vmRA, ↓vmSA, vmSV, tyS, nuE, digits03_v, isDate03_v, rreference_v, valueOf_v, rvalue_v, split_v, rsplit_v, hlt, lrb, c1, sc_en, nrb]
      have sC : SubA C ((ν 0, .cells #[.string key, .string val, .int .i64 at_] 78) :: (C ++ ((rb, .cells #[.int .i64 H, .slice p L.length cap] 75) :: Br))) := SubA.skip ((SubA.left C _).none (fr.2 0)) (SubA.left _ _)
      have sW3 : SubA ((rb, .cells #[.int .i64 H, .slice p L.length cap] 75) :: Br) ((ν 0, .cells #[.string key, .string val, .int .i64 at_] 78) :: (C ++ ((rb, .cells #[.int .i64 H, .slice p L.length cap] 75) :: Br))) := SubA.skip (sW.none (fr.2 0)) sW
      refine RunA.use (append_src (m := 1) (news := [.string key, .string val, .int .i64 at_]) slc73 zro78 rfl (by decide) ho sC (.inr ⟨_, 0, rfl, by simp (maxDischargeDepth := 16) only [argE_nil, argE_cons, ↓vmD, vmV, vmStd, Nat.reduceMul, ↓reduceIte, Nat.reduceAdd, Nat.reduceSub, Nat.reduceEqDiff, Nat.reduceLT, Nat.reduceLeDiff, reduceCtorEq, Int.reduceToNat, Int.reduceLT, Int.reduceLE, Int.reduceEq, Int.reduceNeg, Int.reduceBEq, Int.reduceBNe, String.reduceEq, forall_const, ↓vmDA, vmVA, ↓vmQA, vmR, vmRA, ↓vmSA, vmSV, tyS, nuE, digits03_v, isDate03_v, rreference_v, valueOf_v, rvalue_v, split_v, rsplit_v]⟩) (by simp [Value.oneCell']) (by simp [maxLen]; omega) (by omega) ?_)
      intro v' C' ho' hb'
      have dC' : Dis C' [(rb, .cells #[.int .i64 H, .slice p L.length cap] 75)] := ap_dis hb' (fun x hx => hdC x (dom_win (SubA.left _ Br) x hx)) (SubA.trans (SubA.left [(rb, .cells #[.int .i64 H, .slice p L.length cap] 75)] Br) sW3)
      have hoL : OwnL enC 3 78 v' C' (trimL acc ++ [(⟨key, val, at_⟩ : En)]) := by rw [htr]; simpa [OwnL, enC] using ho'
      obtain ⟨p', cap', rfl, _, hS'⟩ := OwnL.read en_len hoL
      refine ⟨[(rb, .cells #[.int .i64 H, .slice p L.length cap] 75)] ++ (C' ++ Br), SubA.both (X := [_]) (dC'.sub (SubA.trans (SubA.left [(rb, .cells #[.int .i64 H, .slice p L.length cap] 75)] Br) sW3)) (SubA.app (SubA.trans (SubA.skip hr0 (SubA.refl _)) sW3)), ?_⟩
      intro ν' fr'
      have fr := fr'
      have nuE := fr.nu
      simp only [List.cons_append, List.nil_append] at fr ⊢
      simp (maxDischargeDepth := 16) only [argE_nil, argE_cons, ↓vmD, vmV, vmStd, Nat.reduceMul, ↓reduceIte, Nat.reduceAdd, Nat.reduceSub, Nat.reduceEqDiff, Nat.reduceLT, Nat.reduceLeDiff, reduceCtorEq, Int.reduceToNat, Int.reduceLT, Int.reduceLE, Int.reduceEq, Int.reduceNeg, Int.reduceBEq, Int.reduceBNe, String.reduceEq, forall_const, ↓vmDA, vmVA, ↓vmQA, vmR, vmRA, ↓vmSA, vmSV, tyS, nuE, digits03_v, isDate03_v, rreference_v, valueOf_v, rvalue_v, split_v, rsplit_v]
      rw [e1, e2]
      refine ⟨rfl, (rb, .cells #[.int .i64 H, .slice p' (trimL acc ++ [(⟨key, val, at_⟩ : En)]).length cap'] 75) :: C', ⟨p', cap', C', rfl, hS', dC' rb (by simp [Vm.look]), hnd2, hl2⟩, ?_, fun b2 hb2 => ?_⟩
      · exact SubA.both (X := [_]) (SubE.sub ⟨by simp (maxDischargeDepth := 16) only [argE_nil, argE_cons, ↓vmD, vmV, vmStd, Nat.reduceMul, ↓reduceIte, Nat.reduceAdd, Nat.reduceSub, Nat.reduceEqDiff, Nat.reduceLT, Nat.reduceLeDiff, reduceCtorEq, Int.reduceToNat, Int.reduceLT, Int.reduceLE, Int.reduceEq, Int.reduceNeg, Int.reduceBEq, Int.reduceBNe, String.reduceEq, forall_const, ↓vmDA, vmVA, ↓vmQA, vmR, vmRA, ↓vmSA, vmSV, tyS, nuE, digits03_v, isDate03_v, rreference_v, valueOf_v, rvalue_v, split_v, rsplit_v], trivial⟩) (SubA.trans (SubA.left C' Br) (SubA.skip (by rw [look_append, dC' rb (by simp [Vm.look])]; exact hr0) (SubA.refl _)))
      · by_cases e9 : rb = b2
        · rw [if_pos e9]; simp
        · rw [if_neg e9] at hb2 ⊢
          rw [look_append]
          split
          · simp
          · exact hb2
  | cons x l ih =>
    obtain ⟨ha, hl2, h3'⟩ := drop_some h3
    have hlt : ((e : Int) < (L.length : Int)) = True := by simp; omega
    have we : IntKind.i64.wrap ((e : Int) + 1) = ((e + 1 : Nat) : Int) := by rw [w_i64 (by omega) (by omega)]; omega
    obtain ⟨b, off, cs, ty, fr0, hp0, hbk, hc, hcc⟩ := hS.at ha
    subst hp0
    have sW : SubA ((rb, Obj.cells #[.int .i64 H, .slice (some ⟨b, off, none⟩) L.length cap] 75) :: Br) (C ++ ((rb, .cells #[.int .i64 H, .slice (some ⟨b, off, none⟩) L.length cap] 75) :: Br)) := hdC.right
    have lrb : Vm.look (C ++ ((rb, .cells #[.int .i64 H, .slice (some ⟨b, off, none⟩) L.length cap] 75) :: Br)) rb = some (.cells #[.int .i64 H, .slice (some ⟨b, off, none⟩) L.length cap] 75) := sW rb _ (by simp [Vm.look])
    have lb : Vm.look (C ++ ((rb, .cells #[.int .i64 H, .slice (some ⟨b, off, none⟩) L.length cap] 75) :: Br)) b = some (.cells cs ty fr0) := sW b _ (SubA.skip hr0 (SubA.refl _) b _ hbk)
    have htk : L.take (e + 1) = L.take e ++ [x] := by rw [List.take_add_one, ha]; rfl
    have hac : acc.length ≤ e := by rw [hacc]; exact Nat.le_trans (List.length_filter_le _ _) (by simp; omega)
    refine LoopA.intro (by kernel_rfl) ?_
    intro ν fr; have nuE := fr.nu
    have nrb := fr.ne (b := rb) (by rw [lrb]; simp)
    have nb := fr.ne (b := b) (by rw [lb]; simp)
    by_cases hk : x.key = key
    · have hk2 : (x.key.toList == key.toList) = true := by rw [hk]; simp
      have rm := rremb_w _ rb H x.tm at_ _ _ _ lrb
      cases hr : remB H x.tm at_ with
      | true =>
        have hke : keptE H at_ (getE key L) = some x := by rw [get_at hnd ha hk]; simp [keptE, hr]
        have e1 : seenV H key at_ L = .tuple #[.string x.val, .bool true] := by unfold seenV; rw [hke]
        have e2 : seenL H key val at_ L = L := by unfold seenL; rw [hke]
        simp (maxDischargeDepth := 16) only [argE_nil, argE_cons, ↓vmD, vmV, vmStd, Nat.reduceMul, ↓reduceIte, Nat.reduceAdd, Nat.reduceSub, Nat.reduceEqDiff, Nat.reduceLT, Nat.reduceLeDiff, reduceCtorEq, Int.reduceToNat, Int.reduceLT, Int.reduceLE, Int.reduceEq, Int.reduceNeg, Int.reduceBEq, Int.reduceBNe, String.reduceEq, forall_const, ↓vmDA, vmVA, ↓vmQA, vmR, vmRA, ↓vmSA, vmSV, tyS, nuE, SubA.skip, SubA.refl, fr.2, digits03_v, isDate03_v, rreference_v, valueOf_v, rvalue_v, split_v, rsplit_v, hlt, lrb, lb, nrb, nb, hc, en_agg, hk2, rm, hr]
        rw [e1, e2]
        refine ⟨rfl, _, hE0, SubA.skip (sW.none (fr.2 0)) sW, fun b2 hb2 => ?_⟩
        have hd := dom_win sW b2 (by simp only [Vm.look]; exact hb2)
        split
        · simp
        · exact hd
      | false =>
        simp (maxDischargeDepth := 16) only [argE_nil, argE_cons, ↓vmD, vmV, vmStd, Nat.reduceMul, ↓reduceIte, Nat.reduceAdd, Nat.reduceSub, Nat.reduceEqDiff, Nat.reduceLT, Nat.reduceLeDiff, reduceCtorEq, Int.reduceToNat, Int.reduceLT, Int.reduceLE, Int.reduceEq, Int.reduceNeg, Int.reduceBEq, Int.reduceBNe, String.reduceEq, forall_const, ↓vmDA, vmVA, ↓vmQA, vmR, vmRA, ↓vmSA, vmSV, tyS, nuE, SubA.skip, SubA.refl, fr.2, digits03_v, isDate03_v, rreference_v, valueOf_v, rvalue_v, split_v, rsplit_v, hlt, lrb, lb, nrb, nb, hc, en_agg, hk2, rm, hr, we]
        exact LoopA.weak (ih (e + 1) vl C acc h3' (by rw [htk, List.filter_append, ← hacc]; simp [hk]) ho hdC (by
          intro y hy hky
          rw [htk] at hy
          rcases List.mem_append.1 hy with hy | hy
          · exact hno y hy hky
          · simp at hy; subst hy; exact hr)) (by simp only [subE, get_cons, Nat.reduceEqDiff, ↓reduceIte, reduceCtorEq, Nat.reduceAdd, and_self, and_true]) (SubA.skip (fr.2 0) (SubA.refl _))
    · have hk2 : (x.key.toList == key.toList) = false := by rw [beq_ba]; simpa using hk
      simp (maxDischargeDepth := 16) only [argE_nil, argE_cons, ↓vmD, vmV, vmStd, Nat.reduceMul, ↓reduceIte, Nat.reduceAdd, Nat.reduceSub, Nat.reduceEqDiff, Nat.reduceLT, Nat.reduceLeDiff, reduceCtorEq, Int.reduceToNat, Int.reduceLT, Int.reduceLE, Int.reduceEq, Int.reduceNeg, Int.reduceBEq, Int.reduceBNe, String.reduceEq, forall_const, ↓vmDA, vmVA, ↓vmQA, vmR, vmRA, ↓vmSA, vmSV, tyS, nuE, SubA.skip, SubA.refl, fr.2, digits03_v, isDate03_v, rreference_v, valueOf_v, rvalue_v, split_v, rsplit_v, hlt, lrb, lb, nrb, nb, hc, en_agg, hk2, sc_en]
      have sC : SubA C ((ν 1, .cells #[.string x.key, .string x.val, .int .i64 x.tm] 78) :: (ν 0, .cells #[.string x.key, .string x.val, .int .i64 x.tm] 78) :: (C ++ ((rb, .cells #[.int .i64 H, .slice (some ⟨b, off, none⟩) L.length cap] 75) :: Br))) := SubA.skip ((SubA.left C _).none (fr.2 1)) (SubA.skip ((SubA.left C _).none (fr.2 0)) (SubA.left _ _))
      have sW3 : SubA ((rb, Obj.cells #[.int .i64 H, .slice (some ⟨b, off, none⟩) L.length cap] 75) :: Br) ((ν 1, .cells #[.string x.key, .string x.val, .int .i64 x.tm] 78) :: (ν 0, .cells #[.string x.key, .string x.val, .int .i64 x.tm] 78) :: (C ++ ((rb, .cells #[.int .i64 H, .slice (some ⟨b, off, none⟩) L.length cap] 75) :: Br))) := SubA.skip (sW.none (fr.2 1)) (SubA.skip (sW.none (fr.2 0)) sW)
      refine append_src (m := 1) (news := enC x) slc73 zro78 rfl (by decide) ho sC (.inr ⟨_, 0, rfl, by simp (maxDischargeDepth := 16) only [argE_nil, argE_cons, ↓vmD, vmV, vmStd, Nat.reduceMul, ↓reduceIte, Nat.reduceAdd, Nat.reduceSub, Nat.reduceEqDiff, Nat.reduceLT, Nat.reduceLeDiff, reduceCtorEq, Int.reduceToNat, Int.reduceLT, Int.reduceLE, Int.reduceEq, Int.reduceNeg, Int.reduceBEq, Int.reduceBNe, String.reduceEq, forall_const, ↓vmDA, vmVA, ↓vmQA, vmR, vmRA, ↓vmSA, vmSV, tyS, nuE, digits03_v, isDate03_v, rreference_v, valueOf_v, rvalue_v, split_v, rsplit_v]; rfl⟩) (by simp [enC, Value.oneCell']) (by simp [maxLen]; omega) (by omega) ?_
      intro v' C' ho' hb'
      have dC' : Dis C' ((rb, .cells #[.int .i64 H, .slice (some ⟨b, off, none⟩) L.length cap] 75) :: Br) := ap_dis hb' hdC sW3
      intro ν' fr'
      have fr := fr'
      have nuE := fr.nu
      simp (maxDischargeDepth := 16) only [argE_nil, argE_cons, ↓vmD, vmV, vmStd, Nat.reduceMul, ↓reduceIte, Nat.reduceAdd, Nat.reduceSub, Nat.reduceEqDiff, Nat.reduceLT, Nat.reduceLeDiff, reduceCtorEq, Int.reduceToNat, Int.reduceLT, Int.reduceLE, Int.reduceEq, Int.reduceNeg, Int.reduceBEq, Int.reduceBNe, String.reduceEq, forall_const, ↓vmDA, vmVA, ↓vmQA, vmR, vmRA, ↓vmSA, vmSV, tyS, nuE, digits03_v, isDate03_v, rreference_v, valueOf_v, rvalue_v, split_v, rsplit_v, we]
      exact LoopA.weak (ih (e + 1) v' C' (acc ++ [x]) h3' (by rw [htk, List.filter_append, ← hacc]; simp [hk]) (by simpa [OwnL] using ho') dC' (by
          intro y hy hky
          rw [htk] at hy
          rcases List.mem_append.1 hy with hy | hy
          · exact hno y hy hky
          · simp at hy; subst hy; exact absurd hky hk)) (by simp only [subE, get_cons, Nat.reduceEqDiff, ↓reduceIte, reduceCtorEq, Nat.reduceAdd, and_self, and_true]) (SubA.both (SubA.left _ _) (dC'.sub sW3))

end Go.Proofs.YthmkhmgmoflmkaaDoor
