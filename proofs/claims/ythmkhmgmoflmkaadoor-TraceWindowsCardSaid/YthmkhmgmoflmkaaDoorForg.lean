/-
Trace: Forget of the reference's window, its length.
Conditions: none.
-/
import Derived.Test.YthmkhmgmoflmkaaDoorRWin
namespace Go.Proofs.YthmkhmgmoflmkaaDoor
open Go.Vm
set_option linter.unusedSimpArgs false
set_option linter.unusedVariables false
set_option maxHeartbeats 2000000
set_option maxRecDepth 20000
theorem keysL_filter {p : En → Bool} {L : List En} (h : (keysL L).Nodup) : (keysL (L.filter p)).Nodup := h.sublist (List.filter_sublist.map _)
theorem rforgetW_h (E : AH) (rb : Nat) (H : Int) (L : List En) (hE : RWin E rb H L) (at_ : Int) : CallA Tryd.prog 15 #[.pointer (some ⟨rb, 0, none⟩), .int .i64 at_] E (fun u_ A_ => u_ = .int .i64 ((L.length : Int) - ((L.filter fun x => remB H x.tm at_).length : Int)) ∧ ∃ E', RWin E' rb H (L.filter fun x => remB H x.tm at_) ∧ SubA E' A_ ∧ ∀ b, Vm.look E b ≠ none → Vm.look A_ b ≠ none) := by
  refine callA_of_denA ⟨Tryd.prog, 15, Tryd.f15, 53, [0, 1, 4, 5, 6, 7], [], [], _⟩ (args := [_, _]) Tryd.func15 rfl (by kernel_rfl) Tryd.ntmps15 (by simp) (by kernel_rfl) ?_
  intro ν fr; have nuE := fr.nu
  have hE0 := hE
  obtain ⟨p, cap, Br, rfl, hS, hr0, hnd, hl⟩ := hE
  simp (maxDischargeDepth := 16) only [argE_nil, argE_cons, ↓vmD, vmV, vmStd, Nat.reduceMul, ↓reduceIte, Nat.reduceAdd, Nat.reduceSub, Nat.reduceEqDiff, Nat.reduceLT, Nat.reduceLeDiff, reduceCtorEq, Int.reduceToNat, Int.reduceLT, Int.reduceLE, Int.reduceEq, Int.reduceNeg, Int.reduceBEq, Int.reduceBNe, String.reduceEq, forall_const, ↓vmDA, vmVA, ↓vmQA, vmR, vmRA, ↓vmSA, vmSV, tyS, nuE, digits03_v, isDate03_v, rreference_v, valueOf_v, rvalue_v, split_v, rsplit_v]
  obtain ⟨e, l, vl, C, acc, he, hv, hC, h3, hacc, ho, hdC⟩ : ∃ (e : Nat) (l : List En) (vl : Value) (C : AH) (acc : List En), e = 0 ∧ vl = .slice none 0 0 ∧ C = [] ∧ l = L.drop e ∧ acc = (L.take e).filter (fun x => remB H x.tm at_) ∧ OwnL enC 3 78 vl C acc ∧ Dis C ((rb, .cells #[.int .i64 H, .slice p L.length cap] 75) :: Br) := ⟨0, L, _, [], [], rfl, rfl, rfl, rfl, by simp, OwnL.nil _ _ _, Dis.nil _⟩
  rw [show (6, some (Value.int .i64 0)) = (6, some (Value.int .i64 (e : Int))) by rw [he]; rfl]
  rw [show (5, some (Value.slice none 0 0)) = (5, some vl) by rw [hv]]
  refine LoopA.at (A := C ++ ((rb, .cells #[.int .i64 H, .slice p L.length cap] 75) :: Br)) (by rw [hC]; exact SubA.refl _) ?_
  clear he hv hC nuE fr
  induction l generalizing e vl C acc with
  | nil =>
    have hle := drop_nil h3
    have hlt : ((e : Int) < (L.length : Int)) = False := by simp; omega
    have htk : L.take e = L := List.take_of_length_le hle
    rw [htk] at hacc
    have hal : acc.length ≤ L.length := by rw [hacc]; exact List.length_filter_le _ _
    have sW : SubA ((rb, Obj.cells #[.int .i64 H, .slice p L.length cap] 75) :: Br) (C ++ ((rb, .cells #[.int .i64 H, .slice p L.length cap] 75) :: Br)) := hdC.right
    have hrbC : Vm.look C rb = none := hdC rb (by simp [Vm.look])
    have hwr : IntKind.i64.wrap ((L.length : Int) - (acc.length : Int)) = (L.length : Int) - (acc.length : Int) := by rw [w_i64 (by omega) (by omega)]
    obtain ⟨p', cap', rfl, _, hS'⟩ := OwnL.read en_len ho
    refine LoopA.intro (by kernel_rfl) ?_
    intro ν fr; have nuE := fr.nu
    have lrb : Vm.look (C ++ ((rb, .cells #[.int .i64 H, .slice p L.length cap] 75) :: Br)) rb = some (.cells #[.int .i64 H, .slice p L.length cap] 75) := sW rb _ (by simp [Vm.look])
    simp (maxDischargeDepth := 16) only [argE_nil, argE_cons, ↓vmD, vmV, vmStd, Nat.reduceMul, ↓reduceIte, Nat.reduceAdd, Nat.reduceSub, Nat.reduceEqDiff, Nat.reduceLT, Nat.reduceLeDiff, reduceCtorEq, Int.reduceToNat, Int.reduceLT, Int.reduceLE, Int.reduceEq, Int.reduceNeg, Int.reduceBEq, Int.reduceBNe, String.reduceEq, forall_const, ↓vmDA, vmVA, ↓vmQA, vmR, vmRA, ↓vmSA, vmSV, tyS, nuE, digits03_v, isDate03_v, rreference_v, valueOf_v, rvalue_v, split_v, rsplit_v, hlt, lrb, hwr]
    subst hacc
    refine ⟨rfl, (rb, .cells #[.int .i64 H, .slice p' (L.filter fun x => remB H x.tm at_).length cap'] 75) :: C, ⟨p', cap', C, rfl, hS', hrbC, keysL_filter hnd, by omega⟩, ?_, fun b2 hb2 => ?_⟩
    · intro b2 o2 hl2
      simp only [Vm.look] at hl2
      by_cases e9 : rb = b2
      · rw [if_pos e9] at hl2
        subst e9
        rw [look_put lrb]; exact hl2
      · rw [if_neg e9] at hl2
        exact (SubA.put (SubA.left C _) hrbC) b2 o2 hl2
    · have hd : Vm.look (C ++ ((rb, .cells #[.int .i64 H, .slice p L.length cap] 75) :: Br)) b2 ≠ none := dom_win sW b2 (by simp only [Vm.look]; exact hb2)
      by_cases e9 : b2 = rb
      · subst e9; rw [look_put lrb]; simp
      · rw [look_put_ne e9]; exact hd
  | cons x l ih =>
    obtain ⟨ha, hl2, h3'⟩ := drop_some h3
    have hlt : ((e : Int) < (L.length : Int)) = True := by simp; omega
    have we : IntKind.i64.wrap ((e : Int) + 1) = ((e + 1 : Nat) : Int) := by rw [w_i64 (by omega) (by omega)]; omega
    obtain ⟨b, off, cs, ty, fr0, hp0, hbk, hc, hcc⟩ := hS.at ha
    subst hp0
    have sW : SubA ((rb, Obj.cells #[.int .i64 H, .slice (some ⟨b, off, none⟩) L.length cap] 75) :: Br) (C ++ ((rb, .cells #[.int .i64 H, .slice (some ⟨b, off, none⟩) L.length cap] 75) :: Br)) := hdC.right
    have lrb : Vm.look (C ++ ((rb, .cells #[.int .i64 H, .slice (some ⟨b, off, none⟩) L.length cap] 75) :: Br)) rb = some (.cells #[.int .i64 H, .slice (some ⟨b, off, none⟩) L.length cap] 75) := sW rb _ (by simp [Vm.look])
    have lb : Vm.look (C ++ ((rb, .cells #[.int .i64 H, .slice (some ⟨b, off, none⟩) L.length cap] 75) :: Br)) b = some (.cells cs ty fr0) := sW b _ (SubA.skip hr0 (SubA.refl _) b _ hbk)
    have htk : L.take (e + 1) = L.take e ++ [x] := by rw [List.take_add_one, ha]; rfl
    have hac : acc.length ≤ e := by rw [hacc]; exact Nat.le_trans (List.length_filter_le _ _) (by simp; omega)
    have rm := rremb_w _ rb H x.tm at_ _ _ _ lrb
    have c2 := hcc 2 (.int .i64 x.tm) rfl
    refine LoopA.intro (by kernel_rfl) ?_
    intro ν fr; have nuE := fr.nu
    have nrb := fr.ne (b := rb) (by rw [lrb]; simp)
    have nb := fr.ne (b := b) (by rw [lb]; simp)
    cases hr : remB H x.tm at_ with
    | false =>
      simp (maxDischargeDepth := 16) only [argE_nil, argE_cons, ↓vmD, vmV, vmStd, Nat.reduceMul, ↓reduceIte, Nat.reduceAdd, Nat.reduceSub, Nat.reduceEqDiff, Nat.reduceLT, Nat.reduceLeDiff, reduceCtorEq, Int.reduceToNat, Int.reduceLT, Int.reduceLE, Int.reduceEq, Int.reduceNeg, Int.reduceBEq, Int.reduceBNe, String.reduceEq, forall_const, ↓vmDA, vmVA, ↓vmQA, vmR, vmRA, ↓vmSA, vmSV, tyS, nuE, SubA.skip, SubA.refl, fr.2, digits03_v, isDate03_v, rreference_v, valueOf_v, rvalue_v, split_v, rsplit_v, hlt, lrb, lb, nrb, nb, hc, c2, en_agg, rm, hr, we]
      exact LoopA.weak (ih (e + 1) vl C acc h3' (by rw [htk, List.filter_append, ← hacc]; simp [hr]) ho hdC) (by simp only [subE, get_cons, Nat.reduceEqDiff, ↓reduceIte, reduceCtorEq, Nat.reduceAdd, and_self, and_true]) (SubA.refl _)
    | true =>
      simp (maxDischargeDepth := 16) only [argE_nil, argE_cons, ↓vmD, vmV, vmStd, Nat.reduceMul, ↓reduceIte, Nat.reduceAdd, Nat.reduceSub, Nat.reduceEqDiff, Nat.reduceLT, Nat.reduceLeDiff, reduceCtorEq, Int.reduceToNat, Int.reduceLT, Int.reduceLE, Int.reduceEq, Int.reduceNeg, Int.reduceBEq, Int.reduceBNe, String.reduceEq, forall_const, ↓vmDA, vmVA, ↓vmQA, vmR, vmRA, ↓vmSA, vmSV, tyS, nuE, SubA.skip, SubA.refl, fr.2, digits03_v, isDate03_v, rreference_v, valueOf_v, rvalue_v, split_v, rsplit_v, hlt, lrb, lb, nrb, nb, hc, c2, en_agg, rm, hr, we, sc_en]
      have sC : SubA C ((ν 0, .cells #[.string x.key, .string x.val, .int .i64 x.tm] 78) :: (C ++ ((rb, .cells #[.int .i64 H, .slice (some ⟨b, off, none⟩) L.length cap] 75) :: Br))) := SubA.skip ((SubA.left C _).none (fr.2 0)) (SubA.left _ _)
      have sW3 : SubA ((rb, Obj.cells #[.int .i64 H, .slice (some ⟨b, off, none⟩) L.length cap] 75) :: Br) ((ν 0, .cells #[.string x.key, .string x.val, .int .i64 x.tm] 78) :: (C ++ ((rb, .cells #[.int .i64 H, .slice (some ⟨b, off, none⟩) L.length cap] 75) :: Br))) := SubA.skip (sW.none (fr.2 0)) sW
      refine append_src (m := 1) (news := enC x) slc73 zro78 rfl (by decide) ho sC (.inr ⟨_, 0, rfl, by simp (maxDischargeDepth := 16) only [argE_nil, argE_cons, ↓vmD, vmV, vmStd, Nat.reduceMul, ↓reduceIte, Nat.reduceAdd, Nat.reduceSub, Nat.reduceEqDiff, Nat.reduceLT, Nat.reduceLeDiff, reduceCtorEq, Int.reduceToNat, Int.reduceLT, Int.reduceLE, Int.reduceEq, Int.reduceNeg, Int.reduceBEq, Int.reduceBNe, String.reduceEq, forall_const, ↓vmDA, vmVA, ↓vmQA, vmR, vmRA, ↓vmSA, vmSV, tyS, nuE, digits03_v, isDate03_v, rreference_v, valueOf_v, rvalue_v, split_v, rsplit_v]; rfl⟩) (by simp [enC, Value.oneCell']) (by simp [maxLen]; omega) (by omega) ?_
      intro v' C' ho' hb'
      have dC' : Dis C' ((rb, .cells #[.int .i64 H, .slice (some ⟨b, off, none⟩) L.length cap] 75) :: Br) := ap_dis hb' hdC sW3
      intro ν' fr'
      have fr := fr'
      have nuE := fr.nu
      simp (maxDischargeDepth := 16) only [argE_nil, argE_cons, ↓vmD, vmV, vmStd, Nat.reduceMul, ↓reduceIte, Nat.reduceAdd, Nat.reduceSub, Nat.reduceEqDiff, Nat.reduceLT, Nat.reduceLeDiff, reduceCtorEq, Int.reduceToNat, Int.reduceLT, Int.reduceLE, Int.reduceEq, Int.reduceNeg, Int.reduceBEq, Int.reduceBNe, String.reduceEq, forall_const, ↓vmDA, vmVA, ↓vmQA, vmR, vmRA, ↓vmSA, vmSV, tyS, nuE, digits03_v, isDate03_v, rreference_v, valueOf_v, rvalue_v, split_v, rsplit_v, we]
      exact LoopA.weak (ih (e + 1) v' C' (acc ++ [x]) h3' (by rw [htk, List.filter_append, ← hacc]; simp [hr]) (by simpa [OwnL] using ho') dC') (by simp only [subE, get_cons, Nat.reduceEqDiff, ↓reduceIte, reduceCtorEq, Nat.reduceAdd, and_self, and_true]) (SubA.both (SubA.left _ _) (dC'.sub sW3))

end Go.Proofs.YthmkhmgmoflmkaaDoor
