/-
Trace: Forget of the program's window.
Conditions: none.
-/
import Derived.Test.YthmkhmgmoflmkaaDoorForg
import Derived.Laws.MakeOwn
namespace Go.Proofs.YthmkhmgmoflmkaaDoor
open Go.Vm
set_option linter.unusedSimpArgs false
set_option linter.unusedVariables false
set_option maxHeartbeats 2000000
set_option maxRecDepth 20000
theorem rA_make {P : Program} {t e : TypeId} {size bytes n : Nat} {z : Value} {A : AH} {K : Value → AH → Prop} (hs : slc P t = some (e, size, bytes)) (hz : zro P e = some z) (hb : bytes * n ≤ 140737488355328) (hn : n ≤ maxLen)
    (hK : ∀ g cur, Vm.look A g = none → OwnA e size (.slice (some ⟨g, 0, none⟩) 0 n) [(g, .cells cur e)] 0 [] → K (.slice (some ⟨g, 0, none⟩) 0 n) ([(g, .cells cur e)] ++ A)) :
    RunA P (Instr.makeSlice t (.int .i64 0) (.int .i64 (n : Int))) A K := by
  intro h hA w hw
  subst hw
  obtain ⟨ht, i, hi, e1, e2⟩ := slc_out hs
  have hz' : i.zero = some z := by unfold zro at hz; rw [hi] at hz; exact hz
  simp only at e1 e2
  subst e1
  subst e2
  have hn' : (n : Int) ≤ 9223372036854775807 := by simp only [maxLen] at hn; omega
  have hb' : (i.bytes : Int) * (n : Int) ≤ 281474976710656 := by
    have h : ((i.bytes * n : Nat) : Int) ≤ 281474976710656 := by omega
    rwa [Int.natCast_mul] at h
  have hr := run_make (P := P) w t e i z ht hi hz' .i64 .i64 0 (n : Int) (by decide) (by omega) hb' hn'
  refine ⟨_, _, hr, ⟨rfl, rfl, rfl⟩, _, hA.push, Keep.push, ?_⟩
  simp only [Int.toNat_zero, Int.toNat_natCast]
  exact hK _ _ (hA.none_of_size (Nat.le_refl _)) ⟨by simp, .inr ⟨_, n, _, rfl, rfl, by omega, hn, by rw [size_madeCells], by simp⟩⟩
theorem mapL_mid {A B : List En} {x : En} (h : (keysL (A ++ x :: B)).Nodup) : remL x.key (A ++ x :: B) = A ++ B := by
  rw [rem_filter h]
  have hm : ∀ y ∈ A ++ B, decide (y.key ≠ x.key) = true := by
    intro y hy
    simp only [keysL, List.map_append, List.map_cons, List.nodup_append, List.nodup_cons, List.mem_cons, List.mem_map] at h
    obtain ⟨_, ⟨h2, _⟩, h3⟩ := h
    simp only [ne_eq, decide_eq_true_eq]
    intro e
    rcases List.mem_append.1 hy with hy | hy
    · exact h3 y.key ⟨y, hy, rfl⟩ x.key (.inl rfl) e
    · exact h2 ⟨y, hy, e⟩
  rw [List.filter_append, List.filter_cons_of_neg (by simp), ← List.filter_append, List.filter_eq_self.2 hm]
theorem posS_mid : ∀ {A : List ByteArray} {k : ByteArray} {B : List ByteArray}, k ∉ A → posS k (A ++ k :: B) = some A.length
  | [], k, B, _ => by simp [posS]
  | a :: A, k, B, h => by
    have h1 : ¬ a = k := fun e => h (by simp [e])
    have h2 : k ∉ A := fun e => h (by simp [e])
    simp only [List.cons_append, posS]
    rw [if_neg h1, posS_mid h2]
    rfl
theorem posM_mid {A B : List En} {x : En} (h : (keysL (A ++ x :: B)).Nodup) : posM (mapL (A ++ x :: B)) x.key = some (A.length, recC x) := by
  rw [posM_map]
  have hk : keysL (A ++ x :: B) = keysL A ++ x.key :: keysL B := by simp [keysL]
  have hn : x.key ∉ keysL A := by
    rw [hk, List.nodup_append] at h
    intro e
    exact h.2.2 x.key e x.key (by simp) rfl
  rw [hk, posS_mid hn]
  simp [keysL]
theorem dis_obj {C Bk : AH} {wb mr : Nat} {w u u' : Obj} (h : Dis C ((wb, w) :: (mr, u) :: Bk)) : Dis C ((wb, w) :: (mr, u') :: Bk) := fun x hx => h x (by
  simp only [Vm.look] at hx ⊢
  by_cases e1 : wb = x
  · rw [if_pos e1]; simp
  · rw [if_neg e1] at hx ⊢
    by_cases e2 : mr = x
    · rw [if_pos e2]; simp
    · rw [if_neg e2] at hx ⊢; exact hx)
theorem sub_put {C Bk : AH} {wb mr : Nat} {w u u' : Obj} (hC : Vm.look C mr = none) (hw : ¬ wb = mr) : SubA (C ++ ((wb, w) :: (mr, u') :: Bk)) (putB (C ++ ((wb, w) :: (mr, u) :: Bk)) mr u') := fun b o hl => by
  rw [look_putB]
  rw [look_append] at hl ⊢
  by_cases e : b = mr
  · subst e
    rw [hC] at hl ⊢
    rw [if_pos rfl]
    simp only [Vm.look, if_neg hw, if_true, Option.map_some] at hl ⊢
    exact hl
  · rw [if_neg e]
    cases hc : Vm.look C b with
    | some y => rw [hc] at hl; exact hl
    | none =>
      rw [hc] at hl
      simp only [Vm.look, if_neg (fun h : mr = b => e h.symm)] at hl ⊢
      exact hl
theorem forgetW_h (E : AH) (wb : Nat) (H : Int) (L : List En) (hE : WinE E wb H L) (at_ : Int) : CallA Tryd.prog 14 #[.pointer (some ⟨wb, 0, none⟩), .int .i64 at_] E (fun u_ A_ => u_ = .int .i64 ((L.length : Int) - ((L.filter fun x => remB H x.tm at_).length : Int)) ∧ ∃ E', WinE E' wb H (L.filter fun x => remB H x.tm at_) ∧ SubA E' A_ ∧ ∀ b, Vm.look E b ≠ none → Vm.look A_ b ≠ none) := by
  refine callA_of_denA ⟨Tryd.prog, 14, Tryd.f14, 58, [0, 1, 4, 5, 7, 8, 20, 21, 22], [], [], _⟩ (args := [_, _]) Tryd.func14 rfl (by kernel_rfl) Tryd.ntmps14 (by simp) (by kernel_rfl) ?_
  intro ν fr; have nuE := fr.nu
  have hE0 := hE
  obtain ⟨mr, v, es, cl, Bk, rfl, hm, ho, hwm, hw0, hm0, hnd, hl⟩ := hE
  obtain ⟨p, cap, rfl, hcap, hS⟩ := OwnL.read str_len ho
  rw [keysL_len] at *
  simp (maxDischargeDepth := 16) only [argE_nil, argE_cons, ↓vmD, vmV, vmStd, Nat.reduceMul, ↓reduceIte, Nat.reduceAdd, Nat.reduceSub, Nat.reduceEqDiff, Nat.reduceLT, Nat.reduceLeDiff, reduceCtorEq, Int.reduceToNat, Int.reduceLT, Int.reduceLE, Int.reduceEq, Int.reduceNeg, Int.reduceBEq, Int.reduceBNe, String.reduceEq, forall_const, ↓vmDA, vmVA, ↓vmQA, vmR, vmRA, ↓vmSA, vmSV, tyS, nuE, digits03_v, isDate03_v, rreference_v, valueOf_v, rvalue_v, split_v, rsplit_v]
  refine rA_make slc65 zro9 (by omega) (by simp [maxLen]; omega) fun g cur hg0 hoA => ?_
  have ggw := look_ne hg0 (show Vm.look ((wb, Obj.cells #[.int .i64 H, .map (some mr), .slice p L.length cap] 67) :: (mr, .map es cl) :: Bk) wb = some (Obj.cells #[.int .i64 H, .map (some mr), .slice p L.length cap] 67) by simp [Vm.look])
  intro ν' fr'
  have fr := fr'
  have nuE := fr.nu
  simp (maxDischargeDepth := 16) only [argE_nil, argE_cons, ↓vmD, vmV, vmStd, Nat.reduceMul, ↓reduceIte, Nat.reduceAdd, Nat.reduceSub, Nat.reduceEqDiff, Nat.reduceLT, Nat.reduceLeDiff, reduceCtorEq, Int.reduceToNat, Int.reduceLT, Int.reduceLE, Int.reduceEq, Int.reduceNeg, Int.reduceBEq, Int.reduceBNe, String.reduceEq, forall_const, ↓vmDA, vmVA, ↓vmQA, vmR, vmRA, ↓vmSA, vmSV, tyS, nuE, digits03_v, isDate03_v, rreference_v, valueOf_v, rvalue_v, split_v, rsplit_v, ggw]
  clear hE0
  obtain ⟨e, l, vl, C, acc, es, cl, he, hv, hC, h3, hacc, hm, hn2, ho2, hdC⟩ : ∃ (e : Nat) (l : List En) (vl : Value) (C : AH) (acc : List En) (es' : Array MapEntry) (cl' : Nat), e = 0 ∧ vl = .slice (some ⟨g, 0, none⟩) 0 L.length ∧ C ++ ((wb, .cells #[.int .i64 H, .map (some mr), .slice p L.length cap] 67) :: (mr, .map es' cl') :: Bk) = (g, .cells cur 9) :: ((wb, .cells #[.int .i64 H, .map (some mr), .slice p L.length cap] 67) :: (mr, .map es cl) :: Bk) ∧ l = L.drop e ∧ acc = (L.take e).filter (fun x => remB H x.tm at_) ∧ MapIs es' (mapL (acc ++ l)) ∧ (keysL (acc ++ l)).Nodup ∧ OwnL strC 1 9 vl C (keysL acc) ∧ Dis C ((wb, .cells #[.int .i64 H, .map (some mr), .slice p L.length cap] 67) :: (mr, .map es' cl') :: Bk) :=
    ⟨0, L, _, [(g, .cells cur 9)], [], es, cl, rfl, rfl, rfl, rfl, by simp, hm, hnd, .inl hoA, fun x hx => by
      simp only [Vm.look]
      split
      · rename_i e9; subst e9; exact absurd hg0 hx
      · rfl⟩
  rw [show (22, some (Value.int .i64 0)) = (22, some (Value.int .i64 (e : Int))) by rw [he]; rfl]
  rw [← hv, ← hC]
  clear he hv hC nuE fr
  induction l generalizing e vl C acc es cl with
  | nil =>
    have hle := drop_nil h3
    have hlt : ((e : Int) < (L.length : Int)) = False := by simp; omega
    have htk : L.take e = L := List.take_of_length_le hle
    rw [htk] at hacc
    rw [List.append_nil] at hm hn2
    have hal : acc.length ≤ L.length := by rw [hacc]; exact List.length_filter_le _ _
    have sW : SubA ((wb, Obj.cells #[.int .i64 H, .map (some mr), .slice p L.length cap] 67) :: (mr, .map es cl) :: Bk) (C ++ ((wb, Obj.cells #[.int .i64 H, .map (some mr), .slice p L.length cap] 67) :: (mr, .map es cl) :: Bk)) := hdC.right
    have g0 : ((wb = mr) = False) ∧ ((mr = wb) = False) := ⟨eq_false hwm, eq_false fun e => hwm e.symm⟩
    have hCw : Vm.look C wb = none := hdC wb (by simp [Vm.look])
    have hCm : Vm.look C mr = none := hdC mr (by simp [Vm.look, g0])
    have lw : Vm.look (C ++ ((wb, Obj.cells #[.int .i64 H, .map (some mr), .slice p L.length cap] 67) :: (mr, .map es cl) :: Bk)) wb = some (.cells #[.int .i64 H, .map (some mr), .slice p L.length cap] 67) := sW wb _ (by simp [Vm.look])
    have lm : Vm.look (C ++ ((wb, Obj.cells #[.int .i64 H, .map (some mr), .slice p L.length cap] 67) :: (mr, .map es cl) :: Bk)) mr = some (.map es cl) := sW mr _ (by simp [Vm.look, g0])
    have hwr : IntKind.i64.wrap ((L.length : Int) - (acc.length : Int)) = (L.length : Int) - (acc.length : Int) := by rw [w_i64 (by omega) (by omega)]
    obtain ⟨p', cap', rfl, _, _⟩ := OwnL.read str_len ho2
    rw [keysL_len] at ho2 ⊢
    refine LoopA.intro (by kernel_rfl) ?_
    intro ν fr; have nuE := fr.nu
    simp (maxDischargeDepth := 16) only [argE_nil, argE_cons, ↓vmD, vmV, vmStd, Nat.reduceMul, ↓reduceIte, Nat.reduceAdd, Nat.reduceSub, Nat.reduceEqDiff, Nat.reduceLT, Nat.reduceLeDiff, reduceCtorEq, Int.reduceToNat, Int.reduceLT, Int.reduceLE, Int.reduceEq, Int.reduceNeg, Int.reduceBEq, Int.reduceBNe, String.reduceEq, forall_const, ↓vmDA, vmVA, ↓vmQA, vmR, vmRA, ↓vmSA, vmSV, tyS, nuE, digits03_v, isDate03_v, rreference_v, valueOf_v, rvalue_v, split_v, rsplit_v, hlt, lw, hwr]
    subst hacc
    refine ⟨rfl, (wb, .cells #[.int .i64 H, .map (some mr), .slice p' (L.filter fun x => remB H x.tm at_).length cap'] 67) :: (mr, .map es cl) :: C, ⟨mr, _, es, cl, C, rfl, hm, ho2, hwm, hCw, hCm, keysL_filter hnd, by omega⟩, ?_, fun b2 hb2 => ?_⟩
    · intro b2 o2 hl2
      simp only [Vm.look] at hl2
      by_cases e9 : wb = b2
      · rw [if_pos e9] at hl2
        subst e9
        rw [look_put lw]; exact hl2
      · rw [if_neg e9] at hl2
        rw [look_put_ne (fun h => e9 h.symm)]
        by_cases e8 : mr = b2
        · rw [if_pos e8] at hl2
          subst e8
          rw [lm]; exact hl2
        · rw [if_neg e8] at hl2
          exact (SubA.left C _) b2 o2 hl2
    · have hd : Vm.look (C ++ ((wb, Obj.cells #[.int .i64 H, .map (some mr), .slice p L.length cap] 67) :: (mr, .map es cl) :: Bk)) b2 ≠ none := dom_win sW b2 (by
        simp only [Vm.look]
        by_cases e9 : wb = b2
        · rw [if_pos e9]; simp
        · rw [if_neg e9] at hb2 ⊢
          by_cases e8 : mr = b2
          · rw [if_pos e8]; simp
          · rw [if_neg e8] at hb2 ⊢; exact hb2)
      by_cases e9 : b2 = wb
      · subst e9; rw [look_put lw]; simp
      · rw [look_put_ne e9]; exact hd
  | cons x l ih =>
    obtain ⟨ha, hl2, h3'⟩ := drop_some h3
    have hlt : ((e : Int) < (L.length : Int)) = True := by simp; omega
    have we : IntKind.i64.wrap ((e : Int) + 1) = ((e + 1 : Nat) : Int) := by rw [w_i64 (by omega) (by omega)]; omega
    have hak : (keysL L)[e]? = some x.key := by simp [keysL, ha]
    obtain ⟨b, off, cs, ty, fr0, hp0, hbk, hc, hcc⟩ := hS.at hak
    subst hp0
    have c0 : cs[off + e * 1]? = some (.string x.key) := hcc 0 (.string x.key) rfl
    have sW : SubA ((wb, Obj.cells #[.int .i64 H, .map (some mr), .slice (some ⟨b, off, none⟩) L.length cap] 67) :: (mr, .map es cl) :: Bk) (C ++ ((wb, Obj.cells #[.int .i64 H, .map (some mr), .slice (some ⟨b, off, none⟩) L.length cap] 67) :: (mr, .map es cl) :: Bk)) := hdC.right
    have g0 : ((wb = mr) = False) ∧ ((mr = wb) = False) := ⟨eq_false hwm, eq_false fun e => hwm e.symm⟩
    have hCw : Vm.look C wb = none := hdC wb (by simp [Vm.look])
    have hCm : Vm.look C mr = none := hdC mr (by simp [Vm.look, g0])
    have lw : Vm.look (C ++ ((wb, Obj.cells #[.int .i64 H, .map (some mr), .slice (some ⟨b, off, none⟩) L.length cap] 67) :: (mr, .map es cl) :: Bk)) wb = some (.cells #[.int .i64 H, .map (some mr), .slice (some ⟨b, off, none⟩) L.length cap] 67) := sW wb _ (by simp [Vm.look])
    have lm : Vm.look (C ++ ((wb, Obj.cells #[.int .i64 H, .map (some mr), .slice (some ⟨b, off, none⟩) L.length cap] 67) :: (mr, .map es cl) :: Bk)) mr = some (.map es cl) := sW mr _ (by simp [Vm.look, g0])
    have lb : Vm.look (C ++ ((wb, Obj.cells #[.int .i64 H, .map (some mr), .slice (some ⟨b, off, none⟩) L.length cap] 67) :: (mr, .map es cl) :: Bk)) b = some (.cells cs ty fr0) := sW b _ (SubA.skip hw0 (SubA.skip hm0 (SubA.refl _)) b _ hbk)
    have lk := rdA_lookup (s := x.key) (ok := false) und_map und_str zro69 lm hm
    rw [lookM_map, get_at (e := acc.length) hn2 (by simp) rfl] at lk
    simp only [Option.map_some, Option.getD_some, recC, Bool.false_eq_true, if_false] at lk
    have htk : L.take (e + 1) = L.take e ++ [x] := by rw [List.take_add_one, ha]; rfl
    have hac : acc.length ≤ e := by rw [hacc]; exact Nat.le_trans (List.length_filter_le _ _) (by simp; omega)
    have rm := remembers_w _ wb H x.tm at_ _ _ x.val _ _ lw
    refine LoopA.intro (by kernel_rfl) ?_
    intro ν fr; have nuE := fr.nu
    have nw := fr.ne (b := wb) (by rw [lw]; simp)
    have nm := fr.ne (b := mr) (by rw [lm]; simp)
    have nb := fr.ne (b := b) (by rw [lb]; simp)
    cases hr : remB H x.tm at_ with
    | false =>
      simp (maxDischargeDepth := 16) only [argE_nil, argE_cons, ↓vmD, vmV, vmStd, Nat.reduceMul, ↓reduceIte, Nat.reduceAdd, Nat.reduceSub, Nat.reduceEqDiff, Nat.reduceLT, Nat.reduceLeDiff, reduceCtorEq, Int.reduceToNat, Int.reduceLT, Int.reduceLE, Int.reduceEq, Int.reduceNeg, Int.reduceBEq, Int.reduceBNe, String.reduceEq, forall_const, ↓vmDA, vmVA, ↓vmQA, vmR, vmRA, ↓vmSA, vmSV, tyS, nuE, SubA.skip, SubA.refl, fr.2, digits03_v, isDate03_v, rreference_v, valueOf_v, rvalue_v, split_v, rsplit_v, hlt, lw, lm, lb, nw, nm, nb, hc, c0, lk, rm, hr, we, g0]
      refine rA_delete (t := 64) rfl und_map und_str lm hm ?_
      intro es2 cl2 hm2
      rw [del_mapL, mapL_mid hn2] at hm2
      intro ν' fr'
      have fr := fr'
      have nuE := fr.nu
      simp (maxDischargeDepth := 16) only [argE_nil, argE_cons, ↓vmD, vmV, vmStd, Nat.reduceMul, ↓reduceIte, Nat.reduceAdd, Nat.reduceSub, Nat.reduceEqDiff, Nat.reduceLT, Nat.reduceLeDiff, reduceCtorEq, Int.reduceToNat, Int.reduceLT, Int.reduceLE, Int.reduceEq, Int.reduceNeg, Int.reduceBEq, Int.reduceBNe, String.reduceEq, forall_const, ↓vmDA, vmVA, ↓vmQA, vmR, vmRA, ↓vmSA, vmSV, tyS, nuE, digits03_v, isDate03_v, rreference_v, valueOf_v, rvalue_v, split_v, rsplit_v, we]
      have hn3 : (keysL (acc ++ l)).Nodup := by
        rw [← mapL_mid hn2]; exact rem_nodup hn2
      exact LoopA.weak (ih (e + 1) vl C acc es2 cl2 h3' (by rw [htk, List.filter_append, ← hacc]; simp [hr]) hm2 hn3 ho2 (dis_obj hdC)) (by simp only [subE, get_cons, Nat.reduceEqDiff, ↓reduceIte, reduceCtorEq, Nat.reduceAdd, and_self, and_true]) (sub_put hCm hwm)
    | true =>
      simp (maxDischargeDepth := 16) only [argE_nil, argE_cons, ↓vmD, vmV, vmStd, Nat.reduceMul, ↓reduceIte, Nat.reduceAdd, Nat.reduceSub, Nat.reduceEqDiff, Nat.reduceLT, Nat.reduceLeDiff, reduceCtorEq, Int.reduceToNat, Int.reduceLT, Int.reduceLE, Int.reduceEq, Int.reduceNeg, Int.reduceBEq, Int.reduceBNe, String.reduceEq, forall_const, ↓vmDA, vmVA, ↓vmQA, vmR, vmRA, ↓vmSA, vmSV, tyS, nuE, SubA.skip, SubA.refl, fr.2, digits03_v, isDate03_v, rreference_v, valueOf_v, rvalue_v, split_v, rsplit_v, hlt, lw, lm, lb, nw, nm, nb, hc, c0, lk, rm, hr, we, g0, sc_str]
      have sC : SubA C ((ν 0, .cells #[.string x.key] 9) :: (C ++ ((wb, Obj.cells #[.int .i64 H, .map (some mr), .slice (some ⟨b, off, none⟩) L.length cap] 67) :: (mr, .map es cl) :: Bk))) := SubA.skip ((SubA.left C _).none (fr.2 0)) (SubA.left _ _)
      have sW3 : SubA ((wb, Obj.cells #[.int .i64 H, .map (some mr), .slice (some ⟨b, off, none⟩) L.length cap] 67) :: (mr, .map es cl) :: Bk) ((ν 0, .cells #[.string x.key] 9) :: (C ++ ((wb, Obj.cells #[.int .i64 H, .map (some mr), .slice (some ⟨b, off, none⟩) L.length cap] 67) :: (mr, .map es cl) :: Bk))) := SubA.skip (sW.none (fr.2 0)) sW
      refine append_src (m := 1) (news := [.string x.key]) slc65 zro9 rfl (by decide) ho2 sC (.inr ⟨_, 0, rfl, by simp (maxDischargeDepth := 16) only [argE_nil, argE_cons, ↓vmD, vmV, vmStd, Nat.reduceMul, ↓reduceIte, Nat.reduceAdd, Nat.reduceSub, Nat.reduceEqDiff, Nat.reduceLT, Nat.reduceLeDiff, reduceCtorEq, Int.reduceToNat, Int.reduceLT, Int.reduceLE, Int.reduceEq, Int.reduceNeg, Int.reduceBEq, Int.reduceBNe, String.reduceEq, forall_const, ↓vmDA, vmVA, ↓vmQA, vmR, vmRA, ↓vmSA, vmSV, tyS, nuE, digits03_v, isDate03_v, rreference_v, valueOf_v, rvalue_v, split_v, rsplit_v]⟩) (by simp [Value.oneCell']) (by rw [keysL_len]; simp [maxLen]; omega) (by rw [keysL_len]; omega) ?_
      intro v' C' ho' hb'
      have dC' : Dis C' ((wb, Obj.cells #[.int .i64 H, .map (some mr), .slice (some ⟨b, off, none⟩) L.length cap] 67) :: (mr, .map es cl) :: Bk) := ap_dis hb' hdC sW3
      intro ν' fr'
      have fr := fr'
      have nuE := fr.nu
      simp (maxDischargeDepth := 16) only [argE_nil, argE_cons, ↓vmD, vmV, vmStd, Nat.reduceMul, ↓reduceIte, Nat.reduceAdd, Nat.reduceSub, Nat.reduceEqDiff, Nat.reduceLT, Nat.reduceLeDiff, reduceCtorEq, Int.reduceToNat, Int.reduceLT, Int.reduceLE, Int.reduceEq, Int.reduceNeg, Int.reduceBEq, Int.reduceBNe, String.reduceEq, forall_const, ↓vmDA, vmVA, ↓vmQA, vmR, vmRA, ↓vmSA, vmSV, tyS, nuE, digits03_v, isDate03_v, rreference_v, valueOf_v, rvalue_v, split_v, rsplit_v, we]
      exact LoopA.weak (ih (e + 1) v' C' (acc ++ [x]) es cl h3' (by rw [htk, List.filter_append, ← hacc]; simp [hr]) (by simpa using hm) (by simpa using hn2) (by simpa [OwnL, keysL, strC] using ho') dC') (by simp only [subE, get_cons, Nat.reduceEqDiff, ↓reduceIte, reduceCtorEq, Nat.reduceAdd, and_self, and_true]) (SubA.both (SubA.left _ _) (dC'.sub sW3))

end Go.Proofs.YthmkhmgmoflmkaaDoor
