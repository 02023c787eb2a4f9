/-
Trace: the window: Seen, Len, NewWindow.
Conditions: none.
-/
import Derived.Test.YthmkhmgmoflmkaaDoorWin2
namespace Go.Proofs.YthmkhmgmoflmkaaDoor
open Go.Vm
set_option linter.unusedSimpArgs false
set_option linter.unusedVariables false
set_option maxHeartbeats 2000000
set_option maxRecDepth 20000
def getE (key : ByteArray) (L : List En) : Option En := match posS key (keysL L) with | some i => L[i]? | none => none
theorem lookM_map (L : List En) (key : ByteArray) : lookM (mapL L) key = (getE key L).map recC := by
  unfold lookM getE
  rw [posM_map]
  cases posS key (keysL L) with
  | none => rfl
  | some i => cases hx : L[i]? <;> simp [hx]
theorem posS_of_not : ∀ {key : ByteArray} {l : List ByteArray}, key ∉ l → posS key l = none
  | _, [], _ => rfl
  | key, a :: l, h => by
    simp only [List.mem_cons, not_or] at h
    simp only [posS]
    rw [if_neg (fun e => h.1 e.symm), posS_of_not h.2]
    rfl
theorem upd_mapL {L : List En} {x : En} (h : x.key ∉ keysL L) : updM (mapL L) x.key (recC x) = mapL (L ++ [x]) := by
  unfold updM
  rw [posM_map, posS_of_not h]
  simp [mapL]
def trimL (L : List En) : List En := if 256 ≤ L.length then L.tail else L
theorem rem_head {L : List En} {x : En} {l : List En} (h : L = x :: l) : remL x.key L = L.tail := by
  subst h
  simp [remL, keysL, posS]
def keptE (H at_ : Int) (o : Option En) : Option En := match o with | some x => if remB H x.tm at_ = true then some x else none | none => none
def seenL (H : Int) (key val : ByteArray) (at_ : Int) (L : List En) : List En := match keptE H at_ (getE key L) with
  | some _ => L
  | none => trimL (remL key L) ++ [⟨key, val, at_⟩]
def seenV (H : Int) (key : ByteArray) (at_ : Int) (L : List En) : Value := match keptE H at_ (getE key L) with
  | some x => .tuple #[.string x.val, .bool true]
  | none => .tuple #[.string ⟨#[]⟩, .bool false]
theorem trim_not {L : List En} {key : ByteArray} (h : key ∉ keysL L) : key ∉ keysL (trimL L) := by
  unfold trimL
  split
  · intro hm
    exact h (by
      simp only [keysL, List.mem_map] at hm ⊢
      obtain ⟨x, hx, e⟩ := hm
      exact ⟨x, List.mem_of_mem_tail hx, e⟩)
  · exact h
theorem trim_nodup {L : List En} (h : (keysL L).Nodup) : (keysL (trimL L)).Nodup := by
  unfold trimL
  split
  · simp only [keysL, List.map_tail]
    exact h.sublist (List.tail_sublist _)
  · exact h
theorem trim_len {L : List En} (h : L.length ≤ 256) : (trimL L).length ≤ 255 ∨ False := by
  left
  unfold trimL
  split
  · simp; omega
  · omega
theorem dom_win {E A : AH} (h : SubA E A) : ∀ b, Vm.look E b ≠ none → Vm.look A b ≠ none := fun b hb => by
  cases hl : Vm.look E b with
  | none => exact absurd hl hb
  | some o => rw [h b o hl]; simp
theorem dis2 {B : AH} {x y : Nat} {o u : Obj} (h1 : Vm.look B x = none) (h2 : Vm.look B y = none) : Dis B [(x, o), (y, u)] := fun b hb => by
  simp only [Vm.look] at hb
  split at hb
  · rename_i e; subst e; exact h1
  · split at hb
    · rename_i e; subst e; exact h2
    · exact absurd rfl hb
theorem look2 {x y z : Nat} {o u : Obj} {B : AH} (h : Vm.look ((x, o) :: (y, u) :: B) z = none) : Vm.look [(x, o), (y, u)] z = none := by
  simp only [Vm.look] at h ⊢
  split at h
  · cases h
  · split at h
    · cases h
    · rename_i e1 e2; rw [if_neg e1, if_neg e2]
theorem seenW_h (E : AH) (wb : Nat) (H : Int) (L : List En) (hE : WinE E wb H L) (at_ : Int) (key val : ByteArray) : CallA Tryd.prog 12 #[.pointer (some ⟨wb, 0, none⟩), .int .i64 at_, .string key, .string val] E (fun u_ A_ => u_ = seenV H key at_ L ∧ ∃ E', WinE E' wb H (seenL H key val at_ L) ∧ SubA E' A_ ∧ ∀ b, Vm.look E b ≠ none → Vm.look A_ b ≠ none) := by
  refine callA_of_denA ⟨Tryd.prog, 12, Tryd.f12, 76, [0, 1, 2, 3, 8, 9, 10, 11], [32], [], _⟩ (args := [_, _, _, _]) Tryd.func12 rfl (by kernel_rfl) Tryd.ntmps12 (by simp) (by kernel_rfl) ?_
  intro ν fr; have nuE := fr.nu
  have hE0 := hE
  obtain ⟨mr, v, es, cl, Bk, rfl, hm, ho, h1, h2, h3, h4, h5⟩ := hE
  have g0 : ((wb = mr) = False) ∧ ((mr = wb) = False) := ⟨eq_false h1, eq_false fun e => h1 e.symm⟩
  have lk := fun (A : AH) (hA : Vm.look A mr = some (.map es cl)) => rdA_lookup (s := key) (A := A) (ok := true) und_map und_str zro69 hA hm
  have rm := fun (A : AH) (t : Int) (s : ByteArray) (hA : Vm.look A wb = some (.cells #[.int .i64 H, .map (some mr), v] 67)) => remembers_v A wb H t at_ (.map (some mr)) v s 67 (0, 0) hA
  simp only [lookM_map] at lk
  have nw := fr.ne (b := wb) (by simp [Vm.look])
  have nm := fr.ne (b := mr) (by simp [Vm.look, g0])
  cases hg : getE key L with
  | some x =>
    simp only [hg, Option.map_some, Option.getD_some, Option.isSome_some, if_true, recC] at lk
    by_cases hr : remB H x.tm at_ = true
    · simp (maxDischargeDepth := 16) only [argE_nil, argE_cons, ↓vmD, vmV, vmStd, Nat.reduceMul, ↓reduceIte, Nat.reduceAdd, Nat.reduceSub, Nat.reduceEqDiff, Nat.reduceLT, Nat.reduceLeDiff, reduceCtorEq, Int.reduceToNat, Int.reduceLT, Int.reduceLE, Int.reduceEq, Int.reduceNeg, Int.reduceBEq, Int.reduceBNe, String.reduceEq, forall_const, ↓vmDA, vmVA, ↓vmQA, vmR, vmRA, ↓vmSA, vmSV, tyS, nuE, digits03_v, isDate03_v, rreference_v, valueOf_v, rvalue_v, split_v, rsplit_v, g0, nw, nm, lk, rm, hr]
      have hk : keptE H at_ (getE key L) = some x := by rw [hg]; simp [keptE, hr]
      have e1 : seenV H key at_ L = .tuple #[.string x.val, .bool true] := by unfold seenV; rw [hk]
      have e2 : seenL H key val at_ L = L := by unfold seenL; rw [hk]
      rw [e1, e2]
      refine ⟨rfl, _, hE0, SubA.skip (by have := fr.2 0; exact this) (SubA.refl _), fun b hb => ?_⟩
      split
      · simp
      · exact hb
    · have hr : remB H x.tm at_ = false := by simpa using hr
      have hk : keptE H at_ (getE key L) = none := by rw [hg]; simp [keptE, hr]
      simp (maxDischargeDepth := 16) only [argE_nil, argE_cons, ↓vmD, vmV, vmStd, Nat.reduceMul, ↓reduceIte, Nat.reduceAdd, Nat.reduceSub, Nat.reduceEqDiff, Nat.reduceLT, Nat.reduceLeDiff, reduceCtorEq, Int.reduceToNat, Int.reduceLT, Int.reduceLE, Int.reduceEq, Int.reduceNeg, Int.reduceBEq, Int.reduceBNe, String.reduceEq, forall_const, ↓vmDA, vmVA, ↓vmQA, vmR, vmRA, ↓vmSA, vmSV, tyS, nuE, digits03_v, isDate03_v, rreference_v, valueOf_v, rvalue_v, split_v, rsplit_v, g0, nw, nm, lk, rm, hr]
      refine CallA.use (removeW_h _ wb H L hE0 key) (SubA.skip (fr.2 0) (SubA.refl _)) (by
        rintro v D ⟨_, E', _, hs, hd⟩ b hb
        exact dom_win hs b (hd b hb)) [] (SubA.nil _) (fun x hx => absurd rfl hx) ?_
      rintro u D ⟨rfl, E1, hE1, hs1, hd1⟩ _
      refine ⟨E1, hs1, ?_⟩
      rw [List.append_nil]
      intro ν1 fr1
      obtain ⟨mr1, v1, es1, cl1, Bk1, rfl, hm1, ho1, i1, i2, i3, i4, i5⟩ := hE1
      obtain ⟨p1, cap1, rfl, hcap1, hS1⟩ := ho1.read str_len
      have hl1 : (remL key L).length ≤ 256 := Nat.le_trans (rem_len _ _) h5
      by_cases hb : 256 ≤ (remL key L).length
      · have c1 : ((256 : Int) ≤ ((keysL (remL key L)).length : Int)) = True := by rw [keysL_len]; exact eq_true (by omega)
        obtain ⟨x, l, hxl⟩ : ∃ x l, remL key L = x :: l := by
          cases hx : remL key L with
          | nil => rw [hx] at hb; simp at hb
          | cons x l => exact ⟨x, l, rfl⟩
        have hx0 : (keysL (remL key L))[0]? = some x.key := by rw [hxl]; rfl
        obtain ⟨b, off, cs, ty, fr0, hp0, hbk, hc, hcc⟩ := hS1.at hx0
        subst hp0
        have c2 : cs[off]? = some (.string x.key) := by simpa using hcc 0 _ rfl
        have c3 : ((0 : Int) < ((keysL (remL key L)).length : Int)) = True := by rw [keysL_len]; exact eq_true (by omega)
        have gw : ((wb = b) = False) ∧ ((b = wb) = False) := look_ne i2 hbk
        have gm : ((mr1 = b) = False) ∧ ((b = mr1) = False) := look_ne i3 hbk
        have g1 : ((wb = mr1) = False) ∧ ((mr1 = wb) = False) := ⟨eq_false i1, eq_false fun e => i1 e.symm⟩
        have hE1' : WinE _ wb H (remL key L) := ⟨mr1, _, es1, cl1, Bk1, rfl, hm1, ho1, i1, i2, i3, i4, i5⟩
        simp (maxDischargeDepth := 16) only [argE_nil, argE_cons, ↓vmD, vmV, vmStd, Nat.reduceMul, ↓reduceIte, Nat.reduceAdd, Nat.reduceSub, Nat.reduceEqDiff, Nat.reduceLT, Nat.reduceLeDiff, reduceCtorEq, Int.reduceToNat, Int.reduceLT, Int.reduceLE, Int.reduceEq, Int.reduceNeg, Int.reduceBEq, Int.reduceBNe, String.reduceEq, forall_const, ↓vmDA, vmVA, ↓vmQA, vmR, vmRA, ↓vmSA, vmSV, tyS, nuE, digits03_v, isDate03_v, rreference_v, valueOf_v, rvalue_v, split_v, rsplit_v, c1, c3, g1, gw, gm, hbk, c2, Nat.zero_mul, Nat.add_zero]
        refine CallA.use (removeW_h _ wb H _ hE1' x.key) (SubA.refl _) (by
          rintro v D ⟨_, E', _, hs, hd⟩ b hb
          exact dom_win hs b (hd b hb)) [] (SubA.nil _) (fun x hx => absurd rfl hx) ?_
        rintro u D ⟨rfl, E2, hE2, hs2, hd2⟩ _
        refine ⟨E2, hs2, ?_⟩
        rw [List.append_nil]
        intro ν2 fr2
        have htrim : trimL (remL key L) = remL x.key (remL key L) := by unfold trimL; rw [if_pos hb, rem_head hxl]
        have hnot : key ∉ keysL (remL x.key (remL key L)) := by rw [← htrim]; exact trim_not (rem_not h4)
        have hl255 : (remL x.key (remL key L)).length ≤ 255 := by rw [rem_head hxl]; simp; omega
        obtain ⟨mr2, v2, es2, cl2, Bk2, rfl, hm2, ho2, i12, i22, i32, i42, i52⟩ := hE2
        have g2 : ((wb = mr2) = False) ∧ ((mr2 = wb) = False) := ⟨eq_false i12, eq_false fun e => i12 e.symm⟩
        have um2 := fun (A : AH) (hA : Vm.look A mr2 = some (.map es2 cl2)) => hA
        simp (maxDischargeDepth := 16) only [argE_nil, argE_cons, ↓vmD, vmV, vmStd, Nat.reduceMul, ↓reduceIte, Nat.reduceAdd, Nat.reduceSub, Nat.reduceEqDiff, Nat.reduceLT, Nat.reduceLeDiff, reduceCtorEq, Int.reduceToNat, Int.reduceLT, Int.reduceLE, Int.reduceEq, Int.reduceNeg, Int.reduceBEq, Int.reduceBNe, String.reduceEq, forall_const, ↓vmDA, vmVA, ↓vmQA, vmR, vmRA, ↓vmSA, vmSV, tyS, nuE, digits03_v, isDate03_v, rreference_v, valueOf_v, rvalue_v, split_v, rsplit_v, g2]
        refine rA_update (t := 64) und_map und_str (by simp (maxDischargeDepth := 16) only [argE_nil, argE_cons, ↓vmD, vmV, vmStd, Nat.reduceMul, ↓reduceIte, Nat.reduceAdd, Nat.reduceSub, Nat.reduceEqDiff, Nat.reduceLT, Nat.reduceLeDiff, reduceCtorEq, Int.reduceToNat, Int.reduceLT, Int.reduceLE, Int.reduceEq, Int.reduceNeg, Int.reduceBEq, Int.reduceBNe, String.reduceEq, forall_const, ↓vmDA, vmVA, ↓vmQA, vmR, vmRA, ↓vmSA, vmSV, tyS, nuE, digits03_v, isDate03_v, rreference_v, valueOf_v, rvalue_v, split_v, rsplit_v, g2]; rfl) hm2 ?_
        intro es' cl' hm'
        have hnk : key ∉ keysL (remL x.key (remL key L)) := hnot
        rw [show updM (mapL (remL x.key (remL key L))) key (.agg #[.string val, .int .i64 at_]) = mapL ((remL x.key (remL key L)) ++ [⟨key, val, at_⟩]) from upd_mapL (x := ⟨key, val, at_⟩) hnk] at hm'
        intro ν3 fr3
        simp only [putB, g2, if_false, if_true] at fr3
        have fr := fr3
        have nw := fr.ne (b := wb) (by simp (maxDischargeDepth := 16) only [argE_nil, argE_cons, ↓vmD, vmV, vmStd, Nat.reduceMul, ↓reduceIte, Nat.reduceAdd, Nat.reduceSub, Nat.reduceEqDiff, Nat.reduceLT, Nat.reduceLeDiff, reduceCtorEq, Int.reduceToNat, Int.reduceLT, Int.reduceLE, Int.reduceEq, Int.reduceNeg, Int.reduceBEq, Int.reduceBNe, String.reduceEq, forall_const, ↓vmDA, vmVA, ↓vmQA, vmR, vmRA, ↓vmSA, vmSV, tyS, nuE, digits03_v, isDate03_v, rreference_v, valueOf_v, rvalue_v, split_v, rsplit_v, g2])
        have nuE := fr.nu
        simp (maxDischargeDepth := 16) only [argE_nil, argE_cons, ↓vmD, vmV, vmStd, Nat.reduceMul, ↓reduceIte, Nat.reduceAdd, Nat.reduceSub, Nat.reduceEqDiff, Nat.reduceLT, Nat.reduceLeDiff, reduceCtorEq, Int.reduceToNat, Int.reduceLT, Int.reduceLE, Int.reduceEq, Int.reduceNeg, Int.reduceBEq, Int.reduceBNe, String.reduceEq, forall_const, ↓vmDA, vmVA, ↓vmQA, vmR, vmRA, ↓vmSA, vmSV, tyS, nuE, digits03_v, isDate03_v, rreference_v, valueOf_v, rvalue_v, split_v, rsplit_v, g2, sc_str]
        have hlen : (keysL (remL x.key (remL key L))).length ≤ 256 := by rw [keysL_len]; exact i52
        have sK : SubA Bk2 ((ν3 0, .cells #[.string key] 9) :: (wb, .cells #[.int .i64 H, .map (some mr2), v2] 67) :: (mr2, .map es' cl') :: Bk2) := SubA.skip ((SubA.skip i22 (SubA.skip i32 (SubA.refl _))).none (fr.2 0)) (SubA.skip i22 (SubA.skip i32 (SubA.refl _)))
        refine RunA.use (append_src (m := 1) (news := [.string key]) slc65 zro9 rfl (by decide) ho2 sK (.inr ⟨_, 0, rfl, by simp (maxDischargeDepth := 16) only [argE_nil, argE_cons, ↓vmD, vmV, vmStd, Nat.reduceMul, ↓reduceIte, Nat.reduceAdd, Nat.reduceSub, Nat.reduceEqDiff, Nat.reduceLT, Nat.reduceLeDiff, reduceCtorEq, Int.reduceToNat, Int.reduceLT, Int.reduceLE, Int.reduceEq, Int.reduceNeg, Int.reduceBEq, Int.reduceBNe, String.reduceEq, forall_const, ↓vmDA, vmVA, ↓vmQA, vmR, vmRA, ↓vmSA, vmSV, tyS, nuE, digits03_v, isDate03_v, rreference_v, valueOf_v, rvalue_v, split_v, rsplit_v]⟩) (by simp [Value.oneCell']) (by simp [maxLen]; omega) (by omega) ?_)
        intro v' B' ho' hb'
        have hoL : OwnL strC 1 9 v' B' (keysL ((remL x.key (remL key L)) ++ [⟨key, val, at_⟩])) := by simpa [OwnL, keysL, strC] using ho'
        obtain ⟨pv, cv, rfl, _⟩ := OwnL.slice hoL
        have dB : Dis B' [(wb, .cells #[.int .i64 H, .map (some mr2), v2] 67), (mr2, .map es' cl')] := ap_dis hb' (dis2 i22 i32) (SubA.skip (by have := fr.2 0; exact look2 this) (SubA.left _ Bk2))
        refine ⟨[(wb, .cells #[.int .i64 H, .map (some mr2), v2] 67), (mr2, .map es' cl')] ++ (B' ++ Bk2), SubA.both (dB.sub (SubA.skip (by have := fr.2 0; exact look2 this) (SubA.left _ Bk2))) (SubA.app sK), ?_⟩
        intro ν4 fr4
        have fr := fr4
        have nuE := fr.nu
        simp only [List.cons_append, List.nil_append] at fr ⊢
        have b1 : Vm.look B' wb = none := dB wb (by simp [Vm.look])
        have b2 : Vm.look B' mr2 = none := dB mr2 (by simp [Vm.look, g2])
        simp (maxDischargeDepth := 16) only [argE_nil, argE_cons, ↓vmD, vmV, vmStd, Nat.reduceMul, ↓reduceIte, Nat.reduceAdd, Nat.reduceSub, Nat.reduceEqDiff, Nat.reduceLT, Nat.reduceLeDiff, reduceCtorEq, Int.reduceToNat, Int.reduceLT, Int.reduceLE, Int.reduceEq, Int.reduceNeg, Int.reduceBEq, Int.reduceBNe, String.reduceEq, forall_const, ↓vmDA, vmVA, ↓vmQA, vmR, vmRA, ↓vmSA, vmSV, tyS, nuE, digits03_v, isDate03_v, rreference_v, valueOf_v, rvalue_v, split_v, rsplit_v, g2]
        have e1 : seenV H key at_ L = .tuple #[.string ⟨#[]⟩, .bool false] := by unfold seenV; rw [hk]
        have e2 : seenL H key val at_ L = (remL x.key (remL key L)) ++ [⟨key, val, at_⟩] := by unfold seenL; rw [hk]; simp only [htrim]
        rw [e1, e2]
        refine ⟨rfl, _, ⟨mr2, _, es', cl', B', rfl, hm', hoL, i12, b1, b2, ?_, by simp; exact hl255⟩, SubA.both (X := [_, _]) (SubE.sub ⟨by simp (maxDischargeDepth := 16) only [argE_nil, argE_cons, ↓vmD, vmV, vmStd, Nat.reduceMul, ↓reduceIte, Nat.reduceAdd, Nat.reduceSub, Nat.reduceEqDiff, Nat.reduceLT, Nat.reduceLeDiff, reduceCtorEq, Int.reduceToNat, Int.reduceLT, Int.reduceLE, Int.reduceEq, Int.reduceNeg, Int.reduceBEq, Int.reduceBNe, String.reduceEq, forall_const, ↓vmDA, vmVA, ↓vmQA, vmR, vmRA, ↓vmSA, vmSV, tyS, nuE, digits03_v, isDate03_v, rreference_v, valueOf_v, rvalue_v, split_v, rsplit_v, g2], by simp (maxDischargeDepth := 16) only [argE_nil, argE_cons, ↓vmD, vmV, vmStd, Nat.reduceMul, ↓reduceIte, Nat.reduceAdd, Nat.reduceSub, Nat.reduceEqDiff, Nat.reduceLT, Nat.reduceLeDiff, reduceCtorEq, Int.reduceToNat, Int.reduceLT, Int.reduceLE, Int.reduceEq, Int.reduceNeg, Int.reduceBEq, Int.reduceBNe, String.reduceEq, forall_const, ↓vmDA, vmVA, ↓vmQA, vmR, vmRA, ↓vmSA, vmSV, tyS, nuE, digits03_v, isDate03_v, rreference_v, valueOf_v, rvalue_v, split_v, rsplit_v, g2], trivial⟩) (SubA.trans (SubA.left B' Bk2) (SubA.skip (by rw [look_append, b1]; exact i22) (SubA.skip (by rw [look_append, b2]; exact i32) (SubA.refl _)))), fun b hb => ?_⟩
        · simp only [keysL, List.map_append, List.map_cons, List.map_nil]
          rw [List.nodup_append]
          refine ⟨i42, by simp, fun x hx y hy => ?_⟩
          simp only [List.mem_singleton] at hy
          subst hy
          exact fun e => hnk (e ▸ hx)
        · have hq := hd2 b (hd1 b hb)
          simp only [Vm.look] at hq
          by_cases e1 : wb = b
          · rw [if_pos e1]; simp
          · by_cases e2 : mr2 = b
            · rw [if_neg e1, if_pos e2]; simp
            · rw [if_neg e1, if_neg e2] at hq ⊢
              rw [look_append]
              split
              · simp
              · exact hq
      · have c1 : ((256 : Int) ≤ ((keysL (remL key L)).length : Int)) = False := by rw [keysL_len]; exact eq_false (by omega)
        have g1 : ((wb = mr1) = False) ∧ ((mr1 = wb) = False) := ⟨eq_false i1, eq_false fun e => i1 e.symm⟩
        have htrim : trimL (remL key L) = remL key L := by unfold trimL; rw [if_neg hb]
        have hnot : key ∉ keysL (remL key L) := rem_not h4
        have hl255 : (remL key L).length ≤ 255 := by omega
        have i11 := i1
        have i21 := i2
        have i31 := i3
        have i41 := i4
        have i51 := i5
        have g1 : ((wb = mr1) = False) ∧ ((mr1 = wb) = False) := ⟨eq_false i11, eq_false fun e => i11 e.symm⟩
        have um1 := fun (A : AH) (hA : Vm.look A mr1 = some (.map es1 cl1)) => hA
        simp (maxDischargeDepth := 16) only [argE_nil, argE_cons, ↓vmD, vmV, vmStd, Nat.reduceMul, ↓reduceIte, Nat.reduceAdd, Nat.reduceSub, Nat.reduceEqDiff, Nat.reduceLT, Nat.reduceLeDiff, reduceCtorEq, Int.reduceToNat, Int.reduceLT, Int.reduceLE, Int.reduceEq, Int.reduceNeg, Int.reduceBEq, Int.reduceBNe, String.reduceEq, forall_const, ↓vmDA, vmVA, ↓vmQA, vmR, vmRA, ↓vmSA, vmSV, tyS, nuE, digits03_v, isDate03_v, rreference_v, valueOf_v, rvalue_v, split_v, rsplit_v, c1, g1]
        refine rA_update (t := 64) und_map und_str (by simp (maxDischargeDepth := 16) only [argE_nil, argE_cons, ↓vmD, vmV, vmStd, Nat.reduceMul, ↓reduceIte, Nat.reduceAdd, Nat.reduceSub, Nat.reduceEqDiff, Nat.reduceLT, Nat.reduceLeDiff, reduceCtorEq, Int.reduceToNat, Int.reduceLT, Int.reduceLE, Int.reduceEq, Int.reduceNeg, Int.reduceBEq, Int.reduceBNe, String.reduceEq, forall_const, ↓vmDA, vmVA, ↓vmQA, vmR, vmRA, ↓vmSA, vmSV, tyS, nuE, digits03_v, isDate03_v, rreference_v, valueOf_v, rvalue_v, split_v, rsplit_v, g1]; rfl) hm1 ?_
        intro es' cl' hm'
        have hnk : key ∉ keysL (remL key L) := hnot
        rw [show updM (mapL (remL key L)) key (.agg #[.string val, .int .i64 at_]) = mapL ((remL key L) ++ [⟨key, val, at_⟩]) from upd_mapL (x := ⟨key, val, at_⟩) hnk] at hm'
        intro ν3 fr3
        simp only [putB, g1, if_false, if_true] at fr3
        have fr := fr3
        have nw := fr.ne (b := wb) (by simp (maxDischargeDepth := 16) only [argE_nil, argE_cons, ↓vmD, vmV, vmStd, Nat.reduceMul, ↓reduceIte, Nat.reduceAdd, Nat.reduceSub, Nat.reduceEqDiff, Nat.reduceLT, Nat.reduceLeDiff, reduceCtorEq, Int.reduceToNat, Int.reduceLT, Int.reduceLE, Int.reduceEq, Int.reduceNeg, Int.reduceBEq, Int.reduceBNe, String.reduceEq, forall_const, ↓vmDA, vmVA, ↓vmQA, vmR, vmRA, ↓vmSA, vmSV, tyS, nuE, digits03_v, isDate03_v, rreference_v, valueOf_v, rvalue_v, split_v, rsplit_v, g1])
        have nuE := fr.nu
        simp (maxDischargeDepth := 16) only [argE_nil, argE_cons, ↓vmD, vmV, vmStd, Nat.reduceMul, ↓reduceIte, Nat.reduceAdd, Nat.reduceSub, Nat.reduceEqDiff, Nat.reduceLT, Nat.reduceLeDiff, reduceCtorEq, Int.reduceToNat, Int.reduceLT, Int.reduceLE, Int.reduceEq, Int.reduceNeg, Int.reduceBEq, Int.reduceBNe, String.reduceEq, forall_const, ↓vmDA, vmVA, ↓vmQA, vmR, vmRA, ↓vmSA, vmSV, tyS, nuE, digits03_v, isDate03_v, rreference_v, valueOf_v, rvalue_v, split_v, rsplit_v, g1, sc_str]
        have hlen : (keysL (remL key L)).length ≤ 256 := by rw [keysL_len]; exact i51
        have sK : SubA Bk1 ((ν3 0, .cells #[.string key] 9) :: (wb, .cells #[.int .i64 H, .map (some mr1), .slice p1 (keysL (remL key L)).length cap1] 67) :: (mr1, .map es' cl') :: Bk1) := SubA.skip ((SubA.skip i21 (SubA.skip i31 (SubA.refl _))).none (fr.2 0)) (SubA.skip i21 (SubA.skip i31 (SubA.refl _)))
        refine RunA.use (append_src (m := 1) (news := [.string key]) slc65 zro9 rfl (by decide) ho1 sK (.inr ⟨_, 0, rfl, by simp (maxDischargeDepth := 16) only [argE_nil, argE_cons, ↓vmD, vmV, vmStd, Nat.reduceMul, ↓reduceIte, Nat.reduceAdd, Nat.reduceSub, Nat.reduceEqDiff, Nat.reduceLT, Nat.reduceLeDiff, reduceCtorEq, Int.reduceToNat, Int.reduceLT, Int.reduceLE, Int.reduceEq, Int.reduceNeg, Int.reduceBEq, Int.reduceBNe, String.reduceEq, forall_const, ↓vmDA, vmVA, ↓vmQA, vmR, vmRA, ↓vmSA, vmSV, tyS, nuE, digits03_v, isDate03_v, rreference_v, valueOf_v, rvalue_v, split_v, rsplit_v]⟩) (by simp [Value.oneCell']) (by simp [maxLen]; omega) (by omega) ?_)
        intro v' B' ho' hb'
        have hoL : OwnL strC 1 9 v' B' (keysL ((remL key L) ++ [⟨key, val, at_⟩])) := by simpa [OwnL, keysL, strC] using ho'
        obtain ⟨pv, cv, rfl, _⟩ := OwnL.slice hoL
        have dB : Dis B' [(wb, .cells #[.int .i64 H, .map (some mr1), .slice p1 (keysL (remL key L)).length cap1] 67), (mr1, .map es' cl')] := ap_dis hb' (dis2 i21 i31) (SubA.skip (by have := fr.2 0; exact look2 this) (SubA.left _ Bk1))
        refine ⟨[(wb, .cells #[.int .i64 H, .map (some mr1), .slice p1 (keysL (remL key L)).length cap1] 67), (mr1, .map es' cl')] ++ (B' ++ Bk1), SubA.both (dB.sub (SubA.skip (by have := fr.2 0; exact look2 this) (SubA.left _ Bk1))) (SubA.app sK), ?_⟩
        intro ν4 fr4
        have fr := fr4
        have nuE := fr.nu
        simp only [List.cons_append, List.nil_append] at fr ⊢
        have b1 : Vm.look B' wb = none := dB wb (by simp [Vm.look])
        have b2 : Vm.look B' mr1 = none := dB mr1 (by simp [Vm.look, g1])
        simp (maxDischargeDepth := 16) only [argE_nil, argE_cons, ↓vmD, vmV, vmStd, Nat.reduceMul, ↓reduceIte, Nat.reduceAdd, Nat.reduceSub, Nat.reduceEqDiff, Nat.reduceLT, Nat.reduceLeDiff, reduceCtorEq, Int.reduceToNat, Int.reduceLT, Int.reduceLE, Int.reduceEq, Int.reduceNeg, Int.reduceBEq, Int.reduceBNe, String.reduceEq, forall_const, ↓vmDA, vmVA, ↓vmQA, vmR, vmRA, ↓vmSA, vmSV, tyS, nuE, digits03_v, isDate03_v, rreference_v, valueOf_v, rvalue_v, split_v, rsplit_v, g1]
        have e1 : seenV H key at_ L = .tuple #[.string ⟨#[]⟩, .bool false] := by unfold seenV; rw [hk]
        have e2 : seenL H key val at_ L = (remL key L) ++ [⟨key, val, at_⟩] := by unfold seenL; rw [hk]; simp only [htrim]
        rw [e1, e2]
        refine ⟨rfl, _, ⟨mr1, _, es', cl', B', rfl, hm', hoL, i11, b1, b2, ?_, by simp; exact hl255⟩, SubA.both (X := [_, _]) (SubE.sub ⟨by simp (maxDischargeDepth := 16) only [argE_nil, argE_cons, ↓vmD, vmV, vmStd, Nat.reduceMul, ↓reduceIte, Nat.reduceAdd, Nat.reduceSub, Nat.reduceEqDiff, Nat.reduceLT, Nat.reduceLeDiff, reduceCtorEq, Int.reduceToNat, Int.reduceLT, Int.reduceLE, Int.reduceEq, Int.reduceNeg, Int.reduceBEq, Int.reduceBNe, String.reduceEq, forall_const, ↓vmDA, vmVA, ↓vmQA, vmR, vmRA, ↓vmSA, vmSV, tyS, nuE, digits03_v, isDate03_v, rreference_v, valueOf_v, rvalue_v, split_v, rsplit_v, g1], by simp (maxDischargeDepth := 16) only [argE_nil, argE_cons, ↓vmD, vmV, vmStd, Nat.reduceMul, ↓reduceIte, Nat.reduceAdd, Nat.reduceSub, Nat.reduceEqDiff, Nat.reduceLT, Nat.reduceLeDiff, reduceCtorEq, Int.reduceToNat, Int.reduceLT, Int.reduceLE, Int.reduceEq, Int.reduceNeg, Int.reduceBEq, Int.reduceBNe, String.reduceEq, forall_const, ↓vmDA, vmVA, ↓vmQA, vmR, vmRA, ↓vmSA, vmSV, tyS, nuE, digits03_v, isDate03_v, rreference_v, valueOf_v, rvalue_v, split_v, rsplit_v, g1], trivial⟩) (SubA.trans (SubA.left B' Bk1) (SubA.skip (by rw [look_append, b1]; exact i21) (SubA.skip (by rw [look_append, b2]; exact i31) (SubA.refl _)))), fun b hb => ?_⟩
        · simp only [keysL, List.map_append, List.map_cons, List.map_nil]
          rw [List.nodup_append]
          refine ⟨i41, by simp, fun x hx y hy => ?_⟩
          simp only [List.mem_singleton] at hy
          subst hy
          exact fun e => hnk (e ▸ hx)
        · have hq := hd1 b hb
          simp only [Vm.look] at hq
          by_cases e1 : wb = b
          · rw [if_pos e1]; simp
          · by_cases e2 : mr1 = b
            · rw [if_neg e1, if_pos e2]; simp
            · rw [if_neg e1, if_neg e2] at hq ⊢
              rw [look_append]
              split
              · simp
              · exact hq
  | none =>
    have hk : keptE H at_ (getE key L) = none := by rw [hg]; rfl
    simp only [hg, Option.map_none, Option.getD_none, Option.isSome_none, if_true] at lk
    simp (maxDischargeDepth := 16) only [argE_nil, argE_cons, ↓vmD, vmV, vmStd, Nat.reduceMul, ↓reduceIte, Nat.reduceAdd, Nat.reduceSub, Nat.reduceEqDiff, Nat.reduceLT, Nat.reduceLeDiff, reduceCtorEq, Int.reduceToNat, Int.reduceLT, Int.reduceLE, Int.reduceEq, Int.reduceNeg, Int.reduceBEq, Int.reduceBNe, String.reduceEq, forall_const, ↓vmDA, vmVA, ↓vmQA, vmR, vmRA, ↓vmSA, vmSV, tyS, nuE, digits03_v, isDate03_v, rreference_v, valueOf_v, rvalue_v, split_v, rsplit_v, g0, nw, nm, lk, rm]
    refine CallA.use (removeW_h _ wb H L hE0 key) (SubA.skip (fr.2 0) (SubA.refl _)) (by
      rintro v D ⟨_, E', _, hs, hd⟩ b hb
      exact dom_win hs b (hd b hb)) [] (SubA.nil _) (fun x hx => absurd rfl hx) ?_
    rintro u D ⟨rfl, E1, hE1, hs1, hd1⟩ _
    refine ⟨E1, hs1, ?_⟩
    rw [List.append_nil]
    intro ν1 fr1
    obtain ⟨mr1, v1, es1, cl1, Bk1, rfl, hm1, ho1, i1, i2, i3, i4, i5⟩ := hE1
    obtain ⟨p1, cap1, rfl, hcap1, hS1⟩ := ho1.read str_len
    have hl1 : (remL key L).length ≤ 256 := Nat.le_trans (rem_len _ _) h5
    by_cases hb : 256 ≤ (remL key L).length
    · have c1 : ((256 : Int) ≤ ((keysL (remL key L)).length : Int)) = True := by rw [keysL_len]; exact eq_true (by omega)
      obtain ⟨x, l, hxl⟩ : ∃ x l, remL key L = x :: l := by
        cases hx : remL key L with
        | nil => rw [hx] at hb; simp at hb
        | cons x l => exact ⟨x, l, rfl⟩
      have hx0 : (keysL (remL key L))[0]? = some x.key := by rw [hxl]; rfl
      obtain ⟨b, off, cs, ty, fr0, hp0, hbk, hc, hcc⟩ := hS1.at hx0
      subst hp0
      have c2 : cs[off]? = some (.string x.key) := by simpa using hcc 0 _ rfl
      have c3 : ((0 : Int) < ((keysL (remL key L)).length : Int)) = True := by rw [keysL_len]; exact eq_true (by omega)
      have gw : ((wb = b) = False) ∧ ((b = wb) = False) := look_ne i2 hbk
      have gm : ((mr1 = b) = False) ∧ ((b = mr1) = False) := look_ne i3 hbk
      have g1 : ((wb = mr1) = False) ∧ ((mr1 = wb) = False) := ⟨eq_false i1, eq_false fun e => i1 e.symm⟩
      have hE1' : WinE _ wb H (remL key L) := ⟨mr1, _, es1, cl1, Bk1, rfl, hm1, ho1, i1, i2, i3, i4, i5⟩
      simp (maxDischargeDepth := 16) only [argE_nil, argE_cons, ↓vmD, vmV, vmStd, Nat.reduceMul, ↓reduceIte, Nat.reduceAdd, Nat.reduceSub, Nat.reduceEqDiff, Nat.reduceLT, Nat.reduceLeDiff, reduceCtorEq, Int.reduceToNat, Int.reduceLT, Int.reduceLE, Int.reduceEq, Int.reduceNeg, Int.reduceBEq, Int.reduceBNe, String.reduceEq, forall_const, ↓vmDA, vmVA, ↓vmQA, vmR, vmRA, ↓vmSA, vmSV, tyS, nuE, digits03_v, isDate03_v, rreference_v, valueOf_v, rvalue_v, split_v, rsplit_v, c1, c3, g1, gw, gm, hbk, c2, Nat.zero_mul, Nat.add_zero]
      refine CallA.use (removeW_h _ wb H _ hE1' x.key) (SubA.refl _) (by
        rintro v D ⟨_, E', _, hs, hd⟩ b hb
        exact dom_win hs b (hd b hb)) [] (SubA.nil _) (fun x hx => absurd rfl hx) ?_
      rintro u D ⟨rfl, E2, hE2, hs2, hd2⟩ _
      refine ⟨E2, hs2, ?_⟩
      rw [List.append_nil]
      intro ν2 fr2
      have htrim : trimL (remL key L) = remL x.key (remL key L) := by unfold trimL; rw [if_pos hb, rem_head hxl]
      have hnot : key ∉ keysL (remL x.key (remL key L)) := by rw [← htrim]; exact trim_not (rem_not h4)
      have hl255 : (remL x.key (remL key L)).length ≤ 255 := by rw [rem_head hxl]; simp; omega
      obtain ⟨mr2, v2, es2, cl2, Bk2, rfl, hm2, ho2, i12, i22, i32, i42, i52⟩ := hE2
      have g2 : ((wb = mr2) = False) ∧ ((mr2 = wb) = False) := ⟨eq_false i12, eq_false fun e => i12 e.symm⟩
      have um2 := fun (A : AH) (hA : Vm.look A mr2 = some (.map es2 cl2)) => hA
      simp (maxDischargeDepth := 16) only [argE_nil, argE_cons, ↓vmD, vmV, vmStd, Nat.reduceMul, ↓reduceIte, Nat.reduceAdd, Nat.reduceSub, Nat.reduceEqDiff, Nat.reduceLT, Nat.reduceLeDiff, reduceCtorEq, Int.reduceToNat, Int.reduceLT, Int.reduceLE, Int.reduceEq, Int.reduceNeg, Int.reduceBEq, Int.reduceBNe, String.reduceEq, forall_const, ↓vmDA, vmVA, ↓vmQA, vmR, vmRA, ↓vmSA, vmSV, tyS, nuE, digits03_v, isDate03_v, rreference_v, valueOf_v, rvalue_v, split_v, rsplit_v, g2]
      refine rA_update (t := 64) und_map und_str (by simp (maxDischargeDepth := 16) only [argE_nil, argE_cons, ↓vmD, vmV, vmStd, Nat.reduceMul, ↓reduceIte, Nat.reduceAdd, Nat.reduceSub, Nat.reduceEqDiff, Nat.reduceLT, Nat.reduceLeDiff, reduceCtorEq, Int.reduceToNat, Int.reduceLT, Int.reduceLE, Int.reduceEq, Int.reduceNeg, Int.reduceBEq, Int.reduceBNe, String.reduceEq, forall_const, ↓vmDA, vmVA, ↓vmQA, vmR, vmRA, ↓vmSA, vmSV, tyS, nuE, digits03_v, isDate03_v, rreference_v, valueOf_v, rvalue_v, split_v, rsplit_v, g2]; rfl) hm2 ?_
      intro es' cl' hm'
      have hnk : key ∉ keysL (remL x.key (remL key L)) := hnot
      rw [show updM (mapL (remL x.key (remL key L))) key (.agg #[.string val, .int .i64 at_]) = mapL ((remL x.key (remL key L)) ++ [⟨key, val, at_⟩]) from upd_mapL (x := ⟨key, val, at_⟩) hnk] at hm'
      intro ν3 fr3
      simp only [putB, g2, if_false, if_true] at fr3
      have fr := fr3
      have nw := fr.ne (b := wb) (by simp (maxDischargeDepth := 16) only [argE_nil, argE_cons, ↓vmD, vmV, vmStd, Nat.reduceMul, ↓reduceIte, Nat.reduceAdd, Nat.reduceSub, Nat.reduceEqDiff, Nat.reduceLT, Nat.reduceLeDiff, reduceCtorEq, Int.reduceToNat, Int.reduceLT, Int.reduceLE, Int.reduceEq, Int.reduceNeg, Int.reduceBEq, Int.reduceBNe, String.reduceEq, forall_const, ↓vmDA, vmVA, ↓vmQA, vmR, vmRA, ↓vmSA, vmSV, tyS, nuE, digits03_v, isDate03_v, rreference_v, valueOf_v, rvalue_v, split_v, rsplit_v, g2])
      have nuE := fr.nu
      simp (maxDischargeDepth := 16) only [argE_nil, argE_cons, ↓vmD, vmV, vmStd, Nat.reduceMul, ↓reduceIte, Nat.reduceAdd, Nat.reduceSub, Nat.reduceEqDiff, Nat.reduceLT, Nat.reduceLeDiff, reduceCtorEq, Int.reduceToNat, Int.reduceLT, Int.reduceLE, Int.reduceEq, Int.reduceNeg, Int.reduceBEq, Int.reduceBNe, String.reduceEq, forall_const, ↓vmDA, vmVA, ↓vmQA, vmR, vmRA, ↓vmSA, vmSV, tyS, nuE, digits03_v, isDate03_v, rreference_v, valueOf_v, rvalue_v, split_v, rsplit_v, g2, sc_str]
      have hlen : (keysL (remL x.key (remL key L))).length ≤ 256 := by rw [keysL_len]; exact i52
      have sK : SubA Bk2 ((ν3 0, .cells #[.string key] 9) :: (wb, .cells #[.int .i64 H, .map (some mr2), v2] 67) :: (mr2, .map es' cl') :: Bk2) := SubA.skip ((SubA.skip i22 (SubA.skip i32 (SubA.refl _))).none (fr.2 0)) (SubA.skip i22 (SubA.skip i32 (SubA.refl _)))
      refine RunA.use (append_src (m := 1) (news := [.string key]) slc65 zro9 rfl (by decide) ho2 sK (.inr ⟨_, 0, rfl, by simp (maxDischargeDepth := 16) only [argE_nil, argE_cons, ↓vmD, vmV, vmStd, Nat.reduceMul, ↓reduceIte, Nat.reduceAdd, Nat.reduceSub, Nat.reduceEqDiff, Nat.reduceLT, Nat.reduceLeDiff, reduceCtorEq, Int.reduceToNat, Int.reduceLT, Int.reduceLE, Int.reduceEq, Int.reduceNeg, Int.reduceBEq, Int.reduceBNe, String.reduceEq, forall_const, ↓vmDA, vmVA, ↓vmQA, vmR, vmRA, ↓vmSA, vmSV, tyS, nuE, digits03_v, isDate03_v, rreference_v, valueOf_v, rvalue_v, split_v, rsplit_v]⟩) (by simp [Value.oneCell']) (by simp [maxLen]; omega) (by omega) ?_)
      intro v' B' ho' hb'
      have hoL : OwnL strC 1 9 v' B' (keysL ((remL x.key (remL key L)) ++ [⟨key, val, at_⟩])) := by simpa [OwnL, keysL, strC] using ho'
      obtain ⟨pv, cv, rfl, _⟩ := OwnL.slice hoL
      have dB : Dis B' [(wb, .cells #[.int .i64 H, .map (some mr2), v2] 67), (mr2, .map es' cl')] := ap_dis hb' (dis2 i22 i32) (SubA.skip (by have := fr.2 0; exact look2 this) (SubA.left _ Bk2))
      refine ⟨[(wb, .cells #[.int .i64 H, .map (some mr2), v2] 67), (mr2, .map es' cl')] ++ (B' ++ Bk2), SubA.both (dB.sub (SubA.skip (by have := fr.2 0; exact look2 this) (SubA.left _ Bk2))) (SubA.app sK), ?_⟩
      intro ν4 fr4
      have fr := fr4
      have nuE := fr.nu
      simp only [List.cons_append, List.nil_append] at fr ⊢
      have b1 : Vm.look B' wb = none := dB wb (by simp [Vm.look])
      have b2 : Vm.look B' mr2 = none := dB mr2 (by simp [Vm.look, g2])
      simp (maxDischargeDepth := 16) only [argE_nil, argE_cons, ↓vmD, vmV, vmStd, Nat.reduceMul, ↓reduceIte, Nat.reduceAdd, Nat.reduceSub, Nat.reduceEqDiff, Nat.reduceLT, Nat.reduceLeDiff, reduceCtorEq, Int.reduceToNat, Int.reduceLT, Int.reduceLE, Int.reduceEq, Int.reduceNeg, Int.reduceBEq, Int.reduceBNe, String.reduceEq, forall_const, ↓vmDA, vmVA, ↓vmQA, vmR, vmRA, ↓vmSA, vmSV, tyS, nuE, digits03_v, isDate03_v, rreference_v, valueOf_v, rvalue_v, split_v, rsplit_v, g2]
      have e1 : seenV H key at_ L = .tuple #[.string ⟨#[]⟩, .bool false] := by unfold seenV; rw [hk]
      have e2 : seenL H key val at_ L = (remL x.key (remL key L)) ++ [⟨key, val, at_⟩] := by unfold seenL; rw [hk]; simp only [htrim]
      rw [e1, e2]
      refine ⟨rfl, _, ⟨mr2, _, es', cl', B', rfl, hm', hoL, i12, b1, b2, ?_, by simp; exact hl255⟩, SubA.both (X := [_, _]) (SubE.sub ⟨by simp (maxDischargeDepth := 16) only [argE_nil, argE_cons, ↓vmD, vmV, vmStd, Nat.reduceMul, ↓reduceIte, Nat.reduceAdd, Nat.reduceSub, Nat.reduceEqDiff, Nat.reduceLT, Nat.reduceLeDiff, reduceCtorEq, Int.reduceToNat, Int.reduceLT, Int.reduceLE, Int.reduceEq, Int.reduceNeg, Int.reduceBEq, Int.reduceBNe, String.reduceEq, forall_const, ↓vmDA, vmVA, ↓vmQA, vmR, vmRA, ↓vmSA, vmSV, tyS, nuE, digits03_v, isDate03_v, rreference_v, valueOf_v, rvalue_v, split_v, rsplit_v, g2], by simp (maxDischargeDepth := 16) only [argE_nil, argE_cons, ↓vmD, vmV, vmStd, Nat.reduceMul, ↓reduceIte, Nat.reduceAdd, Nat.reduceSub, Nat.reduceEqDiff, Nat.reduceLT, Nat.reduceLeDiff, reduceCtorEq, Int.reduceToNat, Int.reduceLT, Int.reduceLE, Int.reduceEq, Int.reduceNeg, Int.reduceBEq, Int.reduceBNe, String.reduceEq, forall_const, ↓vmDA, vmVA, ↓vmQA, vmR, vmRA, ↓vmSA, vmSV, tyS, nuE, digits03_v, isDate03_v, rreference_v, valueOf_v, rvalue_v, split_v, rsplit_v, g2], trivial⟩) (SubA.trans (SubA.left B' Bk2) (SubA.skip (by rw [look_append, b1]; exact i22) (SubA.skip (by rw [look_append, b2]; exact i32) (SubA.refl _)))), fun b hb => ?_⟩
      · simp only [keysL, List.map_append, List.map_cons, List.map_nil]
        rw [List.nodup_append]
        refine ⟨i42, by simp, fun x hx y hy => ?_⟩
        simp only [List.mem_singleton] at hy
        subst hy
        exact fun e => hnk (e ▸ hx)
      · have hq := hd2 b (hd1 b hb)
        simp only [Vm.look] at hq
        by_cases e1 : wb = b
        · rw [if_pos e1]; simp
        · by_cases e2 : mr2 = b
          · rw [if_neg e1, if_pos e2]; simp
          · rw [if_neg e1, if_neg e2] at hq ⊢
            rw [look_append]
            split
            · simp
            · exact hq
    · have c1 : ((256 : Int) ≤ ((keysL (remL key L)).length : Int)) = False := by rw [keysL_len]; exact eq_false (by omega)
      have g1 : ((wb = mr1) = False) ∧ ((mr1 = wb) = False) := ⟨eq_false i1, eq_false fun e => i1 e.symm⟩
      have htrim : trimL (remL key L) = remL key L := by unfold trimL; rw [if_neg hb]
      have hnot : key ∉ keysL (remL key L) := rem_not h4
      have hl255 : (remL key L).length ≤ 255 := by omega
      have i11 := i1
      have i21 := i2
      have i31 := i3
      have i41 := i4
      have i51 := i5
      have g1 : ((wb = mr1) = False) ∧ ((mr1 = wb) = False) := ⟨eq_false i11, eq_false fun e => i11 e.symm⟩
      have um1 := fun (A : AH) (hA : Vm.look A mr1 = some (.map es1 cl1)) => hA
      simp (maxDischargeDepth := 16) only [argE_nil, argE_cons, ↓vmD, vmV, vmStd, Nat.reduceMul, ↓reduceIte, Nat.reduceAdd, Nat.reduceSub, Nat.reduceEqDiff, Nat.reduceLT, Nat.reduceLeDiff, reduceCtorEq, Int.reduceToNat, Int.reduceLT, Int.reduceLE, Int.reduceEq, Int.reduceNeg, Int.reduceBEq, Int.reduceBNe, String.reduceEq, forall_const, ↓vmDA, vmVA, ↓vmQA, vmR, vmRA, ↓vmSA, vmSV, tyS, nuE, digits03_v, isDate03_v, rreference_v, valueOf_v, rvalue_v, split_v, rsplit_v, c1, g1]
      refine rA_update (t := 64) und_map und_str (by simp (maxDischargeDepth := 16) only [argE_nil, argE_cons, ↓vmD, vmV, vmStd, Nat.reduceMul, ↓reduceIte, Nat.reduceAdd, Nat.reduceSub, Nat.reduceEqDiff, Nat.reduceLT, Nat.reduceLeDiff, reduceCtorEq, Int.reduceToNat, Int.reduceLT, Int.reduceLE, Int.reduceEq, Int.reduceNeg, Int.reduceBEq, Int.reduceBNe, String.reduceEq, forall_const, ↓vmDA, vmVA, ↓vmQA, vmR, vmRA, ↓vmSA, vmSV, tyS, nuE, digits03_v, isDate03_v, rreference_v, valueOf_v, rvalue_v, split_v, rsplit_v, g1]; rfl) hm1 ?_
      intro es' cl' hm'
      have hnk : key ∉ keysL (remL key L) := hnot
      rw [show updM (mapL (remL key L)) key (.agg #[.string val, .int .i64 at_]) = mapL ((remL key L) ++ [⟨key, val, at_⟩]) from upd_mapL (x := ⟨key, val, at_⟩) hnk] at hm'
      intro ν3 fr3
      simp only [putB, g1, if_false, if_true] at fr3
      have fr := fr3
      have nw := fr.ne (b := wb) (by simp (maxDischargeDepth := 16) only [argE_nil, argE_cons, ↓vmD, vmV, vmStd, Nat.reduceMul, ↓reduceIte, Nat.reduceAdd, Nat.reduceSub, Nat.reduceEqDiff, Nat.reduceLT, Nat.reduceLeDiff, reduceCtorEq, Int.reduceToNat, Int.reduceLT, Int.reduceLE, Int.reduceEq, Int.reduceNeg, Int.reduceBEq, Int.reduceBNe, String.reduceEq, forall_const, ↓vmDA, vmVA, ↓vmQA, vmR, vmRA, ↓vmSA, vmSV, tyS, nuE, digits03_v, isDate03_v, rreference_v, valueOf_v, rvalue_v, split_v, rsplit_v, g1])
      have nuE := fr.nu
      simp (maxDischargeDepth := 16) only [argE_nil, argE_cons, ↓vmD, vmV, vmStd, Nat.reduceMul, ↓reduceIte, Nat.reduceAdd, Nat.reduceSub, Nat.reduceEqDiff, Nat.reduceLT, Nat.reduceLeDiff, reduceCtorEq, Int.reduceToNat, Int.reduceLT, Int.reduceLE, Int.reduceEq, Int.reduceNeg, Int.reduceBEq, Int.reduceBNe, String.reduceEq, forall_const, ↓vmDA, vmVA, ↓vmQA, vmR, vmRA, ↓vmSA, vmSV, tyS, nuE, digits03_v, isDate03_v, rreference_v, valueOf_v, rvalue_v, split_v, rsplit_v, g1, sc_str]
      have hlen : (keysL (remL key L)).length ≤ 256 := by rw [keysL_len]; exact i51
      have sK : SubA Bk1 ((ν3 0, .cells #[.string key] 9) :: (wb, .cells #[.int .i64 H, .map (some mr1), .slice p1 (keysL (remL key L)).length cap1] 67) :: (mr1, .map es' cl') :: Bk1) := SubA.skip ((SubA.skip i21 (SubA.skip i31 (SubA.refl _))).none (fr.2 0)) (SubA.skip i21 (SubA.skip i31 (SubA.refl _)))
      refine RunA.use (append_src (m := 1) (news := [.string key]) slc65 zro9 rfl (by decide) ho1 sK (.inr ⟨_, 0, rfl, by simp (maxDischargeDepth := 16) only [argE_nil, argE_cons, ↓vmD, vmV, vmStd, Nat.reduceMul, ↓reduceIte, Nat.reduceAdd, Nat.reduceSub, Nat.reduceEqDiff, Nat.reduceLT, Nat.reduceLeDiff, reduceCtorEq, Int.reduceToNat, Int.reduceLT, Int.reduceLE, Int.reduceEq, Int.reduceNeg, Int.reduceBEq, Int.reduceBNe, String.reduceEq, forall_const, ↓vmDA, vmVA, ↓vmQA, vmR, vmRA, ↓vmSA, vmSV, tyS, nuE, digits03_v, isDate03_v, rreference_v, valueOf_v, rvalue_v, split_v, rsplit_v]⟩) (by simp [Value.oneCell']) (by simp [maxLen]; omega) (by omega) ?_)
      intro v' B' ho' hb'
      have hoL : OwnL strC 1 9 v' B' (keysL ((remL key L) ++ [⟨key, val, at_⟩])) := by simpa [OwnL, keysL, strC] using ho'
      obtain ⟨pv, cv, rfl, _⟩ := OwnL.slice hoL
      have dB : Dis B' [(wb, .cells #[.int .i64 H, .map (some mr1), .slice p1 (keysL (remL key L)).length cap1] 67), (mr1, .map es' cl')] := ap_dis hb' (dis2 i21 i31) (SubA.skip (by have := fr.2 0; exact look2 this) (SubA.left _ Bk1))
      refine ⟨[(wb, .cells #[.int .i64 H, .map (some mr1), .slice p1 (keysL (remL key L)).length cap1] 67), (mr1, .map es' cl')] ++ (B' ++ Bk1), SubA.both (dB.sub (SubA.skip (by have := fr.2 0; exact look2 this) (SubA.left _ Bk1))) (SubA.app sK), ?_⟩
      intro ν4 fr4
      have fr := fr4
      have nuE := fr.nu
      simp only [List.cons_append, List.nil_append] at fr ⊢
      have b1 : Vm.look B' wb = none := dB wb (by simp [Vm.look])
      have b2 : Vm.look B' mr1 = none := dB mr1 (by simp [Vm.look, g1])
      simp (maxDischargeDepth := 16) only [argE_nil, argE_cons, ↓vmD, vmV, vmStd, Nat.reduceMul, ↓reduceIte, Nat.reduceAdd, Nat.reduceSub, Nat.reduceEqDiff, Nat.reduceLT, Nat.reduceLeDiff, reduceCtorEq, Int.reduceToNat, Int.reduceLT, Int.reduceLE, Int.reduceEq, Int.reduceNeg, Int.reduceBEq, Int.reduceBNe, String.reduceEq, forall_const, ↓vmDA, vmVA, ↓vmQA, vmR, vmRA, ↓vmSA, vmSV, tyS, nuE, digits03_v, isDate03_v, rreference_v, valueOf_v, rvalue_v, split_v, rsplit_v, g1]
      have e1 : seenV H key at_ L = .tuple #[.string ⟨#[]⟩, .bool false] := by unfold seenV; rw [hk]
      have e2 : seenL H key val at_ L = (remL key L) ++ [⟨key, val, at_⟩] := by unfold seenL; rw [hk]; simp only [htrim]
      rw [e1, e2]
      refine ⟨rfl, _, ⟨mr1, _, es', cl', B', rfl, hm', hoL, i11, b1, b2, ?_, by simp; exact hl255⟩, SubA.both (X := [_, _]) (SubE.sub ⟨by simp (maxDischargeDepth := 16) only [argE_nil, argE_cons, ↓vmD, vmV, vmStd, Nat.reduceMul, ↓reduceIte, Nat.reduceAdd, Nat.reduceSub, Nat.reduceEqDiff, Nat.reduceLT, Nat.reduceLeDiff, reduceCtorEq, Int.reduceToNat, Int.reduceLT, Int.reduceLE, Int.reduceEq, Int.reduceNeg, Int.reduceBEq, Int.reduceBNe, String.reduceEq, forall_const, ↓vmDA, vmVA, ↓vmQA, vmR, vmRA, ↓vmSA, vmSV, tyS, nuE, digits03_v, isDate03_v, rreference_v, valueOf_v, rvalue_v, split_v, rsplit_v, g1], by simp (maxDischargeDepth := 16) only [argE_nil, argE_cons, ↓vmD, vmV, vmStd, Nat.reduceMul, ↓reduceIte, Nat.reduceAdd, Nat.reduceSub, Nat.reduceEqDiff, Nat.reduceLT, Nat.reduceLeDiff, reduceCtorEq, Int.reduceToNat, Int.reduceLT, Int.reduceLE, Int.reduceEq, Int.reduceNeg, Int.reduceBEq, Int.reduceBNe, String.reduceEq, forall_const, ↓vmDA, vmVA, ↓vmQA, vmR, vmRA, ↓vmSA, vmSV, tyS, nuE, digits03_v, isDate03_v, rreference_v, valueOf_v, rvalue_v, split_v, rsplit_v, g1], trivial⟩) (SubA.trans (SubA.left B' Bk1) (SubA.skip (by rw [look_append, b1]; exact i21) (SubA.skip (by rw [look_append, b2]; exact i31) (SubA.refl _)))), fun b hb => ?_⟩
      · simp only [keysL, List.map_append, List.map_cons, List.map_nil]
        rw [List.nodup_append]
        refine ⟨i41, by simp, fun x hx y hy => ?_⟩
        simp only [List.mem_singleton] at hy
        subst hy
        exact fun e => hnk (e ▸ hx)
      · have hq := hd1 b hb
        simp only [Vm.look] at hq
        by_cases e1 : wb = b
        · rw [if_pos e1]; simp
        · by_cases e2 : mr1 = b
          · rw [if_neg e1, if_pos e2]; simp
          · rw [if_neg e1, if_neg e2] at hq ⊢
            rw [look_append]
            split
            · simp
            · exact hq

end Go.Proofs.YthmkhmgmoflmkaaDoor
