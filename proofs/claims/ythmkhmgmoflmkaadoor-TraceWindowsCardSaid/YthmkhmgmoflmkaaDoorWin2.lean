/-
Trace: the window: remove, Seen.
Conditions: none.
-/
import Derived.Test.YthmkhmgmoflmkaaDoorWin
namespace Go.Proofs.YthmkhmgmoflmkaaDoor
open Go.Vm
set_option linter.unusedSimpArgs false
set_option linter.unusedVariables false
set_option maxHeartbeats 2000000
set_option maxRecDepth 20000
theorem und_map : Tryd.prog.underlying 64 = some (.map 9 69) := by kernel_rfl
theorem und_str : Tryd.prog.underlying 9 = some .string := by kernel_rfl
structure En where
  key : ByteArray
  val : ByteArray
  tm : Int
def recC (x : En) : Value := .agg #[.string x.val, .int .i64 x.tm]
def mapL (L : List En) : SMap := L.map fun x => (x.key, recC x)
def keysL (L : List En) : List ByteArray := L.map (·.key)
def remB (H t at_ : Int) : Bool := decide (at_ ≤ t) || decide (IntKind.u64.wrap (IntKind.u64.wrap at_ - IntKind.u64.wrap t) < IntKind.u64.wrap H)
theorem remembers_h (A : AH) (wb : Nat) (H t at_ : Int) (m v : Value) (s : ByteArray) (e : TypeId) (fr0 : Nat × Nat) (hw : Vm.look A wb = some (.cells #[.int .i64 H, m, v] e fr0)) : CallA Tryd.prog 31 #[.pointer (some ⟨wb, 0, none⟩), .agg #[.string s, .int .i64 t], .int .i64 at_] A (fun u_ A_ => u_ = .bool (remB H t at_) ∧ SubA A A_) := by
  refine callA_of_denA ⟨Tryd.prog, 31, Tryd.f31, 23, [0, 1, 2, 4, 6], [], [(3, .q false)], _⟩ (args := [_, _, _]) Tryd.func31 rfl (by kernel_rfl) Tryd.ntmps31 (by simp) (by kernel_rfl) ?_
  intro ν fr; have nuE := fr.nu
  have k0 := look_ne (fr.2 0) hw
  by_cases h : at_ ≤ t
  · simp (maxDischargeDepth := 16) only [argE_nil, argE_cons, ↓vmD, vmV, vmStd, Nat.reduceMul, ↓reduceIte, Nat.reduceAdd, Nat.reduceSub, Nat.reduceEqDiff, Nat.reduceLT, Nat.reduceLeDiff, reduceCtorEq, Int.reduceToNat, Int.reduceLT, Int.reduceLE, Int.reduceEq, Int.reduceNeg, Int.reduceBEq, Int.reduceBNe, String.reduceEq, forall_const, ↓vmDA, vmVA, ↓vmQA, vmR, vmRA, ↓vmSA, vmSV, tyS, nuE, SubA.skip, SubA.refl, fr.2, digits03_v, isDate03_v, rreference_v, valueOf_v, rvalue_v, split_v, rsplit_v, h, remB]
  · simp (maxDischargeDepth := 16) only [argE_nil, argE_cons, ↓vmD, vmV, vmStd, Nat.reduceMul, ↓reduceIte, Nat.reduceAdd, Nat.reduceSub, Nat.reduceEqDiff, Nat.reduceLT, Nat.reduceLeDiff, reduceCtorEq, Int.reduceToNat, Int.reduceLT, Int.reduceLE, Int.reduceEq, Int.reduceNeg, Int.reduceBEq, Int.reduceBNe, String.reduceEq, forall_const, ↓vmDA, vmVA, ↓vmQA, vmR, vmRA, ↓vmSA, vmSV, tyS, nuE, SubA.skip, SubA.refl, fr.2, digits03_v, isDate03_v, rreference_v, valueOf_v, rvalue_v, split_v, rsplit_v, h, hw, k0, remB]
theorem remembers_w (A : AH) (wb : Nat) (H t at_ : Int) (m v : Value) (s : ByteArray) (e : TypeId) (fr0 : Nat × Nat) (hw : Vm.look A wb = some (.cells #[.int .i64 H, m, v] e fr0)) (B_ : AH) (hB_ : SubA A B_) : valA Tryd.prog 31 #[.pointer (some ⟨wb, 0, none⟩), .agg #[.string s, .int .i64 t], .int .i64 at_] B_ = some (.bool (remB H t at_)) := valA_eq (pureA_at (by kernel_rfl) (remembers_h A wb H t at_ m v s e fr0 hw) hB_)
theorem remembers_v (A : AH) (wb : Nat) (H t at_ : Int) (m v : Value) (s : ByteArray) (e : TypeId) (fr0 : Nat × Nat) (hw : Vm.look A wb = some (.cells #[.int .i64 H, m, v] e fr0)) : valA Tryd.prog 31 #[.pointer (some ⟨wb, 0, none⟩), .agg #[.string s, .int .i64 t], .int .i64 at_] A = some (.bool (remB H t at_)) := valA_eq (pureA_at (by kernel_rfl) (remembers_h A wb H t at_ m v s e fr0 hw) (SubA.refl _))
/-- A window lies here: its fields, its map, the row of its keys. -/
def WinE (E : AH) (wb : Nat) (H : Int) (L : List En) : Prop := ∃ (mr : Nat) (v : Value) (es : Array MapEntry) (cl : Nat) (Bk : AH),
  E = (wb, .cells #[.int .i64 H, .map (some mr), v] 67) :: (mr, .map es cl) :: Bk ∧ MapIs es (mapL L) ∧ OwnL strC 1 9 v Bk (keysL L) ∧ wb ≠ mr ∧ Vm.look Bk wb = none ∧ Vm.look Bk mr = none ∧ (keysL L).Nodup ∧ L.length ≤ 256
def remL (key : ByteArray) (L : List En) : List En := match posS key (keysL L) with | some i => L.eraseIdx i | none => L
theorem posS_lt : ∀ {key : ByteArray} {l : List ByteArray} {i : Nat}, posS key l = some i → l[i]? = some key
  | _, [], _, h => by cases h
  | key, a :: l, i, h => by
    simp only [posS] at h
    split at h
    · rename_i e; cases h; simp [e]
    · cases hp : posS key l with
      | none => rw [hp] at h; cases h
      | some j =>
        rw [hp] at h
        cases h
        simpa using posS_lt hp
theorem posS_none : ∀ {key : ByteArray} {l : List ByteArray}, posS key l = none → key ∉ l
  | _, [], _ => by simp
  | key, a :: l, h => by
    simp only [posS] at h
    split at h
    · cases h
    · rename_i hne
      cases hp : posS key l with
      | some j => rw [hp] at h; cases h
      | none =>
        have := posS_none hp
        simp [this]
        exact fun e => hne e.symm
theorem posM_map : ∀ (L : List En) (key : ByteArray), posM (mapL L) key = match posS key (keysL L) with | some i => (L[i]?).map fun x => (i, recC x) | none => none
  | [], _ => rfl
  | x :: L, key => by
    have ih := posM_map L key
    simp only [mapL, keysL, List.map_cons, posM, posS] at ih ⊢
    split
    · rename_i e; rw [if_pos e.symm]; rfl
    · rename_i e
      rw [if_neg (fun h => e h.symm), ih]
      cases posS key (L.map (·.key)) with
      | none => rfl
      | some i => cases hx : L[i]? <;> simp [hx]
theorem del_mapL (L : List En) (key : ByteArray) : delM (mapL L) key = mapL (remL key L) := by
  unfold delM remL
  rw [posM_map]
  cases hp : posS key (keysL L) with
  | none => rfl
  | some i =>
    have hlt := (List.getElem?_eq_some_iff.1 (posS_lt hp)).1
    have hlt : i < L.length := by simpa [keysL] using hlt
    simp only [List.getElem?_eq_getElem hlt, Option.map_some]
    simp [mapL, map_erase]
theorem keys_rem (key : ByteArray) (L : List En) : keysL (remL key L) = match posS key (keysL L) with | some i => (keysL L).eraseIdx i | none => keysL L := by
  unfold remL
  cases hp : posS key (keysL L) with
  | none => simp
  | some i => simp [keysL, map_erase]
theorem keysL_len (L : List En) : (keysL L).length = L.length := by simp [keysL]
theorem rem_len (key : ByteArray) (L : List En) : (remL key L).length ≤ L.length := by
  unfold remL
  split
  · simp [List.length_eraseIdx]; split <;> omega
  · exact Nat.le_refl _
theorem rem_nodup {key : ByteArray} {L : List En} (h : (keysL L).Nodup) : (keysL (remL key L)).Nodup := by
  rw [keys_rem]
  split
  · exact h.sublist (List.eraseIdx_sublist _ _)
  · exact h
theorem rem_not {key : ByteArray} {L : List En} (h : (keysL L).Nodup) : key ∉ keysL (remL key L) := by
  rw [keys_rem]
  cases hp : posS key (keysL L) with
  | none => exact posS_none hp
  | some i =>
    have hi := posS_lt hp
    obtain ⟨hlt, he⟩ := List.getElem?_eq_some_iff.1 hi
    intro hm
    simp only at hm
    rw [List.mem_eraseIdx_iff_getElem?] at hm
    obtain ⟨j, hj, hjk⟩ := hm
    have := (List.getElem?_inj hlt h).1 (hi.trans hjk.symm)
    exact hj this.symm
theorem removeW_h (E : AH) (wb : Nat) (H : Int) (L : List En) (hE : WinE E wb H L) (key : ByteArray) : CallA Tryd.prog 32 #[.pointer (some ⟨wb, 0, none⟩), .string key] E (fun u_ A_ => u_ = .tuple #[] ∧ ∃ E', WinE E' wb H (remL key L) ∧ SubA E' A_ ∧ ∀ b, Vm.look E b ≠ none → Vm.look E' b ≠ none) := by
  refine callA_of_denA ⟨Tryd.prog, 32, Tryd.f32, 29, [0, 1, 4], [44], [], _⟩ (args := [_, _]) Tryd.func32 rfl (by kernel_rfl) Tryd.ntmps32 (by simp) (by kernel_rfl) ?_
  intro ν fr; have nuE := fr.nu
  obtain ⟨mr, v, es, cl, Bk, rfl, hm, ho, h1, h2, h3, h4, h5⟩ := hE
  obtain ⟨p, cap, rfl, hcap, hS⟩ := ho.read str_len
  have g0 : ((wb = mr) = False) ∧ ((mr = wb) = False) := ⟨eq_false h1, eq_false fun e => h1 e.symm⟩
  have sBk : SubA Bk ((wb, .cells #[.int .i64 H, .map (some mr), .slice p (keysL L).length cap] 67) :: (mr, .map es cl) :: Bk) := SubA.skip h2 (SubA.skip h3 (SubA.refl _))
  have ix := indexS_v _ (keysL L) key p cap (hS.mono sBk) (by rw [keysL_len]; omega)
  have hdm := del_mapL L key
  cases hp : posS key (keysL L) with
  | none =>
    have i0 : ((0 : Int) ≤ idxI none) = False := by simp [idxI]
    simp (maxDischargeDepth := 16) only [argE_nil, argE_cons, ↓vmD, vmV, vmStd, Nat.reduceMul, ↓reduceIte, Nat.reduceAdd, Nat.reduceSub, Nat.reduceEqDiff, Nat.reduceLT, Nat.reduceLeDiff, reduceCtorEq, Int.reduceToNat, Int.reduceLT, Int.reduceLE, Int.reduceEq, Int.reduceNeg, Int.reduceBEq, Int.reduceBNe, String.reduceEq, forall_const, ↓vmDA, vmVA, ↓vmQA, vmR, vmRA, ↓vmSA, vmSV, tyS, nuE, SubA.skip, SubA.refl, fr.2, digits03_v, isDate03_v, rreference_v, valueOf_v, rvalue_v, split_v, rsplit_v, ix, hp, i0, g0]
    refine rA_delete (t := 64) rfl und_map und_str (by simp (maxDischargeDepth := 16) only [argE_nil, argE_cons, ↓vmD, vmV, vmStd, Nat.reduceMul, ↓reduceIte, Nat.reduceAdd, Nat.reduceSub, Nat.reduceEqDiff, Nat.reduceLT, Nat.reduceLeDiff, reduceCtorEq, Int.reduceToNat, Int.reduceLT, Int.reduceLE, Int.reduceEq, Int.reduceNeg, Int.reduceBEq, Int.reduceBNe, String.reduceEq, forall_const, ↓vmDA, vmVA, ↓vmQA, vmR, vmRA, ↓vmSA, vmSV, tyS, nuE, digits03_v, isDate03_v, rreference_v, valueOf_v, rvalue_v, split_v, rsplit_v, g0]; rfl) hm ?_
    intro es' cl' hm'
    rw [hdm] at hm'
    have hrm : remL key L = L := by unfold remL; rw [hp]
    intro ν' fr'
    have fr := fr'
    simp (maxDischargeDepth := 16) only [argE_nil, argE_cons, ↓vmD, vmV, vmStd, Nat.reduceMul, ↓reduceIte, Nat.reduceAdd, Nat.reduceSub, Nat.reduceEqDiff, Nat.reduceLT, Nat.reduceLeDiff, reduceCtorEq, Int.reduceToNat, Int.reduceLT, Int.reduceLE, Int.reduceEq, Int.reduceNeg, Int.reduceBEq, Int.reduceBNe, String.reduceEq, forall_const, ↓vmDA, vmVA, ↓vmQA, vmR, vmRA, ↓vmSA, vmSV, tyS, nuE, digits03_v, isDate03_v, rreference_v, valueOf_v, rvalue_v, split_v, rsplit_v, g0]
    rw [hrm] at hm' ⊢
    refine ⟨rfl, _, ⟨mr, _, es', cl', Bk, rfl, hm', ho, h1, h2, h3, h4, h5⟩, SubA.refl _, fun b hb => ?_⟩
    simp only [Vm.look]
    by_cases e1 : wb = b
    · rw [if_pos e1]; simp
    · by_cases e2 : mr = b
      · rw [if_neg e1, if_pos e2]; simp
      · rw [if_neg e1, if_neg e2] at hb ⊢; exact hb
  | some i =>
    have i0 : ((0 : Int) ≤ idxI (some i)) = True := by simp [idxI]
    have hi : i < (keysL L).length := (List.getElem?_eq_some_iff.1 (posS_lt hp)).1
    have hne : keysL L ≠ [] := by intro e; rw [e] at hi; simp at hi
    obtain ⟨g, cap2, cur, hv, rfl, c1, c2, c3, c4⟩ := ho.blk hne
    cases hv
    rw [Nat.mul_one] at c3 c4
    have hgw : ((g = wb) = False) ∧ ((wb = g) = False) := by
      simp only [Vm.look] at h2
      split at h2
      · cases h2
      · rename_i e; exact ⟨eq_false e, eq_false fun h => e h.symm⟩
    have hgm : ((g = mr) = False) ∧ ((mr = g) = False) := by
      simp only [Vm.look] at h3
      split at h3
      · cases h3
      · rename_i e; exact ⟨eq_false e, eq_false fun h => e h.symm⟩
    have we : IntKind.i64.wrap (idxI (some i) + 1) = ((i + 1 : Nat) : Int) := by simp only [idxI]; rw [w_i64 (by rw [keysL_len] at hi; omega) (by rw [keysL_len] at hi; omega)]; omega
    have wi : idxI (some i) = (i : Int) := rfl
    simp (maxDischargeDepth := 16) only [argE_nil, argE_cons, ↓vmD, vmV, vmStd, Nat.reduceMul, ↓reduceIte, Nat.reduceAdd, Nat.reduceSub, Nat.reduceEqDiff, Nat.reduceLT, Nat.reduceLeDiff, reduceCtorEq, Int.reduceToNat, Int.reduceLT, Int.reduceLE, Int.reduceEq, Int.reduceNeg, Int.reduceBEq, Int.reduceBNe, String.reduceEq, forall_const, ↓vmDA, vmVA, ↓vmQA, vmR, vmRA, ↓vmSA, vmSV, tyS, nuE, SubA.skip, SubA.refl, fr.2, digits03_v, isDate03_v, rreference_v, valueOf_v, rvalue_v, split_v, rsplit_v, ix, hp, i0, g0, we]
    rw [wi]
    refine CallA.use (deleteS_h g cap cur (keysL L) i hi c1 c2 c3 (by rw [c4, str_flat])) (SubE.sub ⟨by simp (maxDischargeDepth := 16) only [argE_nil, argE_cons, ↓vmD, vmV, vmStd, Nat.reduceMul, ↓reduceIte, Nat.reduceAdd, Nat.reduceSub, Nat.reduceEqDiff, Nat.reduceLT, Nat.reduceLeDiff, reduceCtorEq, Int.reduceToNat, Int.reduceLT, Int.reduceLE, Int.reduceEq, Int.reduceNeg, Int.reduceBEq, Int.reduceBNe, String.reduceEq, forall_const, ↓vmDA, vmVA, ↓vmQA, vmR, vmRA, ↓vmSA, vmSV, tyS, nuE, digits03_v, isDate03_v, rreference_v, valueOf_v, rvalue_v, split_v, rsplit_v, hgw, hgm], trivial⟩) (by
      rintro v D ⟨_, cur', _, hl⟩ b hb
      simp only [Vm.look] at hb
      split at hb
      · rename_i e; subst e; rw [hl]; simp
      · exact absurd rfl hb) [(wb, .cells #[.int .i64 H, .map (some mr), .slice (some ⟨g, 0, none⟩) (keysL L).length cap] 67), (mr, .map es cl)] (SubE.sub ⟨by simp (maxDischargeDepth := 16) only [argE_nil, argE_cons, ↓vmD, vmV, vmStd, Nat.reduceMul, ↓reduceIte, Nat.reduceAdd, Nat.reduceSub, Nat.reduceEqDiff, Nat.reduceLT, Nat.reduceLeDiff, reduceCtorEq, Int.reduceToNat, Int.reduceLT, Int.reduceLE, Int.reduceEq, Int.reduceNeg, Int.reduceBEq, Int.reduceBNe, String.reduceEq, forall_const, ↓vmDA, vmVA, ↓vmQA, vmR, vmRA, ↓vmSA, vmSV, tyS, nuE, digits03_v, isDate03_v, rreference_v, valueOf_v, rvalue_v, split_v, rsplit_v, g0], by simp (maxDischargeDepth := 16) only [argE_nil, argE_cons, ↓vmD, vmV, vmStd, Nat.reduceMul, ↓reduceIte, Nat.reduceAdd, Nat.reduceSub, Nat.reduceEqDiff, Nat.reduceLT, Nat.reduceLeDiff, reduceCtorEq, Int.reduceToNat, Int.reduceLT, Int.reduceLE, Int.reduceEq, Int.reduceNeg, Int.reduceBEq, Int.reduceBNe, String.reduceEq, forall_const, ↓vmDA, vmVA, ↓vmQA, vmR, vmRA, ↓vmSA, vmSV, tyS, nuE, digits03_v, isDate03_v, rreference_v, valueOf_v, rvalue_v, split_v, rsplit_v, g0], trivial⟩) (fun x hx => ?_) ?_
    · simp only [Vm.look] at hx ⊢
      split
      · rename_i e
        subst e
        simp only [hgw, hgm, if_false] at hx
        exact absurd rfl hx
      · rfl
    · rintro v D ⟨rfl, cur', ho', hl⟩ dD
      refine ⟨[(g, .cells cur' 9)], SubE.sub ⟨hl, trivial⟩, ?_⟩
      intro ν' fr'
      have fr := fr'
      simp (maxDischargeDepth := 16) only [argE_nil, argE_cons, ↓vmD, vmV, vmStd, Nat.reduceMul, ↓reduceIte, Nat.reduceAdd, Nat.reduceSub, Nat.reduceEqDiff, Nat.reduceLT, Nat.reduceLeDiff, reduceCtorEq, Int.reduceToNat, Int.reduceLT, Int.reduceLE, Int.reduceEq, Int.reduceNeg, Int.reduceBEq, Int.reduceBNe, String.reduceEq, forall_const, ↓vmDA, vmVA, ↓vmQA, vmR, vmRA, ↓vmSA, vmSV, tyS, nuE, digits03_v, isDate03_v, rreference_v, valueOf_v, rvalue_v, split_v, rsplit_v, g0, hgw, hgm]
      refine rA_delete (t := 64) rfl und_map und_str (by simp (maxDischargeDepth := 16) only [argE_nil, argE_cons, ↓vmD, vmV, vmStd, Nat.reduceMul, ↓reduceIte, Nat.reduceAdd, Nat.reduceSub, Nat.reduceEqDiff, Nat.reduceLT, Nat.reduceLeDiff, reduceCtorEq, Int.reduceToNat, Int.reduceLT, Int.reduceLE, Int.reduceEq, Int.reduceNeg, Int.reduceBEq, Int.reduceBNe, String.reduceEq, forall_const, ↓vmDA, vmVA, ↓vmQA, vmR, vmRA, ↓vmSA, vmSV, tyS, nuE, digits03_v, isDate03_v, rreference_v, valueOf_v, rvalue_v, split_v, rsplit_v, g0, hgm]; rfl) hm ?_
      intro es' cl' hm'
      rw [hdm] at hm'
      have hk : keysL (remL key L) = (keysL L).eraseIdx i := by rw [keys_rem, hp]
      have hkl : (keysL L).length - 1 = (keysL (remL key L)).length := by rw [hk, List.length_eraseIdx, if_pos hi]
      rw [← hk] at ho'
      intro ν2 fr2
      have fr := fr2
      simp (maxDischargeDepth := 16) only [argE_nil, argE_cons, ↓vmD, vmV, vmStd, Nat.reduceMul, ↓reduceIte, Nat.reduceAdd, Nat.reduceSub, Nat.reduceEqDiff, Nat.reduceLT, Nat.reduceLeDiff, reduceCtorEq, Int.reduceToNat, Int.reduceLT, Int.reduceLE, Int.reduceEq, Int.reduceNeg, Int.reduceBEq, Int.reduceBNe, String.reduceEq, forall_const, ↓vmDA, vmVA, ↓vmQA, vmR, vmRA, ↓vmSA, vmSV, tyS, nuE, digits03_v, isDate03_v, rreference_v, valueOf_v, rvalue_v, split_v, rsplit_v, g0, hgw, hgm]
      refine ⟨rfl, _, ⟨mr, _, es', cl', [(g, .cells cur' 9)], rfl, hm', ho', h1, by simp only [Vm.look]; rw [if_neg (by simp [hgw])], by simp only [Vm.look]; rw [if_neg (by simp [hgm])], rem_nodup h4, Nat.le_trans (rem_len _ _) h5⟩, SubE.sub ⟨by simp (maxDischargeDepth := 16) only [argE_nil, argE_cons, ↓vmD, vmV, vmStd, Nat.reduceMul, ↓reduceIte, Nat.reduceAdd, Nat.reduceSub, Nat.reduceEqDiff, Nat.reduceLT, Nat.reduceLeDiff, reduceCtorEq, Int.reduceToNat, Int.reduceLT, Int.reduceLE, Int.reduceEq, Int.reduceNeg, Int.reduceBEq, Int.reduceBNe, String.reduceEq, forall_const, ↓vmDA, vmVA, ↓vmQA, vmR, vmRA, ↓vmSA, vmSV, tyS, nuE, digits03_v, isDate03_v, rreference_v, valueOf_v, rvalue_v, split_v, rsplit_v, g0, hgw, hgm], by simp (maxDischargeDepth := 16) only [argE_nil, argE_cons, ↓vmD, vmV, vmStd, Nat.reduceMul, ↓reduceIte, Nat.reduceAdd, Nat.reduceSub, Nat.reduceEqDiff, Nat.reduceLT, Nat.reduceLeDiff, reduceCtorEq, Int.reduceToNat, Int.reduceLT, Int.reduceLE, Int.reduceEq, Int.reduceNeg, Int.reduceBEq, Int.reduceBNe, String.reduceEq, forall_const, ↓vmDA, vmVA, ↓vmQA, vmR, vmRA, ↓vmSA, vmSV, tyS, nuE, digits03_v, isDate03_v, rreference_v, valueOf_v, rvalue_v, split_v, rsplit_v, g0, hgw, hgm], by simp (maxDischargeDepth := 16) only [argE_nil, argE_cons, ↓vmD, vmV, vmStd, Nat.reduceMul, ↓reduceIte, Nat.reduceAdd, Nat.reduceSub, Nat.reduceEqDiff, Nat.reduceLT, Nat.reduceLeDiff, reduceCtorEq, Int.reduceToNat, Int.reduceLT, Int.reduceLE, Int.reduceEq, Int.reduceNeg, Int.reduceBEq, Int.reduceBNe, String.reduceEq, forall_const, ↓vmDA, vmVA, ↓vmQA, vmR, vmRA, ↓vmSA, vmSV, tyS, nuE, digits03_v, isDate03_v, rreference_v, valueOf_v, rvalue_v, split_v, rsplit_v, g0, hgw, hgm], trivial⟩, fun b hb => ?_⟩
      simp only [Vm.look]
      by_cases e1 : wb = b
      · rw [if_pos e1]; simp
      · by_cases e2 : mr = b
        · rw [if_neg e1, if_pos e2]; simp
        · rw [if_neg e1, if_neg e2] at hb ⊢
          split
          · simp
          · rename_i e3; rw [if_neg e3] at hb; exact hb

end Go.Proofs.YthmkhmgmoflmkaaDoor
