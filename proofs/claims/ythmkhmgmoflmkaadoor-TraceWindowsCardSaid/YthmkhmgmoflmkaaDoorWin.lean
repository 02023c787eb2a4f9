/-
Trace: the window's keys: index, delete.
Conditions: none.
-/
import Derived.Test.YthmkhmgmoflmkaaDoorTra
namespace Go.Proofs.YthmkhmgmoflmkaaDoor
open Go.Vm
set_option linter.unusedSimpArgs false
set_option linter.unusedVariables false
set_option maxHeartbeats 2000000
set_option maxRecDepth 20000
def strC (s : ByteArray) : List Value := [.string s]
theorem str_len (s : ByteArray) : (strC s).length = 1 := rfl
theorem str_flat : ∀ xs : List ByteArray, xs.flatMap strC = xs.map .string
  | [] => rfl
  | x :: l => by simp only [List.flatMap_cons, str_flat l]; rfl
theorem sc_str (s : ByteArray) : sliceCells Tryd.prog 65 1 [(0, .string s)] = some (9, #[.string s]) := by kernel_rfl
/-- The place of a text in a list. -/
def posS (key : ByteArray) : List ByteArray → Option Nat
  | [] => none
  | a :: l => if a = key then some 0 else (posS key l).map (· + 1)
def idxI (o : Option Nat) : Int := match o with | some i => (i : Int) | none => -1
theorem beq_ba (a b : ByteArray) : (a.toList == b.toList) = decide (a = b) := by
  rw [Bool.eq_iff_iff]
  simp only [beq_iff_eq, decide_eq_true_eq]
  constructor
  · intro h
    apply ba_ext
    rwa [ByteArray.toList_eq, ByteArray.toList_eq] at h
  · rintro rfl; rfl
theorem indexS_h (A : AH) (L : List ByteArray) (key : ByteArray) (p : Option Addr) (cap : Nat) (hL : StR strC 1 A p L) (hl : L.length ≤ 1000000) : CallA Tryd.prog 43 #[.slice p L.length cap, .string key] A (fun u_ A_ => u_ = .int .i64 (idxI (posS key L)) ∧ SubA A A_) := by
  refine callA_of_denA ⟨Tryd.prog, 43, Tryd.f43, 19, [0, 1, 4, 5, 7, 8], [], [], _⟩ (args := [_, _]) Tryd.func43 rfl (by kernel_rfl) Tryd.ntmps43 (by simp) (by kernel_rfl) ?_
  intro ν fr; have nuE := fr.nu
  simp (maxDischargeDepth := 16) only [argE_nil, argE_cons, ↓vmD, vmV, vmStd, Nat.reduceMul, ↓reduceIte, Nat.reduceAdd, Nat.reduceSub, Nat.reduceEqDiff, Nat.reduceLT, Nat.reduceLeDiff, reduceCtorEq, Int.reduceToNat, Int.reduceLT, Int.reduceLE, Int.reduceEq, Int.reduceNeg, Int.reduceBEq, Int.reduceBNe, String.reduceEq, forall_const, ↓vmDA, vmVA, ↓vmQA, vmR, vmRA, ↓vmSA, vmSV, tyS, nuE, SubA.skip, SubA.refl, fr.2, digits03_v, isDate03_v, rreference_v, valueOf_v, rvalue_v, split_v, rsplit_v]
  obtain ⟨e, l, he, h2, h3⟩ : ∃ (e : Nat) (l : List ByteArray), e = 0 ∧ posS key L = (posS key l).map (· + e) ∧ l = L.drop e := ⟨0, L, rfl, by simp, by simp⟩
  rw [show (8, some (Value.int .i64 0)) = (8, some (Value.int .i64 (e : Int))) by rw [he]; rfl]
  clear he nuE fr
  induction l generalizing e with
  | nil =>
    have hle := drop_nil h3
    have hlt : ((e : Int) < (L.length : Int)) = False := by simp; omega
    refine LoopA.intro (by kernel_rfl) ?_
    intro ν fr; have nuE := fr.nu
    simp (maxDischargeDepth := 16) only [argE_nil, argE_cons, ↓vmD, vmV, vmStd, Nat.reduceMul, ↓reduceIte, Nat.reduceAdd, Nat.reduceSub, Nat.reduceEqDiff, Nat.reduceLT, Nat.reduceLeDiff, reduceCtorEq, Int.reduceToNat, Int.reduceLT, Int.reduceLE, Int.reduceEq, Int.reduceNeg, Int.reduceBEq, Int.reduceBNe, String.reduceEq, forall_const, ↓vmDA, vmVA, ↓vmQA, vmR, vmRA, ↓vmSA, vmSV, tyS, nuE, SubA.skip, SubA.refl, fr.2, digits03_v, isDate03_v, rreference_v, valueOf_v, rvalue_v, split_v, rsplit_v, hlt, h2, posS, idxI]
  | cons a l ih =>
    obtain ⟨ha, hl2, h3'⟩ := drop_some h3
    have hlt : ((e : Int) < (L.length : Int)) = True := by simp; omega
    have we : IntKind.i64.wrap ((e : Int) + 1) = ((e + 1 : Nat) : Int) := by rw [w_i64 (by omega) (by omega)]; omega
    obtain ⟨b, off, cs, ty, fr0, rfl, hb, hc, hcc⟩ := hL.at ha
    have c0 : cs[off + e]? = some (.string a) := by simpa using hcc 0 _ rfl
    refine LoopA.intro (by kernel_rfl) ?_
    intro ν fr; have nuE := fr.nu
    by_cases hk : key = a
    · have hk2 : (key.toList == a.toList) = true := by rw [hk]; simp
      have hk3 : posS key (a :: l) = some 0 := by simp [posS, hk]
      simp (maxDischargeDepth := 16) only [argE_nil, argE_cons, ↓vmD, vmV, vmStd, Nat.reduceMul, ↓reduceIte, Nat.reduceAdd, Nat.reduceSub, Nat.reduceEqDiff, Nat.reduceLT, Nat.reduceLeDiff, reduceCtorEq, Int.reduceToNat, Int.reduceLT, Int.reduceLE, Int.reduceEq, Int.reduceNeg, Int.reduceBEq, Int.reduceBNe, String.reduceEq, forall_const, ↓vmDA, vmVA, ↓vmQA, vmR, vmRA, ↓vmSA, vmSV, tyS, nuE, SubA.skip, SubA.refl, fr.2, digits03_v, isDate03_v, rreference_v, valueOf_v, rvalue_v, split_v, rsplit_v, hlt, hb, c0, hk2, h2, hk3, Nat.mul_one, idxI]
    · have hk2 : (key.toList == a.toList) = false := by rw [beq_ba]; simpa using hk
      have hk3 : posS key (a :: l) = (posS key l).map (· + 1) := by simp only [posS]; rw [if_neg (fun h => hk h.symm)]
      simp (maxDischargeDepth := 16) only [argE_nil, argE_cons, ↓vmD, vmV, vmStd, Nat.reduceMul, ↓reduceIte, Nat.reduceAdd, Nat.reduceSub, Nat.reduceEqDiff, Nat.reduceLT, Nat.reduceLeDiff, reduceCtorEq, Int.reduceToNat, Int.reduceLT, Int.reduceLE, Int.reduceEq, Int.reduceNeg, Int.reduceBEq, Int.reduceBNe, String.reduceEq, forall_const, ↓vmDA, vmVA, ↓vmQA, vmR, vmRA, ↓vmSA, vmSV, tyS, nuE, SubA.skip, SubA.refl, fr.2, digits03_v, isDate03_v, rreference_v, valueOf_v, rvalue_v, split_v, rsplit_v, hlt, hb, c0, hk2, Nat.mul_one, we]
      exact LoopA.weak (ih (e + 1) (by rw [h2, hk3, Option.map_map]; congr 1; funext x; simp; omega) h3') (by simp only [subE, get_cons, Nat.reduceEqDiff, ↓reduceIte, reduceCtorEq, Nat.reduceAdd, and_self, and_true]) (SubA.refl _)
theorem indexS_w (A : AH) (L : List ByteArray) (key : ByteArray) (p : Option Addr) (cap : Nat) (hL : StR strC 1 A p L) (hl : L.length ≤ 1000000) (B_ : AH) (hB_ : SubA A B_) : valA Tryd.prog 43 #[.slice p L.length cap, .string key] B_ = some (.int .i64 (idxI (posS key L))) := valA_eq (pureA_at (by kernel_rfl) (indexS_h A L key p cap hL hl) hB_)
theorem indexS_v (A : AH) (L : List ByteArray) (key : ByteArray) (p : Option Addr) (cap : Nat) (hL : StR strC 1 A p L) (hl : L.length ≤ 1000000) : valA Tryd.prog 43 #[.slice p L.length cap, .string key] A = some (.int .i64 (idxI (posS key L))) := valA_eq (pureA_at (by kernel_rfl) (indexS_h A L key p cap hL hl) (SubA.refl _))
theorem deleteS_h (g cap : Nat) (cur : Array Value) (L : List ByteArray) (i : Nat) (hi : i < L.length) (hcap : L.length ≤ cap) (hcm : cap ≤ maxLen) (hsz : cur.size = cap) (ht : cur.toList.take L.length = L.map .string) : CallA Tryd.prog 44 #[.slice (some ⟨g, 0, none⟩) L.length cap, .int .i64 (i : Int), .int .i64 ((i + 1 : Nat) : Int)] [(g, .cells cur 9)] (fun u_ A_ => u_ = .slice (some ⟨g, 0, none⟩) (L.length - 1) cap ∧ ∃ cur', OwnL strC 1 9 u_ [(g, .cells cur' 9)] (L.eraseIdx i) ∧ Vm.look A_ g = some (.cells cur' 9)) := by
  refine callA_of_denA ⟨Tryd.prog, 44, Tryd.f44, 33, [0, 1, 2, 6, 7], [], [(5, .p [(0, 0), (1, 0), (2, 0), (3, 0), (4, 0), (5, 0), (6, 2), (7, 0)])], _⟩ (args := [_, _, _]) Tryd.func44 rfl (by kernel_rfl) Tryd.ntmps44 (by simp) (by kernel_rfl) ?_
  intro ν fr; have nuE := And.intro (fr.mem (b := g) (by simp)) (fr.nu)
  have b1 : ((i : Int) ≤ ((i + 1 : Nat) : Int)) = True := by simp; omega
  have b2 : (((i + 1 : Nat) : Int) ≤ (L.length : Int)) = True := by simp; omega
  have b3 : ((L.length : Int) ≤ (cap : Int)) = True := by simp; omega
  have b4 : ((i : Int) == ((i + 1 : Nat) : Int)) = false := by simp; omega
  have b5 : ((i : Int) ≤ (cap : Int)) = True := by simp; omega
  have b6 : (cap = 0) = False := by simp; omega
  have z0 : i - 0 = i := rfl
  have z1 : cap - 0 = cap := rfl
  simp (maxDischargeDepth := 16) only [argE_nil, argE_cons, ↓vmD, vmV, vmStd, Nat.reduceMul, ↓reduceIte, Nat.reduceAdd, Nat.reduceSub, Nat.reduceEqDiff, Nat.reduceLT, Nat.reduceLeDiff, reduceCtorEq, Int.reduceToNat, Int.reduceLT, Int.reduceLE, Int.reduceEq, Int.reduceNeg, Int.reduceBEq, Int.reduceBNe, String.reduceEq, forall_const, ↓vmDA, vmVA, ↓vmQA, vmR, vmRA, ↓vmSA, vmSV, tyS, nuE, digits03_v, isDate03_v, rreference_v, valueOf_v, rvalue_v, split_v, rsplit_v, b1, b2, b3, b4, b5, b6, z0, z1, Nat.mul_one]
  have hL : cur.toList.length = cap := by simpa using hsz
  refine append_room (m := L.length - (i + 1)) (news := (L.drop (i + 1)).map .string) slc65 (by simp (maxDischargeDepth := 16) only [argE_nil, argE_cons, ↓vmD, vmV, vmStd, Nat.reduceMul, ↓reduceIte, Nat.reduceAdd, Nat.reduceSub, Nat.reduceEqDiff, Nat.reduceLT, Nat.reduceLeDiff, reduceCtorEq, Int.reduceToNat, Int.reduceLT, Int.reduceLE, Int.reduceEq, Int.reduceNeg, Int.reduceBEq, Int.reduceBNe, String.reduceEq, forall_const, ↓vmDA, vmVA, ↓vmQA, vmR, vmRA, ↓vmSA, vmSV, tyS, nuE, digits03_v, isDate03_v, rreference_v, valueOf_v, rvalue_v, split_v, rsplit_v]; rfl) (by omega) (by rw [hsz]; omega) ?_ (by intro u hu; obtain ⟨s, _, rfl⟩ := List.mem_map.1 hu; rfl) ?_
  · by_cases hc : cap = i + 1
    · exact .inl ⟨by omega, by rw [List.drop_eq_nil_of_le (by omega)]; rfl⟩
    · refine .inr ⟨g, i + 1, by rw [if_neg hc], ?_⟩
      simp (maxDischargeDepth := 16) only [argE_nil, argE_cons, ↓vmD, vmV, vmStd, Nat.reduceMul, ↓reduceIte, Nat.reduceAdd, Nat.reduceSub, Nat.reduceEqDiff, Nat.reduceLT, Nat.reduceLeDiff, reduceCtorEq, Int.reduceToNat, Int.reduceLT, Int.reduceLE, Int.reduceEq, Int.reduceNeg, Int.reduceBEq, Int.reduceBNe, String.reduceEq, forall_const, ↓vmDA, vmVA, ↓vmQA, vmR, vmRA, ↓vmSA, vmSV, tyS, nuE, digits03_v, isDate03_v, rreference_v, valueOf_v, rvalue_v, split_v, rsplit_v]
      rw [if_pos (by omega)]
      congr 1
      apply Array.ext'
      simp only [Array.toList_extract, List.extract_eq_take_drop]
      rw [List.map_drop, ← ht, List.drop_take]
      congr 1
      omega
  intro ν' fr'
  have fr0 := fr
  have fr := fr'
  have nuE := fr.mem (b := g) (by simp)
  have hk : i + (L.length - (i + 1)) = L.length - 1 := by omega
  have q1 : (((L.length - 1 : Nat) : Int) ≤ (L.length : Int)) = True := eq_true (by omega)
  have q2 : (cap = L.length - 1) = False := by simp; omega
  have q3 : L.length - (L.length - 1) = 1 := by omega
  simp (maxDischargeDepth := 16) only [argE_nil, argE_cons, ↓vmD, vmV, vmStd, Nat.reduceMul, ↓reduceIte, Nat.reduceAdd, Nat.reduceSub, Nat.reduceEqDiff, Nat.reduceLT, Nat.reduceLeDiff, reduceCtorEq, Int.reduceToNat, Int.reduceLT, Int.reduceLE, Int.reduceEq, Int.reduceNeg, Int.reduceBEq, Int.reduceBNe, String.reduceEq, forall_const, ↓vmDA, vmVA, ↓vmQA, vmR, vmRA, ↓vmSA, vmSV, tyS, nuE, digits03_v, isDate03_v, rreference_v, valueOf_v, rvalue_v, split_v, rsplit_v, hk, q1, b3, q2, q3, Nat.mul_one]
  refine rA_clear slc65 zro9 (by simp [Value.cells, Value.oneCell']) (by simp (maxDischargeDepth := 16) only [argE_nil, argE_cons, ↓vmD, vmV, vmStd, Nat.reduceMul, ↓reduceIte, Nat.reduceAdd, Nat.reduceSub, Nat.reduceEqDiff, Nat.reduceLT, Nat.reduceLeDiff, reduceCtorEq, Int.reduceToNat, Int.reduceLT, Int.reduceLE, Int.reduceEq, Int.reduceNeg, Int.reduceBEq, Int.reduceBNe, String.reduceEq, forall_const, ↓vmDA, vmVA, ↓vmQA, vmR, vmRA, ↓vmSA, vmSV, tyS, nuE, digits03_v, isDate03_v, rreference_v, valueOf_v, rvalue_v, split_v, rsplit_v]; rfl) (by simp only [Value.cells, List.size_toArray, List.length_append, List.length_take, List.length_drop, List.length_map, List.length_cons, List.length_nil]; omega) ?_
  intro ν2 fr2
  have fr := fr2
  have nuE := fr.mem (b := g) (by simp)
  simp (maxDischargeDepth := 16) only [argE_nil, argE_cons, ↓vmD, vmV, vmStd, Nat.reduceMul, ↓reduceIte, Nat.reduceAdd, Nat.reduceSub, Nat.reduceEqDiff, Nat.reduceLT, Nat.reduceLeDiff, reduceCtorEq, Int.reduceToNat, Int.reduceLT, Int.reduceLE, Int.reduceEq, Int.reduceNeg, Int.reduceBEq, Int.reduceBNe, String.reduceEq, forall_const, ↓vmDA, vmVA, ↓vmQA, vmR, vmRA, ↓vmSA, vmSV, tyS, nuE, digits03_v, isDate03_v, rreference_v, valueOf_v, rvalue_v, split_v, rsplit_v]
  have hci : cur.toList.take i = (L.take i).map .string := by rw [List.map_take, ← ht, List.take_take, Nat.min_eq_left (by omega)]
  have hM : ((L.drop (i + 1)).map Value.string).length = L.length - (i + 1) := by simp
  have hX : (cur.toList.take i ++ (L.drop (i + 1)).map Value.string).length = L.length - 1 := by rw [hci]; simp; omega
  have hXl : (cur.toList.take i ++ (L.drop (i + 1)).map Value.string ++ cur.toList.drop (i + ((L.drop (i + 1)).map Value.string).length)).length = cap := by
    rw [List.length_append, hX, List.length_drop, hM]; omega
  have hz1 : (Builtin.zeroCells #[Value.string ⟨#[]⟩] 1).toList.length = 1 := by simp [Builtin.zeroCells]
  refine ⟨_, .inl ⟨by rw [str_flat]; simp [List.length_eraseIdx, hi], .inr ⟨g, cap, _, by simp [List.length_eraseIdx, hi], rfl, by simp [List.length_eraseIdx, hi]; omega, hcm, ?_, ?_⟩⟩, rfl⟩
  · simp only [List.size_toArray, List.length_append, List.length_take, List.length_drop, hXl, hz1]
    omega
  · have h9 : (L.eraseIdx i).length * 1 = L.length - 1 := by simp [List.length_eraseIdx, hi]
    rw [h9, str_flat]
    simp only [List.append_assoc]
    rw [List.take_append_of_le_length (by rw [List.length_take]; have := hXl; simp only [List.append_assoc] at this; omega), List.take_take, Nat.min_self]
    have h8 := hX
    rw [← List.append_assoc, List.take_append_of_le_length (by omega), List.take_of_length_le (by omega), hci, ← List.map_append, List.eraseIdx_eq_take_drop_succ]

end Go.Proofs.YthmkhmgmoflmkaaDoor
