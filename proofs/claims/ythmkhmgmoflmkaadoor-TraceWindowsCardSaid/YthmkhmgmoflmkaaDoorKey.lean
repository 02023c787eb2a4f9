/-
Trace: keys of messages.
Conditions: none.
-/
import Derived.Test.YthmkhmgmoflmkaaDoorWin3
namespace Go.Proofs.YthmkhmgmoflmkaaDoor
open Go.Vm
set_option linter.unusedSimpArgs false
set_option linter.unusedVariables false
set_option maxHeartbeats 2000000
set_option maxRecDepth 20000
structure El where
  num : Int
  val : ByteArray
def elC (x : El) : List Value := [.int .i64 x.num, .string x.val]
theorem el_len (x : El) : (elC x).length = 2 := rfl
theorem el_agg (x : El) : Value.agg (elC x).toArray = .agg #[.int .i64 x.num, .string x.val] := rfl
def posN (n : Int) : List El → Option Nat
  | [] => none
  | a :: l => if a.num = n then some 0 else (posN n l).map (· + 1)
theorem posN_at : ∀ {n : Int} {l : List El} {i : Nat}, posN n l = some i → ∃ x, l[i]? = some x
  | _, [], _, h => by cases h
  | n, a :: l, i, h => by
    simp only [posN] at h
    split at h
    · cases h; exact ⟨a, rfl⟩
    · cases hp : posN n l with
      | none => rw [hp] at h; cases h
      | some j =>
        rw [hp] at h
        cases h
        simpa using posN_at hp
def getN (n : Int) (L : List El) : Option El := match posN n L with | some i => L[i]? | none => none
def getV (o : Option El) : Value := match o with | some x => .tuple #[.string x.val, .bool true] | none => .tuple #[.string ⟨#[]⟩, .bool false]
theorem gclos_h (num : Int) (val : ByteArray) (n : Int) (r : Nat) : CallA Tryd.prog 40 #[.agg #[.int .i64 num, .string val], .pointer (some ⟨r, 0, none⟩)] [(r, .cells #[.int .i64 n] 3)] (fun u_ A_ => u_ = .bool (num == n) ∧ SubE [(r, .cells #[.int .i64 n] 3)] A_) := by
  refine callA_of_denA ⟨Tryd.prog, 40, Tryd.f40, 8, [0, 1, 2, 3], [], [], _⟩ (args := [_, _]) Tryd.func40 rfl (by kernel_rfl) Tryd.ntmps40 (by simp) (by kernel_rfl) ?_
  intro ν fr; have nuE := And.intro (fr.mem (b := r) (by simp)) (fr.nu)
  simp (maxDischargeDepth := 16) only [argE_nil, argE_cons, ↓vmD, vmV, vmStd, Nat.reduceMul, ↓reduceIte, Nat.reduceAdd, Nat.reduceSub, Nat.reduceEqDiff, Nat.reduceLT, Nat.reduceLeDiff, reduceCtorEq, Int.reduceToNat, Int.reduceLT, Int.reduceLE, Int.reduceEq, Int.reduceNeg, Int.reduceBEq, Int.reduceBNe, String.reduceEq, forall_const, ↓vmDA, vmVA, ↓vmQA, vmR, vmRA, ↓vmSA, vmSV, tyS, nuE, digits03_v, isDate03_v, rreference_v, valueOf_v, rvalue_v, split_v, rsplit_v]
theorem gclos_v (num : Int) (val : ByteArray) (n : Int) (r : Nat) (A_ : AH) (hA_ : SubE [(r, .cells #[.int .i64 n] 3)] A_) : valA Tryd.prog 40 #[.agg #[.int .i64 num, .string val], .pointer (some ⟨r, 0, none⟩)] A_ = some (.bool (num == n)) := pureA_s (by kernel_rfl) (gclos_h num val n r) hA_
theorem findE_h (A : AH) (L : List El) (p : Option Addr) (cap : Nat) (hL : StR elC 2 A p L) (hl : L.length ≤ 1000000) (r : Nat) (n : Int) (hr : Vm.look A r = some (.cells #[.int .i64 n] 3)) : CallA Tryd.prog 39 #[.slice p L.length cap, .func (.func 40) #[] #[.pointer (some ⟨r, 0, none⟩)]] A (fun u_ A_ => u_ = .int .i64 (idxI (posN n L)) ∧ SubA A A_) := by
  refine callA_of_denA ⟨Tryd.prog, 39, Tryd.f39, 19, [0, 1, 4, 5, 6, 7, 8, 9], [], [], _⟩ (args := [_, _]) Tryd.func39 rfl (by kernel_rfl) Tryd.ntmps39 (by simp) (by kernel_rfl) ?_
  intro ν fr; have nuE := fr.nu
  have cl := fun (a : El) (B : AH) (h : Vm.look B r = some (.cells #[.int .i64 n] 3)) => gclos_v a.num a.val n r B ⟨h, trivial⟩
  simp (maxDischargeDepth := 16) only [argE_nil, argE_cons, ↓vmD, vmV, vmStd, Nat.reduceMul, ↓reduceIte, Nat.reduceAdd, Nat.reduceSub, Nat.reduceEqDiff, Nat.reduceLT, Nat.reduceLeDiff, reduceCtorEq, Int.reduceToNat, Int.reduceLT, Int.reduceLE, Int.reduceEq, Int.reduceNeg, Int.reduceBEq, Int.reduceBNe, String.reduceEq, forall_const, ↓vmDA, vmVA, ↓vmQA, vmR, vmRA, ↓vmSA, vmSV, tyS, nuE, SubA.skip, SubA.refl, fr.2, digits03_v, isDate03_v, rreference_v, valueOf_v, rvalue_v, split_v, rsplit_v]
  obtain ⟨e, l, he, h2, h3⟩ : ∃ (e : Nat) (l : List El), e = 0 ∧ posN n L = (posN n l).map (· + e) ∧ l = L.drop e := ⟨0, L, rfl, by simp, by simp⟩
  rw [show (9, some (Value.int .i64 0)) = (9, some (Value.int .i64 (e : Int))) by rw [he]; rfl]
  clear he nuE fr
  induction l generalizing e with
  | nil =>
    have hle := drop_nil h3
    have hlt : ((e : Int) < (L.length : Int)) = False := by simp; omega
    refine LoopA.intro (by kernel_rfl) ?_
    intro ν fr; have nuE := fr.nu
    simp (maxDischargeDepth := 16) only [argE_nil, argE_cons, ↓vmD, vmV, vmStd, Nat.reduceMul, ↓reduceIte, Nat.reduceAdd, Nat.reduceSub, Nat.reduceEqDiff, Nat.reduceLT, Nat.reduceLeDiff, reduceCtorEq, Int.reduceToNat, Int.reduceLT, Int.reduceLE, Int.reduceEq, Int.reduceNeg, Int.reduceBEq, Int.reduceBNe, String.reduceEq, forall_const, ↓vmDA, vmVA, ↓vmQA, vmR, vmRA, ↓vmSA, vmSV, tyS, nuE, SubA.skip, SubA.refl, fr.2, digits03_v, isDate03_v, rreference_v, valueOf_v, rvalue_v, split_v, rsplit_v, hlt, h2, posN, idxI]
  | cons a l ih =>
    obtain ⟨ha, hl2, h3'⟩ := drop_some h3
    have hlt : ((e : Int) < (L.length : Int)) = True := by simp; omega
    have we : IntKind.i64.wrap ((e : Int) + 1) = ((e + 1 : Nat) : Int) := by rw [w_i64 (by omega) (by omega)]; omega
    obtain ⟨b, off, cs, ty, fr0, rfl, hb, hc, hcc⟩ := hL.at ha
    refine LoopA.intro (by kernel_rfl) ?_
    intro ν fr; have nuE := fr.nu
    have k0 := look_ne (fr.2 0) hr
    have cl2 := cl a ((ν 0, .cells #[.int .i64 a.num, .string a.val] 27) :: A) (by simp only [Vm.look]; rw [if_neg (by simp [k0]), hr])
    by_cases hk : a.num = n
    · have hk2 : (a.num == n) = true := by simpa using hk
      have hk3 : posN n (a :: l) = some 0 := by simp [posN, hk]
      simp (maxDischargeDepth := 16) only [argE_nil, argE_cons, ↓vmD, vmV, vmStd, Nat.reduceMul, ↓reduceIte, Nat.reduceAdd, Nat.reduceSub, Nat.reduceEqDiff, Nat.reduceLT, Nat.reduceLeDiff, reduceCtorEq, Int.reduceToNat, Int.reduceLT, Int.reduceLE, Int.reduceEq, Int.reduceNeg, Int.reduceBEq, Int.reduceBNe, String.reduceEq, forall_const, ↓vmDA, vmVA, ↓vmQA, vmR, vmRA, ↓vmSA, vmSV, tyS, nuE, SubA.skip, SubA.refl, fr.2, digits03_v, isDate03_v, rreference_v, valueOf_v, rvalue_v, split_v, rsplit_v, hlt, hb, hc, el_agg, cl2, hk2, h2, hk3, idxI]
    · have hk2 : (a.num == n) = false := by simpa using hk
      have hk3 : posN n (a :: l) = (posN n l).map (· + 1) := by simp only [posN]; rw [if_neg hk]
      simp (maxDischargeDepth := 16) only [argE_nil, argE_cons, ↓vmD, vmV, vmStd, Nat.reduceMul, ↓reduceIte, Nat.reduceAdd, Nat.reduceSub, Nat.reduceEqDiff, Nat.reduceLT, Nat.reduceLeDiff, reduceCtorEq, Int.reduceToNat, Int.reduceLT, Int.reduceLE, Int.reduceEq, Int.reduceNeg, Int.reduceBEq, Int.reduceBNe, String.reduceEq, forall_const, ↓vmDA, vmVA, ↓vmQA, vmR, vmRA, ↓vmSA, vmSV, tyS, nuE, SubA.skip, SubA.refl, fr.2, digits03_v, isDate03_v, rreference_v, valueOf_v, rvalue_v, split_v, rsplit_v, hlt, hb, hc, el_agg, cl2, hk2, we]
      exact LoopA.weak (ih (e + 1) (by rw [h2, hk3, Option.map_map]; congr 1; funext x; simp; omega) h3') (by simp only [subE, get_cons, Nat.reduceEqDiff, ↓reduceIte, reduceCtorEq, Nat.reduceAdd, and_self, and_true]) (SubA.skip (fr.2 0) (SubA.refl _))
theorem findE_w (A : AH) (L : List El) (p : Option Addr) (cap : Nat) (hL : StR elC 2 A p L) (hl : L.length ≤ 1000000) (r : Nat) (n : Int) (hr : Vm.look A r = some (.cells #[.int .i64 n] 3)) (B_ : AH) (hB_ : SubA A B_) : valA Tryd.prog 39 #[.slice p L.length cap, .func (.func 40) #[] #[.pointer (some ⟨r, 0, none⟩)]] B_ = some (.int .i64 (idxI (posN n L))) := valA_eq (pureA_at (by kernel_rfl) (findE_h A L p cap hL hl r n hr) hB_)
theorem findE_v (A : AH) (L : List El) (p : Option Addr) (cap : Nat) (hL : StR elC 2 A p L) (hl : L.length ≤ 1000000) (r : Nat) (n : Int) (hr : Vm.look A r = some (.cells #[.int .i64 n] 3)) : valA Tryd.prog 39 #[.slice p L.length cap, .func (.func 40) #[] #[.pointer (some ⟨r, 0, none⟩)]] A = some (.int .i64 (idxI (posN n L))) := valA_eq (pureA_at (by kernel_rfl) (findE_h A L p cap hL hl r n hr) (SubA.refl _))
theorem getM_h (A : AH) (T : Int) (L : List El) (p : Option Addr) (cap : Nat) (hL : StR elC 2 A p L) (hl : L.length ≤ 1000000) (n : Int) : CallA Tryd.prog 27 #[.agg #[.int .i64 T, .slice p L.length cap], .int .i64 n] A (fun u_ A_ => u_ = getV (getN n L) ∧ SubA A A_) := by
  refine callA_of_denA ⟨Tryd.prog, 27, Tryd.f27, 19, [0, 1, 2, 3, 4, 5, 6], [], [], _⟩ (args := [_, _]) Tryd.func27 rfl (by kernel_rfl) Tryd.ntmps27 (by simp) (by kernel_rfl) ?_
  intro ν fr; have nuE := fr.nu
  have sA : SubA A ((ν 1, .cells #[.int .i64 n] 3) :: (ν 0, .cells #[.int .i64 T, .slice p L.length cap] 24) :: A) := SubA.skip (fr.2 1) (SubA.skip (fr.2 0) (SubA.refl _))
  have fe := findE_v _ L p cap (hL.mono sA) hl (ν 1) n (by simp [Vm.look])
  cases hp : posN n L with
  | none =>
    have i0 : (idxI none < 0) = True := by simp [idxI]
    have hg : getN n L = none := by unfold getN; rw [hp]
    simp (maxDischargeDepth := 16) only [argE_nil, argE_cons, ↓vmD, vmV, vmStd, Nat.reduceMul, ↓reduceIte, Nat.reduceAdd, Nat.reduceSub, Nat.reduceEqDiff, Nat.reduceLT, Nat.reduceLeDiff, reduceCtorEq, Int.reduceToNat, Int.reduceLT, Int.reduceLE, Int.reduceEq, Int.reduceNeg, Int.reduceBEq, Int.reduceBNe, String.reduceEq, forall_const, ↓vmDA, vmVA, ↓vmQA, vmR, vmRA, ↓vmSA, vmSV, tyS, nuE, SubA.skip, SubA.refl, fr.2, digits03_v, isDate03_v, rreference_v, valueOf_v, rvalue_v, split_v, rsplit_v, fe, hp, i0, hg, getV]
  | some i =>
    obtain ⟨x, hx⟩ := posN_at hp
    have hg : getN n L = some x := by unfold getN; rw [hp]; exact hx
    have hlt := (List.getElem?_eq_some_iff.1 hx).1
    have i0 : (idxI (some i) < 0) = False := by simp [idxI]
    have i1 : (0 ≤ idxI (some i)) = True := by simp [idxI]
    have i2 : (idxI (some i) < (L.length : Int)) = True := by simp [idxI]; omega
    have i3 : (idxI (some i)).toNat = i := by simp [idxI]
    obtain ⟨b, off, cs, ty, fr0, rfl, hb, hc, hcc⟩ := hL.at hx
    have c1 : cs[off + i * 2 + 1]? = some (.string x.val) := by simpa using hcc 1 _ rfl
    have k0 := look_ne (fr.2 0) hb
    have k1 := look_ne (fr.2 1) hb
    simp (maxDischargeDepth := 16) only [argE_nil, argE_cons, ↓vmD, vmV, vmStd, Nat.reduceMul, ↓reduceIte, Nat.reduceAdd, Nat.reduceSub, Nat.reduceEqDiff, Nat.reduceLT, Nat.reduceLeDiff, reduceCtorEq, Int.reduceToNat, Int.reduceLT, Int.reduceLE, Int.reduceEq, Int.reduceNeg, Int.reduceBEq, Int.reduceBNe, String.reduceEq, forall_const, ↓vmDA, vmVA, ↓vmQA, vmR, vmRA, ↓vmSA, vmSV, tyS, nuE, SubA.skip, SubA.refl, fr.2, digits03_v, isDate03_v, rreference_v, valueOf_v, rvalue_v, split_v, rsplit_v, fe, hp, i0, i1, i2, i3, hg, getV, hb, k0, k1, c1]
theorem getM_w (A : AH) (T : Int) (L : List El) (p : Option Addr) (cap : Nat) (hL : StR elC 2 A p L) (hl : L.length ≤ 1000000) (n : Int) (B_ : AH) (hB_ : SubA A B_) : valA Tryd.prog 27 #[.agg #[.int .i64 T, .slice p L.length cap], .int .i64 n] B_ = some (getV (getN n L)) := valA_eq (pureA_at (by kernel_rfl) (getM_h A T L p cap hL hl n) hB_)
theorem getM_v (A : AH) (T : Int) (L : List El) (p : Option Addr) (cap : Nat) (hL : StR elC 2 A p L) (hl : L.length ≤ 1000000) (n : Int) : valA Tryd.prog 27 #[.agg #[.int .i64 T, .slice p L.length cap], .int .i64 n] A = some (getV (getN n L)) := valA_eq (pureA_at (by kernel_rfl) (getM_h A T L p cap hL hl n) (SubA.refl _))
theorem element_h (A : AH) (T : Int) (L : List El) (p : Option Addr) (cap : Nat) (hL : StR elC 2 A p L) (hl : L.length ≤ 1000000) (n : Int) : CallA Tryd.prog 29 #[.agg #[.int .i64 T, .slice p L.length cap], .int .i64 n] A (fun u_ A_ => u_ = getV (getN n L) ∧ SubA A A_) := by
  refine callA_of_denA ⟨Tryd.prog, 29, Tryd.f29, 28, [0, 1, 2, 4, 5, 6], [], [], _⟩ (args := [_, _]) Tryd.func29 rfl (by kernel_rfl) Tryd.ntmps29 (by simp) (by kernel_rfl) ?_
  intro ν fr; have nuE := fr.nu
  simp (maxDischargeDepth := 16) only [argE_nil, argE_cons, ↓vmD, vmV, vmStd, Nat.reduceMul, ↓reduceIte, Nat.reduceAdd, Nat.reduceSub, Nat.reduceEqDiff, Nat.reduceLT, Nat.reduceLeDiff, reduceCtorEq, Int.reduceToNat, Int.reduceLT, Int.reduceLE, Int.reduceEq, Int.reduceNeg, Int.reduceBEq, Int.reduceBNe, String.reduceEq, forall_const, ↓vmDA, vmVA, ↓vmQA, vmR, vmRA, ↓vmSA, vmSV, tyS, nuE, SubA.skip, SubA.refl, fr.2, digits03_v, isDate03_v, rreference_v, valueOf_v, rvalue_v, split_v, rsplit_v]
  have f0 := fr.2 0
  obtain ⟨n0, hn0⟩ : ∃ n0, n0 = ν 0 := ⟨_, rfl⟩
  rw [← hn0] at f0 ⊢
  obtain ⟨e, l, he, h2, h3⟩ : ∃ (e : Nat) (l : List El), e = 0 ∧ getN n L = getN n l ∧ l = L.drop e := ⟨0, L, rfl, rfl, by simp⟩
  rw [show (6, some (Value.int .i64 0)) = (6, some (Value.int .i64 (e : Int))) by rw [he]; rfl]
  clear he nuE fr hn0
  induction l generalizing e with
  | nil =>
    have hle := drop_nil h3
    have hlt : ((e : Int) < (L.length : Int)) = False := by simp; omega
    refine LoopA.intro (by kernel_rfl) ?_
    intro ν fr; have nuE := And.intro (fr.mem (b := n0) (by simp)) (fr.nu)
    have hg : getN n L = none := by rw [h2]; rfl
    simp (maxDischargeDepth := 16) only [argE_nil, argE_cons, ↓vmD, vmV, vmStd, Nat.reduceMul, ↓reduceIte, Nat.reduceAdd, Nat.reduceSub, Nat.reduceEqDiff, Nat.reduceLT, Nat.reduceLeDiff, reduceCtorEq, Int.reduceToNat, Int.reduceLT, Int.reduceLE, Int.reduceEq, Int.reduceNeg, Int.reduceBEq, Int.reduceBNe, String.reduceEq, forall_const, ↓vmDA, vmVA, ↓vmQA, vmR, vmRA, ↓vmSA, vmSV, tyS, nuE, SubA.skip, SubA.refl, fr.2, digits03_v, isDate03_v, rreference_v, valueOf_v, rvalue_v, split_v, rsplit_v, f0, hlt, hg, getV]
  | cons a l ih =>
    obtain ⟨ha, hl2, h3'⟩ := drop_some h3
    have hlt : ((e : Int) < (L.length : Int)) = True := by simp; omega
    have we : IntKind.i64.wrap ((e : Int) + 1) = ((e + 1 : Nat) : Int) := by rw [w_i64 (by omega) (by omega)]; omega
    obtain ⟨b, off, cs, ty, fr0, rfl, hb, hc, hcc⟩ := hL.at ha
    have c0 : cs[off + e * 2]? = some (.int .i64 a.num) := by simpa using hcc 0 _ rfl
    have c1 : cs[off + e * 2 + 1]? = some (.string a.val) := by simpa using hcc 1 _ rfl
    have k0 := look_ne f0 hb
    refine LoopA.intro (by kernel_rfl) ?_
    intro ν fr; have nuE := And.intro (fr.mem (b := n0) (by simp)) (fr.nu)
    by_cases hk : a.num = n
    · have hk2 : (a.num == n) = true := by simpa using hk
      have hk3 : getN n (a :: l) = some a := by simp [getN, posN, hk]
      simp (maxDischargeDepth := 16) only [argE_nil, argE_cons, ↓vmD, vmV, vmStd, Nat.reduceMul, ↓reduceIte, Nat.reduceAdd, Nat.reduceSub, Nat.reduceEqDiff, Nat.reduceLT, Nat.reduceLeDiff, reduceCtorEq, Int.reduceToNat, Int.reduceLT, Int.reduceLE, Int.reduceEq, Int.reduceNeg, Int.reduceBEq, Int.reduceBNe, String.reduceEq, forall_const, ↓vmDA, vmVA, ↓vmQA, vmR, vmRA, ↓vmSA, vmSV, tyS, nuE, SubA.skip, SubA.refl, fr.2, digits03_v, isDate03_v, rreference_v, valueOf_v, rvalue_v, split_v, rsplit_v, f0, k0, hlt, hb, c0, c1, hk2, h2, hk3, getV]
    · have hk2 : (a.num == n) = false := by simpa using hk
      have hk3 : getN n (a :: l) = getN n l := by
        simp only [getN, posN]
        rw [if_neg hk]
        cases posN n l <;> simp
      simp (maxDischargeDepth := 16) only [argE_nil, argE_cons, ↓vmD, vmV, vmStd, Nat.reduceMul, ↓reduceIte, Nat.reduceAdd, Nat.reduceSub, Nat.reduceEqDiff, Nat.reduceLT, Nat.reduceLeDiff, reduceCtorEq, Int.reduceToNat, Int.reduceLT, Int.reduceLE, Int.reduceEq, Int.reduceNeg, Int.reduceBEq, Int.reduceBNe, String.reduceEq, forall_const, ↓vmDA, vmVA, ↓vmQA, vmR, vmRA, ↓vmSA, vmSV, tyS, nuE, SubA.skip, SubA.refl, fr.2, digits03_v, isDate03_v, rreference_v, valueOf_v, rvalue_v, split_v, rsplit_v, f0, k0, hlt, hb, c0, c1, hk2, we]
      exact LoopA.weak (ih (e + 1) (by rw [h2, hk3]) h3') (by simp only [subE, get_cons, Nat.reduceEqDiff, ↓reduceIte, reduceCtorEq, Nat.reduceAdd, and_self, and_true]) (SubA.refl _)
theorem element_w (A : AH) (T : Int) (L : List El) (p : Option Addr) (cap : Nat) (hL : StR elC 2 A p L) (hl : L.length ≤ 1000000) (n : Int) (B_ : AH) (hB_ : SubA A B_) : valA Tryd.prog 29 #[.agg #[.int .i64 T, .slice p L.length cap], .int .i64 n] B_ = some (getV (getN n L)) := valA_eq (pureA_at (by kernel_rfl) (element_h A T L p cap hL hl n) hB_)
theorem element_v (A : AH) (T : Int) (L : List El) (p : Option Addr) (cap : Nat) (hL : StR elC 2 A p L) (hl : L.length ≤ 1000000) (n : Int) : valA Tryd.prog 29 #[.agg #[.int .i64 T, .slice p L.length cap], .int .i64 n] A = some (getV (getN n L)) := valA_eq (pureA_at (by kernel_rfl) (element_h A T L p cap hL hl n) (SubA.refl _))
def valS (o : Option El) : ByteArray := match o with | some x => x.val | none => ⟨#[]⟩
theorem getV_eq (o : Option El) : getV o = .tuple #[.string (valS o), .bool o.isSome] := by cases o <;> rfl
def aboutS (L : List El) : ByteArray := if (getN 37 L).isSome = true then valS (getN 37 L) else valS (getN 11 L)
def kindN (T : Nat) : Nat := if T / 10 % 2 = 1 then T - 10 else T
def keyS (T : Nat) (L : List El) : ByteArray := bs (digs 3 (kindN T / 10)) ++ ⟨#[47]⟩ ++ aboutS L ++ ⟨#[47]⟩ ++ valS (getN 56 L)
def keyV (T : Int) (L : List El) : Value := if 0 ≤ T ∧ T ≤ 9999 then .string (keyS T.toNat L) else .string ⟨#[]⟩
theorem getN_mem {n : Int} {L : List El} {x : El} (h : getN n L = some x) : x ∈ L := by
  unfold getN at h
  split at h
  · exact List.mem_of_getElem? h
  · cases h
theorem valS_sz {L : List El} (hz : ∀ x ∈ L, x.val.size ≤ 100000) (n : Int) : (valS (getN n L)).size ≤ 100000 := by
  cases h : getN n L with
  | none => simp [valS, ByteArray.size]
  | some x => exact hz x (getN_mem h)
theorem aboutS_sz {L : List El} (hz : ∀ x ∈ L, x.val.size ≤ 100000) : (aboutS L).size ≤ 100000 := by
  unfold aboutS
  split
  · exact valS_sz hz _
  · exact valS_sz hz _
theorem kind_facts (T : Nat) (h : T ≤ 9999) : IntKind.i64.wrap ((T : Int).tdiv 10) = ((T / 10 : Nat) : Int) ∧ (((T / 10 : Nat) : Int).tmod 2) = ((T / 10 % 2 : Nat) : Int) ∧ (T / 10 % 2 = 1 → IntKind.i64.wrap ((T : Int) - 10) = ((T - 10 : Nat) : Int)) := by
  refine ⟨by rw [Int.tdiv_eq_ediv_of_nonneg (by omega), w_i64 (by omega) (by omega)]; omega, by rw [Int.tmod_eq_emod_of_nonneg (by omega)]; omega, fun h1 => by rw [w_i64 (by omega) (by omega)]; omega⟩
theorem keyM_h (A : AH) (hT : TabA A) (T : Int) (L : List El) (p : Option Addr) (cap : Nat) (hL : StR elC 2 A p L) (hl : L.length ≤ 1000000) (hz : ∀ x ∈ L, x.val.size ≤ 100000) : CallA Tryd.prog 9 #[.agg #[.int .i64 T, .slice p L.length cap]] A (fun u_ A_ => u_ = keyV T L ∧ SubA A A_) := by
  refine callA_of_denA ⟨Tryd.prog, 9, Tryd.f9, 50, [0, 1, 2, 3, 4, 5, 6], [], [], _⟩ (args := [_]) Tryd.func9 rfl (by kernel_rfl) Tryd.ntmps9 (by simp) (by kernel_rfl) ?_
  intro ν fr; have nuE := fr.nu
  have sA : SubA A ((ν 0, .cells #[.int .i64 T, .slice p L.length cap] 24) :: A) := SubA.skip (fr.2 0) (SubA.refl _)
  by_cases h0 : T < 0
  · have hv : keyV T L = .string ⟨#[]⟩ := if_neg (by omega)
    rw [hv]
    simp (maxDischargeDepth := 16) only [argE_nil, argE_cons, ↓vmD, vmV, vmStd, Nat.reduceMul, ↓reduceIte, Nat.reduceAdd, Nat.reduceSub, Nat.reduceEqDiff, Nat.reduceLT, Nat.reduceLeDiff, reduceCtorEq, Int.reduceToNat, Int.reduceLT, Int.reduceLE, Int.reduceEq, Int.reduceNeg, Int.reduceBEq, Int.reduceBNe, String.reduceEq, forall_const, ↓vmDA, vmVA, ↓vmQA, vmR, vmRA, ↓vmSA, vmSV, tyS, nuE, SubA.skip, SubA.refl, fr.2, digits03_v, isDate03_v, rreference_v, valueOf_v, rvalue_v, split_v, rsplit_v, h0]
  · by_cases h1 : 9999 < T
    · have hv : keyV T L = .string ⟨#[]⟩ := if_neg (by omega)
      rw [hv]
      simp (maxDischargeDepth := 16) only [argE_nil, argE_cons, ↓vmD, vmV, vmStd, Nat.reduceMul, ↓reduceIte, Nat.reduceAdd, Nat.reduceSub, Nat.reduceEqDiff, Nat.reduceLT, Nat.reduceLeDiff, reduceCtorEq, Int.reduceToNat, Int.reduceLT, Int.reduceLE, Int.reduceEq, Int.reduceNeg, Int.reduceBEq, Int.reduceBNe, String.reduceEq, forall_const, ↓vmDA, vmVA, ↓vmQA, vmR, vmRA, ↓vmSA, vmSV, tyS, nuE, SubA.skip, SubA.refl, fr.2, digits03_v, isDate03_v, rreference_v, valueOf_v, rvalue_v, split_v, rsplit_v, h0, h1]
    · obtain ⟨T, rfl⟩ := Int.eq_ofNat_of_zero_le (show 0 ≤ T by omega)
      have hT9 : T ≤ 9999 := by omega
      have hv : keyV (T : Int) L = .string (keyS T L) := by unfold keyV; rw [if_pos (by omega)]; rfl
      rw [hv]
      obtain ⟨k1, k2, k3⟩ := kind_facts T hT9
      have g := fun n => getM_w A T L p cap hL hl n
      simp only [getV_eq] at g
      have s1 := aboutS_sz hz
      have s2 := valS_sz hz 56
      have hk : kindN T ≤ 9999 := by unfold kindN; split <;> omega
      have e47 : (ByteArray.mk #[47]).size = 1 := rfl
      have q1 : (bs (digs 3 (kindN T / 10))).size + (ByteArray.mk #[47]).size ≤ 9223372036854775807 := by simp only [ByteArray.size_append, bs_size, digs_len, e47]; omega
      have q2 : (bs (digs 3 (kindN T / 10)) ++ ⟨#[47]⟩).size + (aboutS L).size ≤ 9223372036854775807 := by simp only [ByteArray.size_append, bs_size, digs_len, e47]; omega
      have q3 : (bs (digs 3 (kindN T / 10)) ++ ⟨#[47]⟩ ++ aboutS L).size + (ByteArray.mk #[47]).size ≤ 9223372036854775807 := by simp only [ByteArray.size_append, bs_size, digs_len, e47]; omega
      have q4 : (bs (digs 3 (kindN T / 10)) ++ ⟨#[47]⟩ ++ aboutS L ++ ⟨#[47]⟩).size + (valS (getN 56 L)).size ≤ 9223372036854775807 := by simp only [ByteArray.size_append, bs_size, digs_len, e47]; omega
      have pd := fun B (hB : SubA A B) => show valA Tryd.prog 28 #[.int .i64 ((kindN T / 10 : Nat) : Int), .int .i64 3] B = _ from padded_w A hT (kindN T / 10) 3 (by omega) (by omega) (by omega) (by omega) B hB
      have k4 : IntKind.i64.wrap ((kindN T : Int).tdiv 10) = ((kindN T / 10 : Nat) : Int) := (kind_facts (kindN T) hk).1
      by_cases hb : T / 10 % 2 = 1
      · have c1 : (((T / 10 % 2 : Nat) : Int) == 1) = true := by rw [hb]; rfl
        have k3 := k3 hb
        rw [show T - 10 = kindN T by unfold kindN; rw [if_pos hb]] at k3
        cases ha : (getN 37 L).isSome with
        | true =>
          have ab : aboutS L = valS (getN 37 L) := by unfold aboutS; rw [if_pos ha]
          rw [ab] at q2 q3 q4
          simp (maxDischargeDepth := 16) only [argE_nil, argE_cons, ↓vmD, vmV, vmStd, Nat.reduceMul, ↓reduceIte, Nat.reduceAdd, Nat.reduceSub, Nat.reduceEqDiff, Nat.reduceLT, Nat.reduceLeDiff, reduceCtorEq, Int.reduceToNat, Int.reduceLT, Int.reduceLE, Int.reduceEq, Int.reduceNeg, Int.reduceBEq, Int.reduceBNe, String.reduceEq, forall_const, ↓vmDA, vmVA, ↓vmQA, vmR, vmRA, ↓vmSA, vmSV, tyS, nuE, SubA.skip, SubA.refl, fr.2, digits03_v, isDate03_v, rreference_v, valueOf_v, rvalue_v, split_v, rsplit_v, h0, h1, k1, k2, c1, k3, k4, sA, g, ha, pd, q1, q2, q3, q4, keyS, ab]
        | false =>
          have ab : aboutS L = valS (getN 11 L) := by unfold aboutS; rw [if_neg (by rw [ha]; simp)]
          rw [ab] at q2 q3 q4
          simp (maxDischargeDepth := 16) only [argE_nil, argE_cons, ↓vmD, vmV, vmStd, Nat.reduceMul, ↓reduceIte, Nat.reduceAdd, Nat.reduceSub, Nat.reduceEqDiff, Nat.reduceLT, Nat.reduceLeDiff, reduceCtorEq, Int.reduceToNat, Int.reduceLT, Int.reduceLE, Int.reduceEq, Int.reduceNeg, Int.reduceBEq, Int.reduceBNe, String.reduceEq, forall_const, ↓vmDA, vmVA, ↓vmQA, vmR, vmRA, ↓vmSA, vmSV, tyS, nuE, SubA.skip, SubA.refl, fr.2, digits03_v, isDate03_v, rreference_v, valueOf_v, rvalue_v, split_v, rsplit_v, h0, h1, k1, k2, c1, k3, k4, sA, g, ha, pd, q1, q2, q3, q4, keyS, ab]
      · have c1 : (((T / 10 % 2 : Nat) : Int) == 1) = false := by simp; omega
        have hkT : kindN T = T := by unfold kindN; rw [if_neg hb]
        rw [hkT] at k4 q1 q2 q3 q4 pd
        cases ha : (getN 37 L).isSome with
        | true =>
          have ab : aboutS L = valS (getN 37 L) := by unfold aboutS; rw [if_pos ha]
          rw [ab] at q2 q3 q4
          simp (maxDischargeDepth := 16) only [argE_nil, argE_cons, ↓vmD, vmV, vmStd, Nat.reduceMul, ↓reduceIte, Nat.reduceAdd, Nat.reduceSub, Nat.reduceEqDiff, Nat.reduceLT, Nat.reduceLeDiff, reduceCtorEq, Int.reduceToNat, Int.reduceLT, Int.reduceLE, Int.reduceEq, Int.reduceNeg, Int.reduceBEq, Int.reduceBNe, String.reduceEq, forall_const, ↓vmDA, vmVA, ↓vmQA, vmR, vmRA, ↓vmSA, vmSV, tyS, nuE, SubA.skip, SubA.refl, fr.2, digits03_v, isDate03_v, rreference_v, valueOf_v, rvalue_v, split_v, rsplit_v, h0, h1, k1, k2, c1, k4, sA, g, ha, pd, q1, q2, q3, q4, keyS, ab, hkT]
        | false =>
          have ab : aboutS L = valS (getN 11 L) := by unfold aboutS; rw [if_neg (by rw [ha]; simp)]
          rw [ab] at q2 q3 q4
          simp (maxDischargeDepth := 16) only [argE_nil, argE_cons, ↓vmD, vmV, vmStd, Nat.reduceMul, ↓reduceIte, Nat.reduceAdd, Nat.reduceSub, Nat.reduceEqDiff, Nat.reduceLT, Nat.reduceLeDiff, reduceCtorEq, Int.reduceToNat, Int.reduceLT, Int.reduceLE, Int.reduceEq, Int.reduceNeg, Int.reduceBEq, Int.reduceBNe, String.reduceEq, forall_const, ↓vmDA, vmVA, ↓vmQA, vmR, vmRA, ↓vmSA, vmSV, tyS, nuE, SubA.skip, SubA.refl, fr.2, digits03_v, isDate03_v, rreference_v, valueOf_v, rvalue_v, split_v, rsplit_v, h0, h1, k1, k2, c1, k4, sA, g, ha, pd, q1, q2, q3, q4, keyS, ab, hkT]
theorem keyM_w (A : AH) (hT : TabA A) (T : Int) (L : List El) (p : Option Addr) (cap : Nat) (hL : StR elC 2 A p L) (hl : L.length ≤ 1000000) (hz : ∀ x ∈ L, x.val.size ≤ 100000) (B_ : AH) (hB_ : SubA A B_) : valA Tryd.prog 9 #[.agg #[.int .i64 T, .slice p L.length cap]] B_ = some (keyV T L) := valA_eq (pureA_at (by kernel_rfl) (keyM_h A hT T L p cap hL hl hz) hB_)
theorem keyM_v (A : AH) (hT : TabA A) (T : Int) (L : List El) (p : Option Addr) (cap : Nat) (hL : StR elC 2 A p L) (hl : L.length ≤ 1000000) (hz : ∀ x ∈ L, x.val.size ≤ 100000) : valA Tryd.prog 9 #[.agg #[.int .i64 T, .slice p L.length cap]] A = some (keyV T L) := valA_eq (pureA_at (by kernel_rfl) (keyM_h A hT T L p cap hL hl hz) (SubA.refl _))
theorem rkeyM_h (A : AH) (T : Int) (L : List El) (p : Option Addr) (cap : Nat) (hL : StR elC 2 A p L) (hl : L.length ≤ 1000000) (hz : ∀ x ∈ L, x.val.size ≤ 100000) : CallA Tryd.prog 10 #[.agg #[.int .i64 T, .slice p L.length cap]] A (fun u_ A_ => u_ = keyV T L ∧ SubA A A_) := by
  refine callA_of_denA ⟨Tryd.prog, 10, Tryd.f10, 50, [0, 1, 2, 3, 4, 5, 6], [], [], _⟩ (args := [_]) Tryd.func10 rfl (by kernel_rfl) Tryd.ntmps10 (by simp) (by kernel_rfl) ?_
  intro ν fr; have nuE := fr.nu
  have sA : SubA A ((ν 0, .cells #[.int .i64 T, .slice p L.length cap] 24) :: A) := SubA.skip (fr.2 0) (SubA.refl _)
  by_cases h0 : T < 0
  · have hv : keyV T L = .string ⟨#[]⟩ := if_neg (by omega)
    rw [hv]
    simp (maxDischargeDepth := 16) only [argE_nil, argE_cons, ↓vmD, vmV, vmStd, Nat.reduceMul, ↓reduceIte, Nat.reduceAdd, Nat.reduceSub, Nat.reduceEqDiff, Nat.reduceLT, Nat.reduceLeDiff, reduceCtorEq, Int.reduceToNat, Int.reduceLT, Int.reduceLE, Int.reduceEq, Int.reduceNeg, Int.reduceBEq, Int.reduceBNe, String.reduceEq, forall_const, ↓vmDA, vmVA, ↓vmQA, vmR, vmRA, ↓vmSA, vmSV, tyS, nuE, SubA.skip, SubA.refl, fr.2, digits03_v, isDate03_v, rreference_v, valueOf_v, rvalue_v, split_v, rsplit_v, h0]
  · by_cases h1 : 9999 < T
    · have hv : keyV T L = .string ⟨#[]⟩ := if_neg (by omega)
      rw [hv]
      simp (maxDischargeDepth := 16) only [argE_nil, argE_cons, ↓vmD, vmV, vmStd, Nat.reduceMul, ↓reduceIte, Nat.reduceAdd, Nat.reduceSub, Nat.reduceEqDiff, Nat.reduceLT, Nat.reduceLeDiff, reduceCtorEq, Int.reduceToNat, Int.reduceLT, Int.reduceLE, Int.reduceEq, Int.reduceNeg, Int.reduceBEq, Int.reduceBNe, String.reduceEq, forall_const, ↓vmDA, vmVA, ↓vmQA, vmR, vmRA, ↓vmSA, vmSV, tyS, nuE, SubA.skip, SubA.refl, fr.2, digits03_v, isDate03_v, rreference_v, valueOf_v, rvalue_v, split_v, rsplit_v, h0, h1]
    · obtain ⟨T, rfl⟩ := Int.eq_ofNat_of_zero_le (show 0 ≤ T by omega)
      have hT9 : T ≤ 9999 := by omega
      have hv : keyV (T : Int) L = .string (keyS T L) := by unfold keyV; rw [if_pos (by omega)]; rfl
      rw [hv]
      obtain ⟨k1, k2, k3⟩ := kind_facts T hT9
      have g := fun n => element_w A T L p cap hL hl n
      simp only [getV_eq] at g
      have s1 := aboutS_sz hz
      have s2 := valS_sz hz 56
      have hk : kindN T ≤ 9999 := by unfold kindN; split <;> omega
      have e47 : (ByteArray.mk #[47]).size = 1 := rfl
      have q1 : (bs (digs 3 (kindN T / 10))).size + (ByteArray.mk #[47]).size ≤ 9223372036854775807 := by simp only [ByteArray.size_append, bs_size, digs_len, e47]; omega
      have q2 : (bs (digs 3 (kindN T / 10)) ++ ⟨#[47]⟩).size + (aboutS L).size ≤ 9223372036854775807 := by simp only [ByteArray.size_append, bs_size, digs_len, e47]; omega
      have q3 : (bs (digs 3 (kindN T / 10)) ++ ⟨#[47]⟩ ++ aboutS L).size + (ByteArray.mk #[47]).size ≤ 9223372036854775807 := by simp only [ByteArray.size_append, bs_size, digs_len, e47]; omega
      have q4 : (bs (digs 3 (kindN T / 10)) ++ ⟨#[47]⟩ ++ aboutS L ++ ⟨#[47]⟩).size + (valS (getN 56 L)).size ≤ 9223372036854775807 := by simp only [ByteArray.size_append, bs_size, digs_len, e47]; omega
      have pd := fun B => show valA Tryd.prog 30 #[.int .i64 ((kindN T / 10 : Nat) : Int), .int .i64 3] B = _ from digits03_v (kindN T / 10) 3 (by omega) (by omega) B
      have k4 : IntKind.i64.wrap ((kindN T : Int).tdiv 10) = ((kindN T / 10 : Nat) : Int) := (kind_facts (kindN T) hk).1
      by_cases hb : T / 10 % 2 = 1
      · have c1 : (((T / 10 % 2 : Nat) : Int) == 1) = true := by rw [hb]; rfl
        have k3 := k3 hb
        rw [show T - 10 = kindN T by unfold kindN; rw [if_pos hb]] at k3
        cases ha : (getN 37 L).isSome with
        | true =>
          have ab : aboutS L = valS (getN 37 L) := by unfold aboutS; rw [if_pos ha]
          rw [ab] at q2 q3 q4
          simp (maxDischargeDepth := 16) only [argE_nil, argE_cons, ↓vmD, vmV, vmStd, Nat.reduceMul, ↓reduceIte, Nat.reduceAdd, Nat.reduceSub, Nat.reduceEqDiff, Nat.reduceLT, Nat.reduceLeDiff, reduceCtorEq, Int.reduceToNat, Int.reduceLT, Int.reduceLE, Int.reduceEq, Int.reduceNeg, Int.reduceBEq, Int.reduceBNe, String.reduceEq, forall_const, ↓vmDA, vmVA, ↓vmQA, vmR, vmRA, ↓vmSA, vmSV, tyS, nuE, SubA.skip, SubA.refl, fr.2, digits03_v, isDate03_v, rreference_v, valueOf_v, rvalue_v, split_v, rsplit_v, h0, h1, k1, k2, c1, k3, k4, sA, g, ha, pd, q1, q2, q3, q4, keyS, ab]
        | false =>
          have ab : aboutS L = valS (getN 11 L) := by unfold aboutS; rw [if_neg (by rw [ha]; simp)]
          rw [ab] at q2 q3 q4
          simp (maxDischargeDepth := 16) only [argE_nil, argE_cons, ↓vmD, vmV, vmStd, Nat.reduceMul, ↓reduceIte, Nat.reduceAdd, Nat.reduceSub, Nat.reduceEqDiff, Nat.reduceLT, Nat.reduceLeDiff, reduceCtorEq, Int.reduceToNat, Int.reduceLT, Int.reduceLE, Int.reduceEq, Int.reduceNeg, Int.reduceBEq, Int.reduceBNe, String.reduceEq, forall_const, ↓vmDA, vmVA, ↓vmQA, vmR, vmRA, ↓vmSA, vmSV, tyS, nuE, SubA.skip, SubA.refl, fr.2, digits03_v, isDate03_v, rreference_v, valueOf_v, rvalue_v, split_v, rsplit_v, h0, h1, k1, k2, c1, k3, k4, sA, g, ha, pd, q1, q2, q3, q4, keyS, ab]
      · have c1 : (((T / 10 % 2 : Nat) : Int) == 1) = false := by simp; omega
        have hkT : kindN T = T := by unfold kindN; rw [if_neg hb]
        rw [hkT] at k4 q1 q2 q3 q4 pd
        cases ha : (getN 37 L).isSome with
        | true =>
          have ab : aboutS L = valS (getN 37 L) := by unfold aboutS; rw [if_pos ha]
          rw [ab] at q2 q3 q4
          simp (maxDischargeDepth := 16) only [argE_nil, argE_cons, ↓vmD, vmV, vmStd, Nat.reduceMul, ↓reduceIte, Nat.reduceAdd, Nat.reduceSub, Nat.reduceEqDiff, Nat.reduceLT, Nat.reduceLeDiff, reduceCtorEq, Int.reduceToNat, Int.reduceLT, Int.reduceLE, Int.reduceEq, Int.reduceNeg, Int.reduceBEq, Int.reduceBNe, String.reduceEq, forall_const, ↓vmDA, vmVA, ↓vmQA, vmR, vmRA, ↓vmSA, vmSV, tyS, nuE, SubA.skip, SubA.refl, fr.2, digits03_v, isDate03_v, rreference_v, valueOf_v, rvalue_v, split_v, rsplit_v, h0, h1, k1, k2, c1, k4, sA, g, ha, pd, q1, q2, q3, q4, keyS, ab, hkT]
        | false =>
          have ab : aboutS L = valS (getN 11 L) := by unfold aboutS; rw [if_neg (by rw [ha]; simp)]
          rw [ab] at q2 q3 q4
          simp (maxDischargeDepth := 16) only [argE_nil, argE_cons, ↓vmD, vmV, vmStd, Nat.reduceMul, ↓reduceIte, Nat.reduceAdd, Nat.reduceSub, Nat.reduceEqDiff, Nat.reduceLT, Nat.reduceLeDiff, reduceCtorEq, Int.reduceToNat, Int.reduceLT, Int.reduceLE, Int.reduceEq, Int.reduceNeg, Int.reduceBEq, Int.reduceBNe, String.reduceEq, forall_const, ↓vmDA, vmVA, ↓vmQA, vmR, vmRA, ↓vmSA, vmSV, tyS, nuE, SubA.skip, SubA.refl, fr.2, digits03_v, isDate03_v, rreference_v, valueOf_v, rvalue_v, split_v, rsplit_v, h0, h1, k1, k2, c1, k4, sA, g, ha, pd, q1, q2, q3, q4, keyS, ab, hkT]
theorem rkeyM_w (A : AH) (T : Int) (L : List El) (p : Option Addr) (cap : Nat) (hL : StR elC 2 A p L) (hl : L.length ≤ 1000000) (hz : ∀ x ∈ L, x.val.size ≤ 100000) (B_ : AH) (hB_ : SubA A B_) : valA Tryd.prog 10 #[.agg #[.int .i64 T, .slice p L.length cap]] B_ = some (keyV T L) := valA_eq (pureA_at (by kernel_rfl) (rkeyM_h A T L p cap hL hl hz) hB_)
theorem rkeyM_v (A : AH) (T : Int) (L : List El) (p : Option Addr) (cap : Nat) (hL : StR elC 2 A p L) (hl : L.length ≤ 1000000) (hz : ∀ x ∈ L, x.val.size ≤ 100000) : valA Tryd.prog 10 #[.agg #[.int .i64 T, .slice p L.length cap]] A = some (keyV T L) := valA_eq (pureA_at (by kernel_rfl) (rkeyM_h A T L p cap hL hl hz) (SubA.refl _))
end Go.Proofs.YthmkhmgmoflmkaaDoor
