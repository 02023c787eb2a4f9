/-
Matching: the examples of the chapter.
Conditions: none.
-/
import Derived.Test.YthahheeahdhepaaSam
namespace Go.Proofs.Ythahheeahdhepaa
open Go.Vm
set_option linter.unusedSimpArgs false
set_option linter.unusedVariables false
set_option maxHeartbeats 4000000
set_option maxRecDepth 20000
theorem bsz (a : Array UInt8) : (ByteArray.mk a).size = a.size := rfl
theorem present_h (id cu : ByteArray) (n : Int) (fi : Bool) : CallA Try.prog 25 #[.string id, .int .i64 n, .string cu, .bool fi] [] (fun u_ _ => u_ = .agg #[.int .i64 1, .string ⟨#[112]⟩, .string id, .string ⟨#[115, 104, 111, 112, 98, 97, 110, 107]⟩, .string ⟨#[104, 111, 109, 101, 98, 97, 110, 107]⟩, .string ⟨#[83, 72, 79, 80, 49]⟩, .string ⟨#[52, 48, 48, 48, 48, 48, 48, 48, 48, 48, 48, 48, 48, 48, 55, 55]⟩, .int .i64 n, .string cu, .int .i64 1, .int .i64 0, .bool fi]) := by
  refine callA_of_denA ⟨Try.prog, 25, Try.f25, 15, [0, 1, 2, 3, 8], [], [], _⟩ (args := [_, _, _, _]) Try.func25 rfl (by kernel_rfl) Try.ntmps25 (by simp) (by kernel_rfl) ?_
  intro ν fr; have nuE := fr.nu
  simp (maxDischargeDepth := 16) only [argE_nil, argE_cons, ↓vmD, vmV, vmStd, Nat.reduceMul, ↓reduceIte, Nat.reduceAdd, Nat.reduceSub, Nat.reduceEqDiff, Nat.reduceLT, Nat.reduceLeDiff, reduceCtorEq, Int.reduceToNat, Int.reduceLT, Int.reduceLE, Int.reduceEq, Int.reduceNeg, Int.reduceBEq, Int.reduceBNe, String.reduceEq, forall_const, ↓vmDA, vmVA, ↓vmQA, vmR, vmRA, ↓vmSA, vmSV, tyS, nuE, slIndexByte_v, indexByte_v, indexRune_v, containsRune_v, classOf_v, isWordByte_v, letter_v, digit_v, wordAt_v, rword_v, isName_v, risName_v, recId_v, authId_v, rId13_v, rId27_v, moneyCur_v, authCur_v, rCur27_v, rCur01_v, isPart_v, authCheck_v, inTotal_v, rwithin1_v, exCard_v, recCheck_v, rrecCheck_v, within27_v, rauthCheck_v, fundsA_v, settledA_v, state27A_v, authOpen_v, rauthOpen_v, authUsable_v, rauthUsable_v, authClear_v, rauthClear_v, tolValid_v, rtolValid_v, allowed_v, rallowed_v, checkPres_v, rable_v, apply_v, rapply_v]
theorem present_v (id cu : ByteArray) (n : Int) (fi : Bool) (A_ : AH) : valA Try.prog 25 #[.string id, .int .i64 n, .string cu, .bool fi] A_ = some (.agg #[.int .i64 1, .string ⟨#[112]⟩, .string id, .string ⟨#[115, 104, 111, 112, 98, 97, 110, 107]⟩, .string ⟨#[104, 111, 109, 101, 98, 97, 110, 107]⟩, .string ⟨#[83, 72, 79, 80, 49]⟩, .string ⟨#[52, 48, 48, 48, 48, 48, 48, 48, 48, 48, 48, 48, 48, 48, 55, 55]⟩, .int .i64 n, .string cu, .int .i64 1, .int .i64 0, .bool fi]) := valA_eq (pureA_of (by kernel_rfl) (present_h id cu n fi))
def a0 : Au := ⟨⟨#[97]⟩, ⟨#[69, 85, 82]⟩, 1000, 0, 0, 0, 1, 50, 90, 0⟩
def a2 : Au := ⟨⟨#[97]⟩, ⟨#[69, 85, 82]⟩, 1000, 0, 1000, 0, 2, 50, 90, 2⟩
theorem sc_au1 (a b c d e f g h i j : Value) : sliceCells Try.prog 47 1 [(0, .agg #[a, b, c, d, e, f, g, h, i, j])] = some (23, #[a, b, c, d, e, f, g, h, i, j]) := by kernel_rfl
theorem sc_au2 (a b c d e f g h i j a' b' c' d' e' f' g' h' i' j' : Value) : sliceCells Try.prog 47 2 [(0, .agg #[a, b, c, d, e, f, g, h, i, j]), (1, .agg #[a', b', c', d', e', f', g', h', i', j'])] = some (23, #[a, b, c, d, e, f, g, h, i, j, a', b', c', d', e', f', g', h', i', j']) := by kernel_rfl
theorem v1 : appV ⟨#[97]⟩ ⟨#[69, 85, 82]⟩ 1000 0 0 0 1 50 90 0 1 ⟨#[112]⟩ ⟨#[97]⟩ ⟨#[115, 104, 111, 112, 98, 97, 110, 107]⟩ ⟨#[104, 111, 109, 101, 98, 97, 110, 107]⟩ ⟨#[83, 72, 79, 80, 49]⟩ ⟨#[52, 48, 48, 48, 48, 48, 48, 48, 48, 48, 48, 48, 48, 48, 55, 55]⟩ 400 ⟨#[69, 85, 82]⟩ 1 0 false 1500 20 = .tuple #[.agg #[.string ⟨#[97]⟩, .string ⟨#[69, 85, 82]⟩, .int .i64 1000, .int .i64 0, .int .i64 400, .int .i64 0, .int .i64 1, .int .i64 50, .int .i64 90, .int .i64 1, .int .i64 400, .int .i64 0, .int .i64 0], .int .i64 0] := by kernel_rfl
theorem v2 : appV ⟨#[97]⟩ ⟨#[69, 85, 82]⟩ 1000 0 400 0 1 50 90 1 1 ⟨#[112]⟩ ⟨#[97]⟩ ⟨#[115, 104, 111, 112, 98, 97, 110, 107]⟩ ⟨#[104, 111, 109, 101, 98, 97, 110, 107]⟩ ⟨#[83, 72, 79, 80, 49]⟩ ⟨#[52, 48, 48, 48, 48, 48, 48, 48, 48, 48, 48, 48, 48, 48, 55, 55]⟩ 700 ⟨#[69, 85, 82]⟩ 1 0 false 1500 20 = .tuple #[appZ, .int .i64 22] := by kernel_rfl
theorem v3 : appV ⟨#[97]⟩ ⟨#[69, 85, 82]⟩ 1000 0 400 0 1 50 90 1 1 ⟨#[112]⟩ ⟨#[97]⟩ ⟨#[115, 104, 111, 112, 98, 97, 110, 107]⟩ ⟨#[104, 111, 109, 101, 98, 97, 110, 107]⟩ ⟨#[83, 72, 79, 80, 49]⟩ ⟨#[52, 48, 48, 48, 48, 48, 48, 48, 48, 48, 48, 48, 48, 48, 55, 55]⟩ 700 ⟨#[69, 85, 82]⟩ 1 0 true 1500 20 = .tuple #[.agg #[.string ⟨#[97]⟩, .string ⟨#[69, 85, 82]⟩, .int .i64 1000, .int .i64 0, .int .i64 1000, .int .i64 0, .int .i64 2, .int .i64 50, .int .i64 90, .int .i64 2, .int .i64 600, .int .i64 0, .int .i64 100], .int .i64 0] := by kernel_rfl
theorem v4 : appV ⟨#[97]⟩ ⟨#[69, 85, 82]⟩ 1000 0 0 0 1 50 90 0 1 ⟨#[112]⟩ ⟨#[97]⟩ ⟨#[115, 104, 111, 112, 98, 97, 110, 107]⟩ ⟨#[104, 111, 109, 101, 98, 97, 110, 107]⟩ ⟨#[83, 72, 79, 80, 49]⟩ ⟨#[52, 48, 48, 48, 48, 48, 48, 48, 48, 48, 48, 48, 48, 48, 55, 55]⟩ 300 ⟨#[69, 85, 82]⟩ 1 0 true 1500 20 = .tuple #[.agg #[.string ⟨#[97]⟩, .string ⟨#[69, 85, 82]⟩, .int .i64 1000, .int .i64 700, .int .i64 300, .int .i64 0, .int .i64 2, .int .i64 50, .int .i64 90, .int .i64 1, .int .i64 300, .int .i64 700, .int .i64 0], .int .i64 0] := by kernel_rfl
theorem v5 : appV ⟨#[97]⟩ ⟨#[69, 85, 82]⟩ 1000 0 0 0 1 50 90 0 1 ⟨#[112]⟩ ⟨#[97]⟩ ⟨#[115, 104, 111, 112, 98, 97, 110, 107]⟩ ⟨#[104, 111, 109, 101, 98, 97, 110, 107]⟩ ⟨#[83, 72, 79, 80, 49]⟩ ⟨#[52, 48, 48, 48, 48, 48, 48, 48, 48, 48, 48, 48, 48, 48, 55, 55]⟩ 1170 ⟨#[69, 85, 82]⟩ 1 0 true 1500 20 = .tuple #[.agg #[.string ⟨#[97]⟩, .string ⟨#[69, 85, 82]⟩, .int .i64 1000, .int .i64 0, .int .i64 1000, .int .i64 0, .int .i64 2, .int .i64 50, .int .i64 90, .int .i64 1, .int .i64 1000, .int .i64 0, .int .i64 170], .int .i64 0] := by kernel_rfl
theorem v6 : appV ⟨#[97]⟩ ⟨#[69, 85, 82]⟩ 1000 0 0 0 1 50 90 0 1 ⟨#[112]⟩ ⟨#[97]⟩ ⟨#[115, 104, 111, 112, 98, 97, 110, 107]⟩ ⟨#[104, 111, 109, 101, 98, 97, 110, 107]⟩ ⟨#[83, 72, 79, 80, 49]⟩ ⟨#[52, 48, 48, 48, 48, 48, 48, 48, 48, 48, 48, 48, 48, 48, 55, 55]⟩ 1171 ⟨#[69, 85, 82]⟩ 1 0 true 1500 20 = .tuple #[appZ, .int .i64 22] := by kernel_rfl
theorem w1 : alwV 1000 1500 20 = .tuple #[.int .i64 170, .int .i64 0] := by kernel_rfl
theorem hrd1 : ∀ i a, [a0][i]? = some a → rdCS (some (.cells (Au.cells a0).toArray 23)) (i * 10) 10 = some (Au.cells a).toArray
  | 0, _, h => by cases h; rfl
  | i + 1, _, h => by simp at h
theorem hrd2 : ∀ i a, [a0, a2][i]? = some a → rdCS (some (.cells (Au.cells a0 ++ Au.cells a2).toArray 23)) (i * 10) 10 = some (Au.cells a).toArray
  | 0, _, h => by cases h; rfl
  | 1, _, h => by cases h; rfl
  | i + 2, _, h => by simp at h
theorem z1_ : ∀ a ∈ [a0], a.id.size ≤ 100000 ∧ a.cu.size ≤ 100000 := by intro a h; simp at h; subst h; exact ⟨by decide, by decide⟩
theorem z2_ : ∀ a ∈ [a0, a2], a.id.size ≤ 100000 ∧ a.cu.size ≤ 100000 := by intro a h; simp at h; rcases h with rfl | rfl <;> exact ⟨by decide, by decide⟩
theorem m1 (b : Nat) (A : AH) (h : SubE [(b, .cells #[.string ⟨#[97]⟩, .string ⟨#[69, 85, 82]⟩, .int .i64 1000, .int .i64 0, .int .i64 0, .int .i64 0, .int .i64 1, .int .i64 50, .int .i64 90, .int .i64 0] 23)] A) : valA Try.prog 14 #[.slice (some ⟨b, 0, none⟩) 1 1, .agg #[.int .i64 1, .string ⟨#[112]⟩, .string ⟨#[98]⟩, .string ⟨#[115, 104, 111, 112, 98, 97, 110, 107]⟩, .string ⟨#[104, 111, 109, 101, 98, 97, 110, 107]⟩, .string ⟨#[83, 72, 79, 80, 49]⟩, .string ⟨#[52, 48, 48, 48, 48, 48, 48, 48, 48, 48, 48, 48, 48, 48, 55, 55]⟩, .int .i64 1, .string ⟨#[69, 85, 82]⟩, .int .i64 1, .int .i64 0, .bool true], .agg #[.int .i64 1500, .int .i64 20]] A = some (.tuple #[.int .i64 0, .int .i64 21]) :=
  (mtch_v [a0] b 1 _ hrd1 (by decide) 1 ⟨#[112]⟩ ⟨#[98]⟩ ⟨#[115, 104, 111, 112, 98, 97, 110, 107]⟩ ⟨#[104, 111, 109, 101, 98, 97, 110, 107]⟩ ⟨#[83, 72, 79, 80, 49]⟩ ⟨#[52, 48, 48, 48, 48, 48, 48, 48, 48, 48, 48, 48, 48, 48, 55, 55]⟩ 1 ⟨#[69, 85, 82]⟩ 1 0 true 1500 20 (by decide) (by decide) (by decide) (by decide) (by decide) (by decide) (by decide) z1_ A h).trans (congrArg some (by kernel_rfl))
theorem m2 (b : Nat) (A : AH) (h : SubE [(b, .cells #[.string ⟨#[97]⟩, .string ⟨#[69, 85, 82]⟩, .int .i64 1000, .int .i64 0, .int .i64 0, .int .i64 0, .int .i64 1, .int .i64 50, .int .i64 90, .int .i64 0] 23)] A) : valA Try.prog 14 #[.slice (some ⟨b, 0, none⟩) 1 1, .agg #[.int .i64 1, .string ⟨#[112]⟩, .string ⟨#[97]⟩, .string ⟨#[115, 104, 111, 112, 98, 97, 110, 107]⟩, .string ⟨#[104, 111, 109, 101, 98, 97, 110, 107]⟩, .string ⟨#[83, 72, 79, 80, 49]⟩, .string ⟨#[52, 48, 48, 48, 48, 48, 48, 48, 48, 48, 48, 48, 48, 48, 55, 55]⟩, .int .i64 1, .string ⟨#[85, 83, 68]⟩, .int .i64 1, .int .i64 0, .bool true], .agg #[.int .i64 1500, .int .i64 20]] A = some (.tuple #[.int .i64 0, .int .i64 11]) :=
  (mtch_v [a0] b 1 _ hrd1 (by decide) 1 ⟨#[112]⟩ ⟨#[97]⟩ ⟨#[115, 104, 111, 112, 98, 97, 110, 107]⟩ ⟨#[104, 111, 109, 101, 98, 97, 110, 107]⟩ ⟨#[83, 72, 79, 80, 49]⟩ ⟨#[52, 48, 48, 48, 48, 48, 48, 48, 48, 48, 48, 48, 48, 48, 55, 55]⟩ 1 ⟨#[85, 83, 68]⟩ 1 0 true 1500 20 (by decide) (by decide) (by decide) (by decide) (by decide) (by decide) (by decide) z1_ A h).trans (congrArg some (by kernel_rfl))
theorem um (b : Nat) (A : AH) (hA : Vm.look A b = some (.cells #[.string ⟨#[97]⟩, .string ⟨#[69, 85, 82]⟩, .int .i64 1000, .int .i64 0, .int .i64 0, .int .i64 0, .int .i64 1, .int .i64 50, .int .i64 90, .int .i64 0, .string ⟨#[97]⟩, .string ⟨#[69, 85, 82]⟩, .int .i64 1000, .int .i64 0, .int .i64 1000, .int .i64 0, .int .i64 2, .int .i64 50, .int .i64 90, .int .i64 2] 23)) (K : Value → AH → Prop)
    (hK : ∀ p cap B, StrR B p [⟨#[97]⟩] → (∀ x, Vm.look B x ≠ none → x ≠ b → Vm.look A x = none) → K (.slice p 1 cap) (B ++ A)) : CallA Try.prog 23 #[.slice (some ⟨b, 0, none⟩) 2 2] A K := by
  refine CallA.frame (unmatched_h [a0, a2] b 2 _ hrd2 (by simp) z2_) (SubE.sub ⟨hA, trivial⟩) ?_
  rintro v B ⟨B0, ho, hl, hs, hn⟩
  have e : opens [a0, a2] = [⟨#[97]⟩] := by kernel_rfl
  rw [e] at ho
  obtain ⟨p, cap, rfl, hstr⟩ := OwnA.strR ho hs
  refine ⟨fun x hx => ?_, fun hx => hK p cap B hstr fun x h1 h2 => hx x h1 (by simp only [Vm.look]; rw [if_neg (fun e => h2 e.symm)])⟩
  simp only [Vm.look] at hx
  split at hx
  · rename_i e; subst e; rw [hl]; simp
  · exact absurd rfl hx
theorem StrR.app {B A : AH} {p : Option Addr} {xs : List ByteArray} (h : StrR B p xs) : StrR (B ++ A) p xs := by
  rcases h with h | ⟨g, ca, e, h1, h2, h3⟩
  · exact Or.inl h
  · exact Or.inr ⟨g, ca, e, h1, by rw [look_append, h2], h3⟩
theorem StrR.skip {A : AH} {x : Nat} {o : Obj} (hx : Vm.look A x = none) {p : Option Addr} {xs : List ByteArray} (h : StrR A p xs) : StrR ((x, o) :: A) p xs := by
  rcases h with h | ⟨g, ca, e, h1, h2, h3⟩
  · exact Or.inl h
  · refine Or.inr ⟨g, ca, e, h1, ?_, h3⟩
    simp only [Vm.look]
    rw [if_neg (fun e => by rw [e, h2] at hx; cases hx)]
    exact h2
theorem strR_here (g : Nat) (A : AH) (s : ByteArray) (e : TypeId) : StrR ((g, .cells #[.string s] e) :: A) (some ⟨g, 0, none⟩) [s] :=
  Or.inr ⟨g, #[.string s], e, rfl, by simp [Vm.look], fun i t h => by cases i with | zero => cases h; rfl | succ i => simp at h⟩
theorem sam1 (A : AH) (p q : Option Addr) (cap c2 : Nat) (h1 : StrR A p [⟨#[97]⟩]) (h2 : StrR A q [⟨#[97]⟩]) : valA Try.prog 22 #[.slice p 1 cap, .slice q 1 c2] A = some (.bool true) :=
  (sameTexts_v A [⟨#[97]⟩] [⟨#[97]⟩] p q cap c2 h1 h2 (by simp)).trans (congrArg some (by kernel_rfl))
theorem awake_h : CallA Try.prog 9 #[] [] (fun u_ _ => u_ = .bool true) := by
  refine callA_of_denA ⟨Try.prog, 9, Try.f9, 176, [0, 1, 2, 3, 4, 5, 6, 8, 9, 10, 11, 12, 14, 16, 18, 20], [23], [(4, .p [(0, 0), (1, 0), (2, 0), (3, 0), (4, 0), (5, 0), (6, 0), (7, 1), (8, 2), (9, 0)]), (5, .p [(0, 0), (1, 0), (2, 0), (3, 0), (4, 0), (5, 0), (6, 0), (7, 0), (8, 1), (9, 2), (10, 0)]), (6, .p [(0, 0), (1, 0), (2, 0), (3, 0), (4, 0), (5, 0), (6, 0), (7, 0), (8, 1), (9, 2), (10, 0)]), (7, .p [(0, 0), (1, 0), (2, 0), (3, 0), (4, 0), (5, 0), (6, 0), (7, 1), (8, 2), (9, 0)]), (8, .p [(0, 0), (1, 0), (2, 0), (3, 0), (4, 0), (5, 0), (6, 0), (7, 1), (8, 2), (9, 0)]), (9, .p [(0, 0), (1, 0), (2, 0), (3, 0), (4, 0), (5, 0), (6, 0), (7, 1), (8, 2), (9, 0)]), (10, .p [(0, 0), (2, 0), (3, 0), (1, 1), (4, 0), (5, 0), (6, 0), (7, 0), (8, 0), (9, 0)]), (11, .p [(0, 0), (2, 0), (3, 0), (1, 1), (4, 0), (5, 0), (6, 0), (7, 0), (8, 0), (9, 0)])], _⟩ (args := []) Try.func9 rfl (by kernel_rfl) Try.ntmps9 (by simp) (by kernel_rfl) ?_
  intro ν fr; have nuE := fr.nu
  simp (maxDischargeDepth := 16) only [argE_nil, argE_cons, ↓vmD, vmV, vmStd, Nat.reduceMul, ↓reduceIte, Nat.reduceAdd, Nat.reduceSub, Nat.reduceEqDiff, Nat.reduceLT, Nat.reduceLeDiff, reduceCtorEq, Int.reduceToNat, Int.reduceLT, Int.reduceLE, Int.reduceEq, Int.reduceNeg, Int.reduceBEq, Int.reduceBNe, String.reduceEq, forall_const, ↓vmDA, vmVA, ↓vmQA, vmR, vmRA, ↓vmSA, vmSV, tyS, nuE, slIndexByte_v, indexByte_v, indexRune_v, containsRune_v, classOf_v, isWordByte_v, letter_v, digit_v, wordAt_v, rword_v, isName_v, risName_v, recId_v, authId_v, rId13_v, rId27_v, moneyCur_v, authCur_v, rCur27_v, rCur01_v, isPart_v, authCheck_v, inTotal_v, rwithin1_v, exCard_v, recCheck_v, rrecCheck_v, within27_v, rauthCheck_v, fundsA_v, settledA_v, state27A_v, authOpen_v, rauthOpen_v, authUsable_v, rauthUsable_v, authClear_v, rauthClear_v, tolValid_v, rtolValid_v, allowed_v, rallowed_v, checkPres_v, rable_v, apply_v, rapply_v, present_v, bsz, sc_au1, sc_au2, sc_str, v1, v2, v3, v4, v5, v6, w1, appZ, m1, m2]
  refine um _ _ (by simp (maxDischargeDepth := 16) only [argE_nil, argE_cons, ↓vmD, vmV, vmStd, Nat.reduceMul, ↓reduceIte, Nat.reduceAdd, Nat.reduceSub, Nat.reduceEqDiff, Nat.reduceLT, Nat.reduceLeDiff, reduceCtorEq, Int.reduceToNat, Int.reduceLT, Int.reduceLE, Int.reduceEq, Int.reduceNeg, Int.reduceBEq, Int.reduceBNe, String.reduceEq, forall_const, ↓vmDA, vmVA, ↓vmQA, vmR, vmRA, ↓vmSA, vmSV, tyS, nuE, slIndexByte_v, indexByte_v, indexRune_v, containsRune_v, classOf_v, isWordByte_v, letter_v, digit_v, wordAt_v, rword_v, isName_v, risName_v, recId_v, authId_v, rId13_v, rId27_v, moneyCur_v, authCur_v, rCur27_v, rCur01_v, isPart_v, authCheck_v, inTotal_v, rwithin1_v, exCard_v, recCheck_v, rrecCheck_v, within27_v, rauthCheck_v, fundsA_v, settledA_v, state27A_v, authOpen_v, rauthOpen_v, authUsable_v, rauthUsable_v, authClear_v, rauthClear_v, tolValid_v, rtolValid_v, allowed_v, rallowed_v, checkPres_v, rable_v, apply_v, rapply_v, present_v]) _ ?_
  intro p cap B hstr hfr ν' fr'
  have nuE := fr'.nu
  have st := sam1 _ p (some ⟨ν' 0, 0, none⟩) cap 1 (StrR.skip (fr'.2 0) hstr.app) (strR_here (ν' 0) _ ⟨#[97]⟩ 9)
  simp (maxDischargeDepth := 16) only [argE_nil, argE_cons, ↓vmD, vmV, vmStd, Nat.reduceMul, ↓reduceIte, Nat.reduceAdd, Nat.reduceSub, Nat.reduceEqDiff, Nat.reduceLT, Nat.reduceLeDiff, reduceCtorEq, Int.reduceToNat, Int.reduceLT, Int.reduceLE, Int.reduceEq, Int.reduceNeg, Int.reduceBEq, Int.reduceBNe, String.reduceEq, forall_const, ↓vmDA, vmVA, ↓vmQA, vmR, vmRA, ↓vmSA, vmSV, tyS, nuE, slIndexByte_v, indexByte_v, indexRune_v, containsRune_v, classOf_v, isWordByte_v, letter_v, digit_v, wordAt_v, rword_v, isName_v, risName_v, recId_v, authId_v, rId13_v, rId27_v, moneyCur_v, authCur_v, rCur27_v, rCur01_v, isPart_v, authCheck_v, inTotal_v, rwithin1_v, exCard_v, recCheck_v, rrecCheck_v, within27_v, rauthCheck_v, fundsA_v, settledA_v, state27A_v, authOpen_v, rauthOpen_v, authUsable_v, rauthUsable_v, authClear_v, rauthClear_v, tolValid_v, rtolValid_v, allowed_v, rallowed_v, checkPres_v, rable_v, apply_v, rapply_v, present_v, sc_str, st]
theorem awake_v (A_ : AH) : valA Try.prog 9 #[] A_ = some (.bool true) := valA_eq (pureA_of (by kernel_rfl) (awake_h ))
end Go.Proofs.Ythahheeahdhepaa
