/-
Tokens: the walks of the program's vault: its form, finding, the form of numbers.
Conditions: none.
-/
import Derived.Test.YtoonmogjjddeeaaDoorTokW
namespace Go.Proofs.YtoonmogjjddeeaaDoor
open Go.Vm
set_option linter.unusedSimpArgs false
set_option linter.unusedVariables false
set_option maxHeartbeats 2000000
set_option maxRecDepth 20000
theorem und_map : Tryd.prog.underlying 61 = some (.map 9 3) := by kernel_rfl
theorem und_str : Tryd.prog.underlying 9 = some .string := by kernel_rfl
/-- A vault of the program. -/
def VauP (E : AH) (vb : Nat) (p : List UInt8) (len : Nat) (L : List Tok) : Prop := ∃ (mr : Nat) (v : Value) (es : Array MapEntry) (cl : Nat) (Bk : AH),
  E = (vb, (Obj.cells #[.string (bs p), .int .i64 (len : Int), v, .map (some mr)] 63)) :: (mr, .map es cl) :: Bk ∧ MapIs es (mapT 0 L) ∧ OwnL tokC 7 53 v Bk L ∧ vb ≠ mr ∧ Vm.look Bk vb = none ∧ Vm.look Bk mr = none ∧ TokOk p len L
theorem isV_eq (p : List UInt8) (len : Nat) (s : List UInt8) : isV p len s = (decide (chk s = 0) && (decide (s.length = len) && decide (s.take p.length = p))) := rfl
theorem i_beqn (a b : Nat) : ((a : Int) == (b : Int)) = decide (a = b) := by
  by_cases h : a = b
  · subst h; simp
  · simp [h]; omega
theorem isTok_h (E : AH) (vb : Nat) (p : List UInt8) (len : Nat) (L : List Tok) (hE : VauP E vb p len L) (s : List UInt8) (hs : s.length ≤ 10000) : CallA Tryd.prog 12 #[.pointer (some ⟨vb, 0, none⟩), .string (bs s)] E (fun u_ A_ => u_ = .bool (isV p len s) ∧ SubA E A_) := by
  refine callA_of_denA ⟨Tryd.prog, 12, Tryd.f12, 29, [0, 1, 4], [], [], _⟩ (args := [_, _]) Tryd.func12 rfl (by kernel_rfl) Tryd.ntmps12 (by simp) (by kernel_rfl) ?_
  intro ν fr; have nuE := fr.nu
  obtain ⟨mr, v, es, cl, Bk, rfl, hm, ho, h1, h2, h3, h4⟩ := hE
  have ck := fun A => panCheck_v s (by omega) A
  have hp := fun A => hp_v s p A
  by_cases h0 : chk s = 0
  · by_cases hl : s.length = len
    · simp (maxDischargeDepth := 16) only [argE_nil, argE_cons, ↓vmD, vmV, vmStd, Nat.reduceMul, ↓reduceIte, Nat.reduceAdd, Nat.reduceSub, Nat.reduceEqDiff, Nat.reduceLT, Nat.reduceLeDiff, reduceCtorEq, Int.reduceToNat, Int.reduceLT, Int.reduceLE, Int.reduceEq, Int.reduceNeg, Int.reduceBEq, Int.reduceBNe, String.reduceEq, forall_const, ↓vmDA, vmVA, ↓vmQA, vmR, vmRA, ↓vmSA, vmSV, tyS, nuE, SubA.skip, SubA.refl, fr.2, areDigits_v, panSum_v, rdigits_v, rsum_v, panLuhn_v, rLuhn_v, panCheck_v, rCheck_v, panCd_v, rCd_v, isPrefix_v, rMake_v, isLet_v, isId_v, isNm_v, isTm_v, ck, chk_beq, h0, bs_size, i_beqn, hl, hp, isV_eq, decide_true, Bool.true_and]
    · have hl2 : decide (s.length = len) = false := by simpa using hl
      simp (maxDischargeDepth := 16) only [argE_nil, argE_cons, ↓vmD, vmV, vmStd, Nat.reduceMul, ↓reduceIte, Nat.reduceAdd, Nat.reduceSub, Nat.reduceEqDiff, Nat.reduceLT, Nat.reduceLeDiff, reduceCtorEq, Int.reduceToNat, Int.reduceLT, Int.reduceLE, Int.reduceEq, Int.reduceNeg, Int.reduceBEq, Int.reduceBNe, String.reduceEq, forall_const, ↓vmDA, vmVA, ↓vmQA, vmR, vmRA, ↓vmSA, vmSV, tyS, nuE, SubA.skip, SubA.refl, fr.2, areDigits_v, panSum_v, rdigits_v, rsum_v, panLuhn_v, rLuhn_v, panCheck_v, rCheck_v, panCd_v, rCd_v, isPrefix_v, rMake_v, isLet_v, isId_v, isNm_v, isTm_v, ck, chk_beq, h0, bs_size, i_beqn, hl2, hp, isV_eq, decide_true, Bool.true_and, Bool.false_and]
  · have h02 : decide (chk s = 0) = false := by simpa using h0
    simp (maxDischargeDepth := 16) only [argE_nil, argE_cons, ↓vmD, vmV, vmStd, Nat.reduceMul, ↓reduceIte, Nat.reduceAdd, Nat.reduceSub, Nat.reduceEqDiff, Nat.reduceLT, Nat.reduceLeDiff, reduceCtorEq, Int.reduceToNat, Int.reduceLT, Int.reduceLE, Int.reduceEq, Int.reduceNeg, Int.reduceBEq, Int.reduceBNe, String.reduceEq, forall_const, ↓vmDA, vmVA, ↓vmQA, vmR, vmRA, ↓vmSA, vmSV, tyS, nuE, SubA.skip, SubA.refl, fr.2, areDigits_v, panSum_v, rdigits_v, rsum_v, panLuhn_v, rLuhn_v, panCheck_v, rCheck_v, panCd_v, rCd_v, isPrefix_v, rMake_v, isLet_v, isId_v, isNm_v, isTm_v, ck, chk_beq, h02, isV_eq, Bool.false_and]
theorem isTok_w (E : AH) (vb : Nat) (p : List UInt8) (len : Nat) (L : List Tok) (hE : VauP E vb p len L) (s : List UInt8) (hs : s.length ≤ 10000) (B_ : AH) (hB_ : SubA E B_) : valA Tryd.prog 12 #[.pointer (some ⟨vb, 0, none⟩), .string (bs s)] B_ = some (.bool (isV p len s)) := valA_eq (pureA_at (by kernel_rfl) (isTok_h E vb p len L hE s hs) hB_)
theorem isTok_v (E : AH) (vb : Nat) (p : List UInt8) (len : Nat) (L : List Tok) (hE : VauP E vb p len L) (s : List UInt8) (hs : s.length ≤ 10000) : valA Tryd.prog 12 #[.pointer (some ⟨vb, 0, none⟩), .string (bs s)] E = some (.bool (isV p len s)) := valA_eq (pureA_at (by kernel_rfl) (isTok_h E vb p len L hE s hs) (SubA.refl _))
theorem checkNum_h (E : AH) (vb : Nat) (p : List UInt8) (len : Nat) (L : List Tok) (hE : VauP E vb p len L) (s : List UInt8) (hs : s.length ≤ 10000) : CallA Tryd.prog 29 #[.pointer (some ⟨vb, 0, none⟩), .string (bs s)] E (fun u_ A_ => u_ = .int .i64 (if chk s ≠ 0 then chk s else if isV p len s = true then 4 else 0) ∧ SubA E A_) := by
  refine callA_of_denA ⟨Tryd.prog, 29, Tryd.f29, 14, [0, 1, 4, 5], [], [], _⟩ (args := [_, _]) Tryd.func29 rfl (by kernel_rfl) Tryd.ntmps29 (by simp) (by kernel_rfl) ?_
  intro ν fr; have nuE := fr.nu
  have ck := fun A => panCheck_v s (by omega) A
  have iv := isTok_v E vb p len L hE s hs
  by_cases h0 : chk s = 0
  · cases hi : isV p len s with
    | true => simp (maxDischargeDepth := 16) only [argE_nil, argE_cons, ↓vmD, vmV, vmStd, Nat.reduceMul, ↓reduceIte, Nat.reduceAdd, Nat.reduceSub, Nat.reduceEqDiff, Nat.reduceLT, Nat.reduceLeDiff, reduceCtorEq, Int.reduceToNat, Int.reduceLT, Int.reduceLE, Int.reduceEq, Int.reduceNeg, Int.reduceBEq, Int.reduceBNe, String.reduceEq, forall_const, ↓vmDA, vmVA, ↓vmQA, vmR, vmRA, ↓vmSA, vmSV, tyS, nuE, SubA.skip, SubA.refl, fr.2, areDigits_v, panSum_v, rdigits_v, rsum_v, panLuhn_v, rLuhn_v, panCheck_v, rCheck_v, panCd_v, rCd_v, isPrefix_v, rMake_v, isLet_v, isId_v, isNm_v, isTm_v, ck, chk_bne, h0, iv, hi, decide_true]
    | false => simp (maxDischargeDepth := 16) only [argE_nil, argE_cons, ↓vmD, vmV, vmStd, Nat.reduceMul, ↓reduceIte, Nat.reduceAdd, Nat.reduceSub, Nat.reduceEqDiff, Nat.reduceLT, Nat.reduceLeDiff, reduceCtorEq, Int.reduceToNat, Int.reduceLT, Int.reduceLE, Int.reduceEq, Int.reduceNeg, Int.reduceBEq, Int.reduceBNe, String.reduceEq, forall_const, ↓vmDA, vmVA, ↓vmQA, vmR, vmRA, ↓vmSA, vmSV, tyS, nuE, SubA.skip, SubA.refl, fr.2, areDigits_v, panSum_v, rdigits_v, rsum_v, panLuhn_v, rLuhn_v, panCheck_v, rCheck_v, panCd_v, rCd_v, isPrefix_v, rMake_v, isLet_v, isId_v, isNm_v, isTm_v, ck, chk_bne, h0, iv, hi, decide_true]
  · have h02 : decide (chk s = 0) = false := by simpa using h0
    have q : (if chk s ≠ 0 then chk s else if isV p len s = true then (4 : Int) else 0) = chk s := if_pos h0
    simp (maxDischargeDepth := 16) only [argE_nil, argE_cons, ↓vmD, vmV, vmStd, Nat.reduceMul, ↓reduceIte, Nat.reduceAdd, Nat.reduceSub, Nat.reduceEqDiff, Nat.reduceLT, Nat.reduceLeDiff, reduceCtorEq, Int.reduceToNat, Int.reduceLT, Int.reduceLE, Int.reduceEq, Int.reduceNeg, Int.reduceBEq, Int.reduceBNe, String.reduceEq, forall_const, ↓vmDA, vmVA, ↓vmQA, vmR, vmRA, ↓vmSA, vmSV, tyS, nuE, SubA.skip, SubA.refl, fr.2, areDigits_v, panSum_v, rdigits_v, rsum_v, panLuhn_v, rLuhn_v, panCheck_v, rCheck_v, panCd_v, rCd_v, isPrefix_v, rMake_v, isLet_v, isId_v, isNm_v, isTm_v, ck, chk_bne, h02, q]
theorem checkNum_w (E : AH) (vb : Nat) (p : List UInt8) (len : Nat) (L : List Tok) (hE : VauP E vb p len L) (s : List UInt8) (hs : s.length ≤ 10000) (B_ : AH) (hB_ : SubA E B_) : valA Tryd.prog 29 #[.pointer (some ⟨vb, 0, none⟩), .string (bs s)] B_ = some (.int .i64 (if chk s ≠ 0 then chk s else if isV p len s = true then 4 else 0)) := valA_eq (pureA_at (by kernel_rfl) (checkNum_h E vb p len L hE s hs) hB_)
theorem checkNum_v (E : AH) (vb : Nat) (p : List UInt8) (len : Nat) (L : List Tok) (hE : VauP E vb p len L) (s : List UInt8) (hs : s.length ≤ 10000) : valA Tryd.prog 29 #[.pointer (some ⟨vb, 0, none⟩), .string (bs s)] E = some (.int .i64 (if chk s ≠ 0 then chk s else if isV p len s = true then 4 else 0)) := valA_eq (pureA_at (by kernel_rfl) (checkNum_h E vb p len L hE s hs) (SubA.refl _))
theorem findN_h (E : AH) (vb : Nat) (p : List UInt8) (len : Nat) (L : List Tok) (hE : VauP E vb p len L) (s : List UInt8) (hn : posT s L = none) : CallA Tryd.prog 34 #[.pointer (some ⟨vb, 0, none⟩), .string (bs s)] E (fun u_ A_ => u_ = .pointer none ∧ SubA E A_) := by
  refine callA_of_denA ⟨Tryd.prog, 34, Tryd.f34, 26, [0, 1, 4, 5, 6], [], [], _⟩ (args := [_, _]) Tryd.func34 rfl (by kernel_rfl) Tryd.ntmps34 (by simp) (by kernel_rfl) ?_
  intro ν fr; have nuE := fr.nu
  obtain ⟨mr, v, es, cl, Bk, rfl, hm, ho, h1, h2, h3, h4⟩ := hE
  have g0 : ((vb = mr) = False) ∧ ((mr = vb) = False) := ⟨eq_false h1, eq_false fun e => h1 e.symm⟩
  have lk := rdA_lookup (s := bs s) (A := (vb, (Obj.cells #[.string (bs p), .int .i64 (len : Int), v, .map (some mr)] 63)) :: (mr, .map es cl) :: Bk) (ok := true) (es := es) (cl := cl) (r := mr) und_map und_str zro3 (by simp [Vm.look, h1]) hm
  rw [look_mapT, hn] at lk
  simp only [Option.map_none, Option.getD_none, Option.isSome_none, if_true] at lk
  simp (maxDischargeDepth := 16) only [argE_nil, argE_cons, ↓vmD, vmV, vmStd, Nat.reduceMul, ↓reduceIte, Nat.reduceAdd, Nat.reduceSub, Nat.reduceEqDiff, Nat.reduceLT, Nat.reduceLeDiff, reduceCtorEq, Int.reduceToNat, Int.reduceLT, Int.reduceLE, Int.reduceEq, Int.reduceNeg, Int.reduceBEq, Int.reduceBNe, String.reduceEq, forall_const, ↓vmDA, vmVA, ↓vmQA, vmR, vmRA, ↓vmSA, vmSV, tyS, nuE, SubA.skip, SubA.refl, fr.2, areDigits_v, panSum_v, rdigits_v, rsum_v, panLuhn_v, rLuhn_v, panCheck_v, rCheck_v, panCd_v, rCd_v, isPrefix_v, rMake_v, isLet_v, isId_v, isNm_v, isTm_v, lk]
theorem findN_w (E : AH) (vb : Nat) (p : List UInt8) (len : Nat) (L : List Tok) (hE : VauP E vb p len L) (s : List UInt8) (hn : posT s L = none) (B_ : AH) (hB_ : SubA E B_) : valA Tryd.prog 34 #[.pointer (some ⟨vb, 0, none⟩), .string (bs s)] B_ = some (.pointer none) := valA_eq (pureA_at (by kernel_rfl) (findN_h E vb p len L hE s hn) hB_)
theorem findN_v (E : AH) (vb : Nat) (p : List UInt8) (len : Nat) (L : List Tok) (hE : VauP E vb p len L) (s : List UInt8) (hn : posT s L = none) : valA Tryd.prog 34 #[.pointer (some ⟨vb, 0, none⟩), .string (bs s)] E = some (.pointer none) := valA_eq (pureA_at (by kernel_rfl) (findN_h E vb p len L hE s hn) (SubA.refl _))
theorem findS_h (vb mr g cap : Nat) (cur : Array Value) (es : Array MapEntry) (cl : Nat) (p : List UInt8) (len : Nat) (L : List Tok) (s : List UInt8) (i : Nat) (hm : MapIs es (mapT 0 L)) (h1 : vb ≠ mr) (hl : L.length ≤ 64) (hi : posT s L = some i) : CallA Tryd.prog 34 #[.pointer (some ⟨vb, 0, none⟩), .string (bs s)] [(vb, (Obj.cells #[.string (bs p), .int .i64 (len : Int), .slice (some ⟨g, 0, none⟩) L.length cap, .map (some mr)] 63)), (mr, .map es cl), (g, (Obj.cells cur 53))] (fun u_ A_ => u_ = .pointer (some ⟨g, i * 7, none⟩) ∧ SubA [(vb, (Obj.cells #[.string (bs p), .int .i64 (len : Int), .slice (some ⟨g, 0, none⟩) L.length cap, .map (some mr)] 63)), (mr, .map es cl), (g, (Obj.cells cur 53))] A_) := by
  refine callA_of_denA ⟨Tryd.prog, 34, Tryd.f34, 26, [0, 1, 4, 5, 6], [], [], _⟩ (args := [_, _]) Tryd.func34 rfl (by kernel_rfl) Tryd.ntmps34 (by simp) (by kernel_rfl) ?_
  intro ν fr; have nuE := fr.nu
  have lk := rdA_lookup (s := bs s) (A := [(vb, (Obj.cells #[.string (bs p), .int .i64 (len : Int), .slice (some ⟨g, 0, none⟩) L.length cap, .map (some mr)] 63)), (mr, .map es cl), (g, (Obj.cells cur 53))]) (ok := true) (es := es) (cl := cl) (r := mr) und_map und_str zro3 (by simp [Vm.look, h1]) hm
  rw [look_mapT, hi] at lk
  simp only [Option.map_some, Option.getD_some, Option.isSome_some, if_true] at lk
  obtain ⟨x, hx, _⟩ := posT_some hi
  have hlt := (List.getElem?_eq_some_iff.1 hx).1
  have q1 : ((i : Int) < (L.length : Int)) = True := eq_true (by omega)
  simp (maxDischargeDepth := 16) only [argE_nil, argE_cons, ↓vmD, vmV, vmStd, Nat.reduceMul, ↓reduceIte, Nat.reduceAdd, Nat.reduceSub, Nat.reduceEqDiff, Nat.reduceLT, Nat.reduceLeDiff, reduceCtorEq, Int.reduceToNat, Int.reduceLT, Int.reduceLE, Int.reduceEq, Int.reduceNeg, Int.reduceBEq, Int.reduceBNe, String.reduceEq, forall_const, ↓vmDA, vmVA, ↓vmQA, vmR, vmRA, ↓vmSA, vmSV, tyS, nuE, SubA.skip, SubA.refl, fr.2, areDigits_v, panSum_v, rdigits_v, rsum_v, panLuhn_v, rLuhn_v, panCheck_v, rCheck_v, panCd_v, rCd_v, isPrefix_v, rMake_v, isLet_v, isId_v, isNm_v, isTm_v, lk, q1]
theorem findS_w (vb mr g cap : Nat) (cur : Array Value) (es : Array MapEntry) (cl : Nat) (p : List UInt8) (len : Nat) (L : List Tok) (s : List UInt8) (i : Nat) (hm : MapIs es (mapT 0 L)) (h1 : vb ≠ mr) (hl : L.length ≤ 64) (hi : posT s L = some i) (B_ : AH) (hB_ : SubA [(vb, (Obj.cells #[.string (bs p), .int .i64 (len : Int), .slice (some ⟨g, 0, none⟩) L.length cap, .map (some mr)] 63)), (mr, .map es cl), (g, (Obj.cells cur 53))] B_) : valA Tryd.prog 34 #[.pointer (some ⟨vb, 0, none⟩), .string (bs s)] B_ = some (.pointer (some ⟨g, i * 7, none⟩)) := valA_eq (pureA_at (by kernel_rfl) (findS_h vb mr g cap cur es cl p len L s i hm h1 hl hi) hB_)
theorem findS_v (vb mr g cap : Nat) (cur : Array Value) (es : Array MapEntry) (cl : Nat) (p : List UInt8) (len : Nat) (L : List Tok) (s : List UInt8) (i : Nat) (hm : MapIs es (mapT 0 L)) (h1 : vb ≠ mr) (hl : L.length ≤ 64) (hi : posT s L = some i) : valA Tryd.prog 34 #[.pointer (some ⟨vb, 0, none⟩), .string (bs s)] [(vb, (Obj.cells #[.string (bs p), .int .i64 (len : Int), .slice (some ⟨g, 0, none⟩) L.length cap, .map (some mr)] 63)), (mr, .map es cl), (g, (Obj.cells cur 53))] = some (.pointer (some ⟨g, i * 7, none⟩)) := valA_eq (pureA_at (by kernel_rfl) (findS_h vb mr g cap cur es cl p len L s i hm h1 hl hi) (SubA.refl _))
end Go.Proofs.YtoonmogjjddeeaaDoor
