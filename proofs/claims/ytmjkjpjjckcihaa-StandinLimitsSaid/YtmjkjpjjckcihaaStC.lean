/-
Stand-in: the walks of the program's decisions.
Conditions: none.
-/
import Derived.Test.YtmjkjpjjckcihaaStB
namespace Go.Proofs.Ytmjkjpjjckcihaa
open Go.Vm
set_option linter.unusedSimpArgs false
set_option linter.unusedVariables false
set_option maxHeartbeats 4000000
set_option maxRecDepth 20000
theorem permD_none {lm : List Lim} {L : List Dec} {iss card : List UInt8} {amt date : Int} (h : limF iss lm = none) : permD lm L iss card amt date = false := by unfold permD; rw [h]
theorem permits_h (E : AH) (sb : Nat) (lm : List Lim) (D : List (Nat × Dec)) (hE : StP E sb lm D) (b : Nat) (d : Dec) (hf : Vm.look E b = none) (ham : 1 ≤ d.amt ∧ d.amt ≤ 999999999999) : CallA Try.prog 32 #[.pointer (some ⟨sb, 0, none⟩), .pointer (some ⟨b, 0, none⟩)] ((b, (Obj.cells #[.string (bs d.key), .string (bs d.iss), .string (bs d.card), .int .i64 d.amt, .int .i64 d.at_, .int .i64 d.date, .bool d.app, .bool d.rev] 85)) :: E) (fun u_ A_ => u_ = .bool (permD lm (D.map Prod.snd) d.iss d.card d.amt d.date) ∧ SubA ((b, (Obj.cells #[.string (bs d.key), .string (bs d.iss), .string (bs d.card), .int .i64 d.amt, .int .i64 d.at_, .int .i64 d.date, .bool d.app, .bool d.rev] 85)) :: E) A_) := by
  refine callA_of_denA ⟨Try.prog, 32, Try.f32, 65, [0, 1, 4, 5, 6, 7, 8], [], [(1, .p [(0, 0), (1, 0), (2, 0), (3, 0), (4, 0), (5, 0), (6, 0), (7, 0), (8, 0), (9, 0), (10, 0), (11, 0), (12, 0), (13, 1), (14, 2), (15, 0)]), (4, .q false), (5, .q false)], _⟩ (args := [_, _]) Try.func32 rfl (by kernel_rfl) Try.ntmps32 (by simp) (by kernel_rfl) ?_
  intro ν fr; have nuE := fr.nu
  obtain ⟨lr, kr, wr, cap, q, es1, cl1, es2, cl2, es3, cl3, W, lsb, ⟨h1, hm1⟩, h2, h3, hw, hs, hb, hu, hamt, hlen, _⟩ := hE.out
  have e1 := look_ne hf lsb
  have e2 := look_ne hf h1
  have uv := used_w E sb lm D hE d.card d.date
  have lk := rdA_lookup (s := bs d.iss) (A := (b, (Obj.cells #[.string (bs d.key), .string (bs d.iss), .string (bs d.card), .int .i64 d.amt, .int .i64 d.at_, .int .i64 d.date, .bool d.app, .bool d.rev] 85)) :: E) (ok := true) (es := es1) (cl := cl1) (r := lr) und_l und_s zro52 (by simp [Vm.look, e2, h1]) hm1
  rw [look_mapLm] at lk
  have n1 := fr.ne (b := b) (by simp (maxDischargeDepth := 16) only [argE_nil, argE_cons, ↓vmD, vmV, vmStd, Nat.reduceMul, ↓reduceIte, Nat.reduceAdd, Nat.reduceSub, Nat.reduceEqDiff, Nat.reduceLT, Nat.reduceLeDiff, reduceCtorEq, Int.reduceToNat, Int.reduceLT, Int.reduceLE, Int.reduceEq, Int.reduceNeg, Int.reduceBEq, Int.reduceBNe, String.reduceEq, forall_const, ↓vmDA, vmVA, ↓vmQA, vmR, vmRA, ↓vmSA, vmSV, tyS, nuE, SubA.skip, SubA.refl, fr.2, areDigits_v, panSum_v, rdigits_v, rsum_v, panLuhn_v, rLuhn_v, panCheck_v, rCheck_v, calIsDate_v, calDay_v, stLim_v])
  cases hl : limF d.iss lm with
  | none =>
    simp only [hl, Option.map_none, Option.getD_none, Option.isSome_none, if_true] at lk
    have e := permD_none (L := D.map Prod.snd) (card := d.card) (amt := d.amt) (date := d.date) hl
    simp (maxDischargeDepth := 16) only [argE_nil, argE_cons, ↓vmD, vmV, vmStd, Nat.reduceMul, ↓reduceIte, Nat.reduceAdd, Nat.reduceSub, Nat.reduceEqDiff, Nat.reduceLT, Nat.reduceLeDiff, reduceCtorEq, Int.reduceToNat, Int.reduceLT, Int.reduceLE, Int.reduceEq, Int.reduceNeg, Int.reduceBEq, Int.reduceBNe, String.reduceEq, forall_const, ↓vmDA, vmVA, ↓vmQA, vmR, vmRA, ↓vmSA, vmSV, tyS, nuE, SubA.skip, SubA.refl, fr.2, areDigits_v, panSum_v, rdigits_v, rsum_v, panLuhn_v, rLuhn_v, panCheck_v, rCheck_v, calIsDate_v, calDay_v, stLim_v, e1, e2, lsb, lk, n1, e]
  | some l =>
    simp only [hl, Option.map_some, Option.getD_some, Option.isSome_some, if_true, limC] at lk
    have hsum := sumD_le d.card d.date _ hamt
    have hcnt := cntD_le d.card d.date (D.map Prod.snd)
    have e : permD lm (D.map Prod.snd) d.iss d.card d.amt d.date = (decide (d.amt ≤ l.each) && (decide (sumD d.card d.date (D.map Prod.snd) + d.amt ≤ l.day) && decide ((cntD d.card d.date (D.map Prod.snd) : Int) + 1 ≤ l.cnt))) := by unfold permD; rw [hl]
    have ws : IntKind.i64.wrap (sumD d.card d.date (D.map Prod.snd) + d.amt) = sumD d.card d.date (D.map Prod.snd) + d.amt := w_i64 (by omega) (by omega)
    have wc : IntKind.i64.wrap ((cntD d.card d.date (D.map Prod.snd) : Int) + 1) = (cntD d.card d.date (D.map Prod.snd) : Int) + 1 := w_i64 (by omega) (by omega)
    have f0 := fr.2 0
    have sE : SubA E ((b, (Obj.cells #[.string (bs d.key), .string (bs d.iss), .string (bs d.card), .int .i64 d.amt, .int .i64 d.at_, .int .i64 d.date, .bool d.app, .bool d.rev] 85)) :: E) := SubA.fresh hf (SubA.refl _)
    have uv1 := uv _ (SubA.fresh (o := Obj.cells #[.string (bs l.iss), .int .i64 l.each, .int .i64 l.day, .int .i64 l.cnt] 52) f0 sE)
    simp (maxDischargeDepth := 16) only [argE_nil, argE_cons, ↓vmD, vmV, vmStd, Nat.reduceMul, ↓reduceIte, Nat.reduceAdd, Nat.reduceSub, Nat.reduceEqDiff, Nat.reduceLT, Nat.reduceLeDiff, reduceCtorEq, Int.reduceToNat, Int.reduceLT, Int.reduceLE, Int.reduceEq, Int.reduceNeg, Int.reduceBEq, Int.reduceBNe, String.reduceEq, forall_const, ↓vmDA, vmVA, ↓vmQA, vmR, vmRA, ↓vmSA, vmSV, tyS, nuE, SubA.skip, SubA.refl, fr.2, areDigits_v, panSum_v, rdigits_v, rsum_v, panLuhn_v, rLuhn_v, panCheck_v, rCheck_v, calIsDate_v, calDay_v, stLim_v, e1, e2, lsb, lk, n1, uv1, ws, wc, e]
    rw [Bool.and_assoc]
theorem permits_w (E : AH) (sb : Nat) (lm : List Lim) (D : List (Nat × Dec)) (hE : StP E sb lm D) (b : Nat) (d : Dec) (hf : Vm.look E b = none) (ham : 1 ≤ d.amt ∧ d.amt ≤ 999999999999) (B_ : AH) (hB_ : SubA ((b, (Obj.cells #[.string (bs d.key), .string (bs d.iss), .string (bs d.card), .int .i64 d.amt, .int .i64 d.at_, .int .i64 d.date, .bool d.app, .bool d.rev] 85)) :: E) B_) : valA Try.prog 32 #[.pointer (some ⟨sb, 0, none⟩), .pointer (some ⟨b, 0, none⟩)] B_ = some (.bool (permD lm (D.map Prod.snd) d.iss d.card d.amt d.date)) := valA_eq (pureA_at (by kernel_rfl) (permits_h E sb lm D hE b d hf ham) hB_)
theorem permits_v (E : AH) (sb : Nat) (lm : List Lim) (D : List (Nat × Dec)) (hE : StP E sb lm D) (b : Nat) (d : Dec) (hf : Vm.look E b = none) (ham : 1 ≤ d.amt ∧ d.amt ≤ 999999999999) : valA Try.prog 32 #[.pointer (some ⟨sb, 0, none⟩), .pointer (some ⟨b, 0, none⟩)] ((b, (Obj.cells #[.string (bs d.key), .string (bs d.iss), .string (bs d.card), .int .i64 d.amt, .int .i64 d.at_, .int .i64 d.date, .bool d.app, .bool d.rev] 85)) :: E) = some (.bool (permD lm (D.map Prod.snd) d.iss d.card d.amt d.date)) := valA_eq (pureA_at (by kernel_rfl) (permits_h E sb lm D hE b d hf ham) (SubA.refl _))
theorem sub_dom {A B : AH} (h : SubA A B) : ∀ x, Vm.look A x ≠ none → Vm.look B x ≠ none := fun x hx => by
  cases hl : Vm.look A x with
  | none => exact absurd hl hx
  | some o => rw [h x o hl]; simp
theorem CallA.keep0 {P : Program} {g : FuncId} {args : Array Value} {A A0 : AH} {K0 K : Value → AH → Prop} (hc : CallA P g args A0 K0) (hs : SubA A0 A) (h0 : ∀ v D, K0 v D → ∀ b, Vm.look A0 b ≠ none → Vm.look D b ≠ none) (hk : ∀ v D, K0 v D → K v D) : CallA P g args A K :=
  CallA.use hc hs h0 [] (SubA.nil _) (fun x hx => absurd rfl hx) (fun v D h _ => ⟨D, SubA.refl _, by rw [List.append_nil]; exact hk v D h⟩)
theorem CallA.keepX {P : Program} {g : FuncId} {args : Array Value} {A A0 X : AH} {K0 K : Value → AH → Prop} (hc : CallA P g args A0 K0) (hs : SubA A0 A) (hX : SubA X A) (hd : Dis A0 X) (h0 : ∀ v D, K0 v D → ∀ b, Vm.look A0 b ≠ none → Vm.look D b ≠ none) (hk : ∀ v D, K0 v D → Dis D X → K v (D ++ X)) : CallA P g args A K :=
  CallA.use hc hs h0 X hX hd (fun v D h dD => ⟨D, SubA.refl _, hk v D h dD⟩)
theorem app_dom {E D A : AH} (h : ∀ y, Vm.look E y ≠ none → Vm.look D y ≠ none) : ∀ y, Vm.look (E ++ A) y ≠ none → Vm.look (D ++ A) y ≠ none := fun y hy => by
  rw [look_append] at hy ⊢
  cases hD : Vm.look D y with
  | some o => simp
  | none =>
    cases hE : Vm.look E y with
    | some o => exact absurd hD (h y (by rw [hE]; simp))
    | none => rw [hE] at hy; simpa using hy
theorem SubA.app2 {E D A : AH} (h : SubA E D) (d : Dis D A) : SubA (E ++ A) (D ++ A) := SubA.both (SubA.trans h (SubA.left D A)) d.right
theorem Sep.merge : ∀ {l : List AH} {y z : AH}, Sep (l ++ [y, z]) → Sep (l ++ [y ++ z])
  | [], y, z, h => Sep.one _
  | x :: l, y, z, h => by
    refine ⟨SepT.of fun w hw => ?_, Sep.merge (l := l) h.2⟩
    rcases List.mem_append.1 hw with e | e
    · exact h.1.all w (by simp [e])
    · simp at e
      subst e
      exact Dis.appr (h.1.all y (by simp)) (h.1.all z (by simp))
theorem decB_app (D : List (Nat × Dec)) (b : Nat) (d : Dec) : decB (D ++ [(b, d)]) = decB D ++ [(b, decO d)] := by simp [decB]
theorem sc_ptr (b : Nat) : sliceCells Try.prog 70 1 [(0, .pointer (some ⟨b, 0, none⟩))] = some (82, #[.pointer (some ⟨b, 0, none⟩)]) := by kernel_rfl
theorem dom5 {a b c e f x : Nat} {o1 o2 o3 o4 o5 p1 p2 p3 p4 p5 : Obj} {B Y : AH} (h : Vm.look ((a, p1) :: (b, p2) :: (c, p3) :: (e, p4) :: (f, p5) :: Y) x ≠ none) : Vm.look ((a, o1) :: (b, o2) :: (c, o3) :: (e, o4) :: (f, o5) :: (B ++ Y)) x ≠ none := by
  simp only [Vm.look] at h ⊢
  by_cases h1 : a = x
  · rw [if_pos h1]; simp
  rw [if_neg h1]; rw [if_neg h1] at h
  by_cases h2 : b = x
  · rw [if_pos h2]; simp
  rw [if_neg h2]; rw [if_neg h2] at h
  by_cases h3 : c = x
  · rw [if_pos h3]; simp
  rw [if_neg h3]; rw [if_neg h3] at h
  by_cases h4 : e = x
  · rw [if_pos h4]; simp
  rw [if_neg h4]; rw [if_neg h4] at h
  by_cases h5 : f = x
  · rw [if_pos h5]; simp
  rw [if_neg h5]; rw [if_neg h5] at h
  rw [look_append]
  split
  · simp
  · exact h
theorem remember_h (E : AH) (sb : Nat) (lm : List Lim) (D : List (Nat × Dec)) (hE : StP E sb lm D) (b : Nat) (d : Dec) (hf : Vm.look E b = none) (hkey : posD d.key (D.map Prod.snd) = none) (h256 : D.length < 256) (ham : 1 ≤ d.amt ∧ d.amt ≤ 999999999999) (hrev : d.rev = false) (hwa : d.wai = d.app) : CallA Try.prog 33 #[.pointer (some ⟨sb, 0, none⟩), .pointer (some ⟨b, 0, none⟩)] ((b, (Obj.cells #[.string (bs d.key), .string (bs d.iss), .string (bs d.card), .int .i64 d.amt, .int .i64 d.at_, .int .i64 d.date, .bool d.app, .bool d.rev] 85)) :: E) (fun u_ A_ => u_ = .tuple #[] ∧ ∃ E', StP E' sb lm (D ++ [(b, d)]) ∧ SubA E' A_ ∧ ∀ x, Vm.look ((b, (Obj.cells #[.string (bs d.key), .string (bs d.iss), .string (bs d.card), .int .i64 d.amt, .int .i64 d.at_, .int .i64 d.date, .bool d.app, .bool d.rev] 85)) :: E) x ≠ none → Vm.look A_ x ≠ none) := by
  refine callA_of_denA ⟨Try.prog, 33, Try.f33, 50, [0, 1], [], [(3, .p [(0, 0), (1, 0), (2, 0), (3, 0), (4, 0), (5, 0), (6, 0), (7, 0), (8, 0), (9, 0), (10, 2)]), (5, .p [(0, 0), (1, 0), (2, 0), (3, 0), (4, 0), (5, 0), (6, 0), (7, 0), (8, 0), (9, 2)])], _⟩ (args := [_, _]) Try.func33 rfl (by kernel_rfl) Try.ntmps33 (by simp) (by kernel_rfl) ?_
  intro ν fr; have nuE := fr.nu
  obtain ⟨lr, kr, wr, v, es1, cl1, es2, cl2, es3, cl3, W, Bk, rfl, sp, hm1, hm2, hm3, hw, ho, hn, hok⟩ := hE
  obtain ⟨q, cap, rfl, hcap, hs⟩ := ho.read ptrC_len
  have spB := Sep.fresh hf (Obj.cells #[.string (bs d.key), .string (bs d.iss), .string (bs d.card), .int .i64 d.amt, .int .i64 d.at_, .int .i64 d.date, .bool d.app, .bool d.rev] 85) sp
  have m1 := ne_dis (show Dis [(b, _)] [(sb, _)] from spB.dis2 (i := 0) (j := 1) (by decide) (by simp) (by simp))
  have m2 := ne_dis (show Dis [(b, _)] [(lr, _)] from spB.dis2 (i := 0) (j := 2) (by decide) (by simp) (by simp))
  have m3 := ne_dis (show Dis [(b, _)] [(kr, _)] from spB.dis2 (i := 0) (j := 3) (by decide) (by simp) (by simp))
  have m4 := ne_dis (show Dis [(b, _)] [(wr, _)] from spB.dis2 (i := 0) (j := 4) (by decide) (by simp) (by simp))
  have m5 := ne_dis (show Dis [(sb, _)] [(lr, _)] from spB.dis2 (i := 1) (j := 2) (by decide) (by simp) (by simp))
  have m6 := ne_dis (show Dis [(sb, _)] [(kr, _)] from spB.dis2 (i := 1) (j := 3) (by decide) (by simp) (by simp))
  have m7 := ne_dis (show Dis [(sb, _)] [(wr, _)] from spB.dis2 (i := 1) (j := 4) (by decide) (by simp) (by simp))
  have m8 := ne_dis (show Dis [(lr, _)] [(kr, _)] from spB.dis2 (i := 2) (j := 3) (by decide) (by simp) (by simp))
  have m9 := ne_dis (show Dis [(lr, _)] [(wr, _)] from spB.dis2 (i := 2) (j := 4) (by decide) (by simp) (by simp))
  have m10 := ne_dis (show Dis [(kr, _)] [(wr, _)] from spB.dis2 (i := 3) (j := 4) (by decide) (by simp) (by simp))
  have f0 := fr.2 0
  simp only [cat] at f0 ⊢
  simp (maxDischargeDepth := 16) only [argE_nil, argE_cons, ↓vmD, vmV, vmStd, Nat.reduceMul, ↓reduceIte, Nat.reduceAdd, Nat.reduceSub, Nat.reduceEqDiff, Nat.reduceLT, Nat.reduceLeDiff, reduceCtorEq, Int.reduceToNat, Int.reduceLT, Int.reduceLE, Int.reduceEq, Int.reduceNeg, Int.reduceBEq, Int.reduceBNe, String.reduceEq, forall_const, ↓vmDA, vmVA, ↓vmQA, vmR, vmRA, ↓vmSA, vmSV, tyS, nuE, SubA.skip, SubA.refl, fr.2, areDigits_v, panSum_v, rdigits_v, rsum_v, panLuhn_v, rLuhn_v, panCheck_v, rCheck_v, calIsDate_v, calDay_v, stLim_v, m1, m2, m3, m4, m5, m6, m7, m8, m9, m10, sc_ptr]
  have hX : SubA (cat [[(b, (Obj.cells #[.string (bs d.key), .string (bs d.iss), .string (bs d.card), .int .i64 d.amt, .int .i64 d.at_, .int .i64 d.date, .bool d.app, .bool d.rev] 85))], [(sb, (Obj.cells #[.map (some lr), .slice q (D.map Prod.fst).length cap, .map (some kr), .map (some wr)] 72))], [(lr, .map es1 cl1)], [(kr, .map es2 cl2)], [(wr, .map es3 cl3)], decB D]) (cat [[(b, (Obj.cells #[.string (bs d.key), .string (bs d.iss), .string (bs d.card), .int .i64 d.amt, .int .i64 d.at_, .int .i64 d.date, .bool d.app, .bool d.rev] 85))], [(sb, (Obj.cells #[.map (some lr), .slice q (D.map Prod.fst).length cap, .map (some kr), .map (some wr)] 72))], [(lr, .map es1 cl1)], [(kr, .map es2 cl2)], [(wr, .map es3 cl3)], Bk, decB D]) := spB.subs [0, 1, 2, 3, 4, 6] rfl
  have hBs : SubA Bk (cat [[(b, (Obj.cells #[.string (bs d.key), .string (bs d.iss), .string (bs d.card), .int .i64 d.amt, .int .i64 d.at_, .int .i64 d.date, .bool d.app, .bool d.rev] 85))], [(sb, (Obj.cells #[.map (some lr), .slice q (D.map Prod.fst).length cap, .map (some kr), .map (some wr)] 72))], [(lr, .map es1 cl1)], [(kr, .map es2 cl2)], [(wr, .map es3 cl3)], Bk, decB D]) := spB.subs [5] rfl
  have hXs : SubA (cat [[(b, (Obj.cells #[.string (bs d.key), .string (bs d.iss), .string (bs d.card), .int .i64 d.amt, .int .i64 d.at_, .int .i64 d.date, .bool d.app, .bool d.rev] 85))], [(sb, (Obj.cells #[.map (some lr), .slice q (D.map Prod.fst).length cap, .map (some kr), .map (some wr)] 72))], [(lr, .map es1 cl1)], [(kr, .map es2 cl2)], [(wr, .map es3 cl3)], decB D]) ((ν 0, Obj.cells #[.pointer (some ⟨b, 0, none⟩)] 82) :: cat [[(b, (Obj.cells #[.string (bs d.key), .string (bs d.iss), .string (bs d.card), .int .i64 d.amt, .int .i64 d.at_, .int .i64 d.date, .bool d.app, .bool d.rev] 85))], [(sb, (Obj.cells #[.map (some lr), .slice q (D.map Prod.fst).length cap, .map (some kr), .map (some wr)] 72))], [(lr, .map es1 cl1)], [(kr, .map es2 cl2)], [(wr, .map es3 cl3)], Bk, decB D]) := SubA.fresh f0 hX
  refine RunA.use ?_
  refine append_src (m := 1) (news := ptrC b) (B := Bk) slc70 zro82 rfl (by decide) ho (SubA.fresh f0 hBs) (.inr ⟨ν 0, 0, rfl, by simp (maxDischargeDepth := 16) only [argE_nil, argE_cons, ↓vmD, vmV, vmStd, Nat.reduceMul, ↓reduceIte, Nat.reduceAdd, Nat.reduceSub, Nat.reduceEqDiff, Nat.reduceLT, Nat.reduceLeDiff, reduceCtorEq, Int.reduceToNat, Int.reduceLT, Int.reduceLE, Int.reduceEq, Int.reduceNeg, Int.reduceBEq, Int.reduceBNe, String.reduceEq, forall_const, ↓vmDA, vmVA, ↓vmQA, vmR, vmRA, ↓vmSA, vmSV, tyS, nuE, SubA.skip, SubA.refl, fr.2, areDigits_v, panSum_v, rdigits_v, rsum_v, panLuhn_v, rLuhn_v, panCheck_v, rCheck_v, calIsDate_v, calDay_v, stLim_v, ptrC]⟩) (by simp [ptrC, Value.oneCell']) (by simp only [maxLen, List.length_map]; omega) (by rw [List.length_map]; omega) ?_
  intro v' B' ho' hb'
  have dX : Dis Bk (cat [[(b, (Obj.cells #[.string (bs d.key), .string (bs d.iss), .string (bs d.card), .int .i64 d.amt, .int .i64 d.at_, .int .i64 d.date, .bool d.app, .bool d.rev] 85))], [(sb, (Obj.cells #[.map (some lr), .slice q (D.map Prod.fst).length cap, .map (some kr), .map (some wr)] 72))], [(lr, .map es1 cl1)], [(kr, .map es2 cl2)], [(wr, .map es3 cl3)], decB D]) := (spB.pick [5, 0, 1, 2, 3, 4, 6] rfl rfl).dis
  have dB' : Dis B' (cat [[(b, (Obj.cells #[.string (bs d.key), .string (bs d.iss), .string (bs d.card), .int .i64 d.amt, .int .i64 d.at_, .int .i64 d.date, .bool d.app, .bool d.rev] 85))], [(sb, (Obj.cells #[.map (some lr), .slice q (D.map Prod.fst).length cap, .map (some kr), .map (some wr)] 72))], [(lr, .map es1 cl1)], [(kr, .map es2 cl2)], [(wr, .map es3 cl3)], decB D]) := ap_dis hb' dX hXs
  have sp' := Sep.cons dB' (spB.pick [0, 1, 2, 3, 4, 6] rfl rfl)
  have ow' : OwnL ptrC 1 82 v' B' ((D ++ [(b, d)]).map Prod.fst) := by
    unfold OwnL
    rw [List.map_append, List.length_append, List.flatMap_append]
    simpa using ho'
  obtain ⟨q2, cap2, rfl, _, _⟩ := ow'.read ptrC_len
  have hBD : SubA (cat [Bk, decB D]) (cat [[(b, (Obj.cells #[.string (bs d.key), .string (bs d.iss), .string (bs d.card), .int .i64 d.amt, .int .i64 d.at_, .int .i64 d.date, .bool d.app, .bool d.rev] 85))], [(sb, (Obj.cells #[.map (some lr), .slice q (D.map Prod.fst).length cap, .map (some kr), .map (some wr)] 72))], [(lr, .map es1 cl1)], [(kr, .map es2 cl2)], [(wr, .map es3 cl3)], Bk, decB D]) := spB.subs [5, 6] rfl
  have hX5 : SubA (cat [[(b, (Obj.cells #[.string (bs d.key), .string (bs d.iss), .string (bs d.card), .int .i64 d.amt, .int .i64 d.at_, .int .i64 d.date, .bool d.app, .bool d.rev] 85))], [(sb, (Obj.cells #[.map (some lr), .slice q (D.map Prod.fst).length cap, .map (some kr), .map (some wr)] 72))], [(lr, .map es1 cl1)], [(kr, .map es2 cl2)], [(wr, .map es3 cl3)]]) (cat [[(b, (Obj.cells #[.string (bs d.key), .string (bs d.iss), .string (bs d.card), .int .i64 d.amt, .int .i64 d.at_, .int .i64 d.date, .bool d.app, .bool d.rev] 85))], [(sb, (Obj.cells #[.map (some lr), .slice q (D.map Prod.fst).length cap, .map (some kr), .map (some wr)] 72))], [(lr, .map es1 cl1)], [(kr, .map es2 cl2)], [(wr, .map es3 cl3)], Bk, decB D]) := spB.subs [0, 1, 2, 3, 4] rfl
  have d5 : Dis B' (cat [[(b, (Obj.cells #[.string (bs d.key), .string (bs d.iss), .string (bs d.card), .int .i64 d.amt, .int .i64 d.at_, .int .i64 d.date, .bool d.app, .bool d.rev] 85))], [(sb, (Obj.cells #[.map (some lr), .slice q (D.map Prod.fst).length cap, .map (some kr), .map (some wr)] 72))], [(lr, .map es1 cl1)], [(kr, .map es2 cl2)], [(wr, .map es3 cl3)]]) := (sp'.pick [0, 1, 2, 3, 4, 5] rfl rfl).dis
  have dBD : Dis Bk (decB D) := (spB.pick [5, 6] rfl rfl).dis
  refine ⟨[(b, (Obj.cells #[.string (bs d.key), .string (bs d.iss), .string (bs d.card), .int .i64 d.amt, .int .i64 d.at_, .int .i64 d.date, .bool d.app, .bool d.rev] 85)), (sb, (Obj.cells #[.map (some lr), .slice q (D.map Prod.fst).length cap, .map (some kr), .map (some wr)] 72)), (lr, .map es1 cl1), (kr, .map es2 cl2), (wr, .map es3 cl3)] ++ (B' ++ (Bk ++ decB D)), SubA.both (d5.sub (SubA.fresh f0 hX5)) (SubA.app (SubA.fresh f0 hBD)), ?_⟩
  simp only [List.cons_append, List.nil_append]
  have spF := sp'.pick [1, 2, 3, 4, 5, 0, 6] rfl rfl
  obtain ⟨hu, hamt, hlen, hwai⟩ := hok
  have hnb : b ∉ D.map Prod.fst := fun hm => by
    obtain ⟨p, hp, e⟩ := List.mem_map.1 hm
    obtain ⟨i, hi⟩ := List.getElem?_of_mem hp
    obtain ⟨c, x⟩ := p
    simp only at e
    subst e
    have l1 := look_decB hn hi
    have := (spB.dis2 (i := 0) (j := 6) (by decide) (by simp) (by simp)) c (by rw [show at_ _ 6 = decB D from rfl, l1]; simp)
    simp [at_, Vm.look] at this
  have hok' : DecOk ((D ++ [(b, d)]).map Prod.snd) := by
    rw [List.map_append]
    refine ⟨keyU_app hu hkey, fun x hx => ?_, by simp; omega, fun x hx hxw => ?_⟩
    · rcases List.mem_append.1 hx with h | h
      · exact hamt x h
      · simp at h; rw [h]; exact ham
    · rcases List.mem_append.1 hx with h | h
      · exact hwai x h hxw
      · simp at h; rw [h] at hxw ⊢; rw [hwa] at hxw; exact ⟨hxw, hrev⟩
  have hnod : ((D ++ [(b, d)]).map Prod.fst).Nodup := by
    rw [List.map_append, List.nodup_append]
    refine ⟨hn, by simp, fun a ha c hc => ?_⟩
    simp at hc
    rw [hc]
    intro e
    exact hnb (e ▸ ha)
  intro ν2 fr2
  have fr := fr2
  have nuE := fr.nu
  simp (maxDischargeDepth := 16) only [argE_nil, argE_cons, ↓vmD, vmV, vmStd, Nat.reduceMul, ↓reduceIte, Nat.reduceAdd, Nat.reduceSub, Nat.reduceEqDiff, Nat.reduceLT, Nat.reduceLeDiff, reduceCtorEq, Int.reduceToNat, Int.reduceLT, Int.reduceLE, Int.reduceEq, Int.reduceNeg, Int.reduceBEq, Int.reduceBNe, String.reduceEq, forall_const, ↓vmDA, vmVA, ↓vmQA, vmR, vmRA, ↓vmSA, vmSV, tyS, nuE, SubA.skip, SubA.refl, fr.2, areDigits_v, panSum_v, rdigits_v, rsum_v, panLuhn_v, rLuhn_v, panCheck_v, rCheck_v, calIsDate_v, calDay_v, stLim_v, m1, m2, m3, m4, m5, m6, m7, m8, m9, m10]
  refine rA_update und_k und_s (by simp (maxDischargeDepth := 16) only [argE_nil, argE_cons, ↓vmD, vmV, vmStd, Nat.reduceMul, ↓reduceIte, Nat.reduceAdd, Nat.reduceSub, Nat.reduceEqDiff, Nat.reduceLT, Nat.reduceLeDiff, reduceCtorEq, Int.reduceToNat, Int.reduceLT, Int.reduceLE, Int.reduceEq, Int.reduceNeg, Int.reduceBEq, Int.reduceBNe, String.reduceEq, forall_const, ↓vmDA, vmVA, ↓vmQA, vmR, vmRA, ↓vmSA, vmSV, tyS, nuE, SubA.skip, SubA.refl, fr.2, areDigits_v, panSum_v, rdigits_v, rsum_v, panLuhn_v, rLuhn_v, panCheck_v, rCheck_v, calIsDate_v, calDay_v, stLim_v, m1, m2, m3, m4, m5, m6, m7, m8, m9, m10]; rfl) hm2 ?_
  intro es2' cl2' hm2'
  rw [upd_mapK rfl hkey] at hm2'
  intro ν3 fr3
  simp only [putB, m1, m2, m3, m4, m5, m6, m7, m8, m9, m10, if_false, if_true] at fr3
  have fr := fr3
  have nuE := fr.nu
  cases hA : d.app with
  | false =>
    have spG := Sep.set (l := [[(b, (Obj.cells #[.string (bs d.key), .string (bs d.iss), .string (bs d.card), .int .i64 d.amt, .int .i64 d.at_, .int .i64 d.date, .bool false, .bool d.rev] 85))], [(sb, (Obj.cells #[.map (some lr), .slice q2 ((D ++ [(b, d)]).map Prod.fst).length cap2, .map (some kr), .map (some wr)] 72))], [(lr, .map es1 cl1)], [(kr, .map es2 cl2)], [(wr, .map es3 cl3)], B', decB D]) 3 [(kr, .map es2' cl2')] (Sep.set (l := [[(b, (Obj.cells #[.string (bs d.key), .string (bs d.iss), .string (bs d.card), .int .i64 d.amt, .int .i64 d.at_, .int .i64 d.date, .bool false, .bool d.rev] 85))], [(sb, (Obj.cells #[.map (some lr), .slice q (D.map Prod.fst).length cap, .map (some kr), .map (some wr)] 72))], [(lr, .map es1 cl1)], [(kr, .map es2 cl2)], [(wr, .map es3 cl3)], B', decB D]) 1 [(sb, (Obj.cells #[.map (some lr), .slice q2 ((D ++ [(b, d)]).map Prod.fst).length cap2, .map (some kr), .map (some wr)] 72))] (Sep.set (l := [[(b, (Obj.cells #[.string (bs d.key), .string (bs d.iss), .string (bs d.card), .int .i64 d.amt, .int .i64 d.at_, .int .i64 d.date, .bool d.app, .bool d.rev] 85))], [(sb, (Obj.cells #[.map (some lr), .slice q (D.map Prod.fst).length cap, .map (some kr), .map (some wr)] 72))], [(lr, .map es1 cl1)], [(kr, .map es2 cl2)], [(wr, .map es3 cl3)], B', decB D]) 0 [(b, (Obj.cells #[.string (bs d.key), .string (bs d.iss), .string (bs d.card), .int .i64 d.amt, .int .i64 d.at_, .int .i64 d.date, .bool false, .bool d.rev] 85))] spF one_less) one_less) one_less
    have hdo : decO d = (Obj.cells #[.string (bs d.key), .string (bs d.iss), .string (bs d.card), .int .i64 d.amt, .int .i64 d.at_, .int .i64 d.date, .bool false, .bool d.rev] 85) := by simp only [decO, decC, hA]
    have hE' : StP (cat [[(sb, (Obj.cells #[.map (some lr), .slice q2 ((D ++ [(b, d)]).map Prod.fst).length cap2, .map (some kr), .map (some wr)] 72))], [(lr, .map es1 cl1)], [(kr, .map es2' cl2')], [(wr, .map es3 cl3)], B', decB (D ++ [(b, d)])]) sb lm (D ++ [(b, d)]) := by
      refine ⟨lr, kr, wr, _, es1, cl1, es2', cl2', es3, cl3, W, B', rfl, ?_, hm1, hm2', hm3, ?_, ow', hnod, hok'⟩
      · rw [decB_app, hdo]
        exact Sep.merge (l := [[(sb, (Obj.cells #[.map (some lr), .slice q2 ((D ++ [(b, d)]).map Prod.fst).length cap2, .map (some kr), .map (some wr)] 72))], [(lr, .map es1 cl1)], [(kr, .map es2' cl2')], [(wr, .map es3 cl3)], B']) (spG.pick [1, 2, 3, 4, 5, 6, 0] rfl rfl)
      · rw [List.map_append]
        exact hw.app_no hkey (by rw [hwa, hA])
    have hS : SubA (cat [[(sb, (Obj.cells #[.map (some lr), .slice q2 ((D ++ [(b, d)]).map Prod.fst).length cap2, .map (some kr), .map (some wr)] 72))], [(lr, .map es1 cl1)], [(kr, .map es2' cl2')], [(wr, .map es3 cl3)], B', decB (D ++ [(b, d)])]) ([(b, (Obj.cells #[.string (bs d.key), .string (bs d.iss), .string (bs d.card), .int .i64 d.amt, .int .i64 d.at_, .int .i64 d.date, .bool false, .bool d.rev] 85)), (sb, (Obj.cells #[.map (some lr), .slice q2 ((D ++ [(b, d)]).map Prod.fst).length cap2, .map (some kr), .map (some wr)] 72)), (lr, .map es1 cl1), (kr, .map es2' cl2'), (wr, .map es3 cl3)] ++ (B' ++ (Bk ++ decB D))) := by
      rw [decB_app, hdo]
      refine SubA.trans (spG.subs [1, 2, 3, 4, 5, 6, 0] rfl) ?_
      exact SubA.app (B := [(b, (Obj.cells #[.string (bs d.key), .string (bs d.iss), .string (bs d.card), .int .i64 d.amt, .int .i64 d.at_, .int .i64 d.date, .bool false, .bool d.rev] 85)), (sb, (Obj.cells #[.map (some lr), .slice q2 ((D ++ [(b, d)]).map Prod.fst).length cap2, .map (some kr), .map (some wr)] 72)), (lr, .map es1 cl1), (kr, .map es2' cl2'), (wr, .map es3 cl3)]) (SubA.app dBD.right)
    simp (maxDischargeDepth := 16) only [argE_nil, argE_cons, ↓vmD, vmV, vmStd, Nat.reduceMul, ↓reduceIte, Nat.reduceAdd, Nat.reduceSub, Nat.reduceEqDiff, Nat.reduceLT, Nat.reduceLeDiff, reduceCtorEq, Int.reduceToNat, Int.reduceLT, Int.reduceLE, Int.reduceEq, Int.reduceNeg, Int.reduceBEq, Int.reduceBNe, String.reduceEq, forall_const, ↓vmDA, vmVA, ↓vmQA, vmR, vmRA, ↓vmSA, vmSV, tyS, nuE, SubA.skip, SubA.refl, fr.2, areDigits_v, panSum_v, rdigits_v, rsum_v, panLuhn_v, rLuhn_v, panCheck_v, rCheck_v, calIsDate_v, calDay_v, stLim_v, m1, m2, m3, m4, m5, m6, m7, m8, m9, m10, hA]
    exact ⟨rfl, _, hE', hS, fun x hx => dom5 hx⟩
  | true =>
    simp (maxDischargeDepth := 16) only [argE_nil, argE_cons, ↓vmD, vmV, vmStd, Nat.reduceMul, ↓reduceIte, Nat.reduceAdd, Nat.reduceSub, Nat.reduceEqDiff, Nat.reduceLT, Nat.reduceLeDiff, reduceCtorEq, Int.reduceToNat, Int.reduceLT, Int.reduceLE, Int.reduceEq, Int.reduceNeg, Int.reduceBEq, Int.reduceBNe, String.reduceEq, forall_const, ↓vmDA, vmVA, ↓vmQA, vmR, vmRA, ↓vmSA, vmSV, tyS, nuE, SubA.skip, SubA.refl, fr.2, areDigits_v, panSum_v, rdigits_v, rsum_v, panLuhn_v, rLuhn_v, panCheck_v, rCheck_v, calIsDate_v, calDay_v, stLim_v, m1, m2, m3, m4, m5, m6, m7, m8, m9, m10, hA]
    refine rA_update und_w und_s (by simp (maxDischargeDepth := 16) only [argE_nil, argE_cons, ↓vmD, vmV, vmStd, Nat.reduceMul, ↓reduceIte, Nat.reduceAdd, Nat.reduceSub, Nat.reduceEqDiff, Nat.reduceLT, Nat.reduceLeDiff, reduceCtorEq, Int.reduceToNat, Int.reduceLT, Int.reduceLE, Int.reduceEq, Int.reduceNeg, Int.reduceBEq, Int.reduceBNe, String.reduceEq, forall_const, ↓vmDA, vmVA, ↓vmQA, vmR, vmRA, ↓vmSA, vmSV, tyS, nuE, SubA.skip, SubA.refl, fr.2, areDigits_v, panSum_v, rdigits_v, rsum_v, panLuhn_v, rLuhn_v, panCheck_v, rCheck_v, calIsDate_v, calDay_v, stLim_v, m1, m2, m3, m4, m5, m6, m7, m8, m9, m10]; rfl) hm3 ?_
    intro es3' cl3' hm3'
    intro ν4 fr4
    simp only [putB, m1, m2, m3, m4, m5, m6, m7, m8, m9, m10, if_false, if_true] at fr4
    have fr := fr4
    have nuE := fr.nu
    have spG := Sep.set (l := [[(b, (Obj.cells #[.string (bs d.key), .string (bs d.iss), .string (bs d.card), .int .i64 d.amt, .int .i64 d.at_, .int .i64 d.date, .bool true, .bool d.rev] 85))], [(sb, (Obj.cells #[.map (some lr), .slice q2 ((D ++ [(b, d)]).map Prod.fst).length cap2, .map (some kr), .map (some wr)] 72))], [(lr, .map es1 cl1)], [(kr, .map es2' cl2')], [(wr, .map es3 cl3)], B', decB D]) 4 [(wr, .map es3' cl3')] (Sep.set (l := [[(b, (Obj.cells #[.string (bs d.key), .string (bs d.iss), .string (bs d.card), .int .i64 d.amt, .int .i64 d.at_, .int .i64 d.date, .bool true, .bool d.rev] 85))], [(sb, (Obj.cells #[.map (some lr), .slice q2 ((D ++ [(b, d)]).map Prod.fst).length cap2, .map (some kr), .map (some wr)] 72))], [(lr, .map es1 cl1)], [(kr, .map es2 cl2)], [(wr, .map es3 cl3)], B', decB D]) 3 [(kr, .map es2' cl2')] (Sep.set (l := [[(b, (Obj.cells #[.string (bs d.key), .string (bs d.iss), .string (bs d.card), .int .i64 d.amt, .int .i64 d.at_, .int .i64 d.date, .bool true, .bool d.rev] 85))], [(sb, (Obj.cells #[.map (some lr), .slice q (D.map Prod.fst).length cap, .map (some kr), .map (some wr)] 72))], [(lr, .map es1 cl1)], [(kr, .map es2 cl2)], [(wr, .map es3 cl3)], B', decB D]) 1 [(sb, (Obj.cells #[.map (some lr), .slice q2 ((D ++ [(b, d)]).map Prod.fst).length cap2, .map (some kr), .map (some wr)] 72))] (Sep.set (l := [[(b, (Obj.cells #[.string (bs d.key), .string (bs d.iss), .string (bs d.card), .int .i64 d.amt, .int .i64 d.at_, .int .i64 d.date, .bool d.app, .bool d.rev] 85))], [(sb, (Obj.cells #[.map (some lr), .slice q (D.map Prod.fst).length cap, .map (some kr), .map (some wr)] 72))], [(lr, .map es1 cl1)], [(kr, .map es2 cl2)], [(wr, .map es3 cl3)], B', decB D]) 0 [(b, (Obj.cells #[.string (bs d.key), .string (bs d.iss), .string (bs d.card), .int .i64 d.amt, .int .i64 d.at_, .int .i64 d.date, .bool true, .bool d.rev] 85))] spF one_less) one_less) one_less) one_less
    have hdo : decO d = (Obj.cells #[.string (bs d.key), .string (bs d.iss), .string (bs d.card), .int .i64 d.amt, .int .i64 d.at_, .int .i64 d.date, .bool true, .bool d.rev] 85) := by simp only [decO, decC, hA]
    have hE' : StP (cat [[(sb, (Obj.cells #[.map (some lr), .slice q2 ((D ++ [(b, d)]).map Prod.fst).length cap2, .map (some kr), .map (some wr)] 72))], [(lr, .map es1 cl1)], [(kr, .map es2' cl2')], [(wr, .map es3' cl3')], B', decB (D ++ [(b, d)])]) sb lm (D ++ [(b, d)]) := by
      refine ⟨lr, kr, wr, _, es1, cl1, es2', cl2', es3', cl3', updM W (bs d.key) (.bool true), B', rfl, ?_, hm1, hm2', hm3', ?_, ow', hnod, hok'⟩
      · rw [decB_app, hdo]
        exact Sep.merge (l := [[(sb, (Obj.cells #[.map (some lr), .slice q2 ((D ++ [(b, d)]).map Prod.fst).length cap2, .map (some kr), .map (some wr)] 72))], [(lr, .map es1 cl1)], [(kr, .map es2' cl2')], [(wr, .map es3' cl3')], B']) (spG.pick [1, 2, 3, 4, 5, 6, 0] rfl rfl)
      · rw [List.map_append]
        exact hw.app_yes hkey (by rw [hwa, hA])
    have hS : SubA (cat [[(sb, (Obj.cells #[.map (some lr), .slice q2 ((D ++ [(b, d)]).map Prod.fst).length cap2, .map (some kr), .map (some wr)] 72))], [(lr, .map es1 cl1)], [(kr, .map es2' cl2')], [(wr, .map es3' cl3')], B', decB (D ++ [(b, d)])]) ([(b, (Obj.cells #[.string (bs d.key), .string (bs d.iss), .string (bs d.card), .int .i64 d.amt, .int .i64 d.at_, .int .i64 d.date, .bool true, .bool d.rev] 85)), (sb, (Obj.cells #[.map (some lr), .slice q2 ((D ++ [(b, d)]).map Prod.fst).length cap2, .map (some kr), .map (some wr)] 72)), (lr, .map es1 cl1), (kr, .map es2' cl2'), (wr, .map es3' cl3')] ++ (B' ++ (Bk ++ decB D))) := by
      rw [decB_app, hdo]
      refine SubA.trans (spG.subs [1, 2, 3, 4, 5, 6, 0] rfl) ?_
      exact SubA.app (B := [(b, (Obj.cells #[.string (bs d.key), .string (bs d.iss), .string (bs d.card), .int .i64 d.amt, .int .i64 d.at_, .int .i64 d.date, .bool true, .bool d.rev] 85)), (sb, (Obj.cells #[.map (some lr), .slice q2 ((D ++ [(b, d)]).map Prod.fst).length cap2, .map (some kr), .map (some wr)] 72)), (lr, .map es1 cl1), (kr, .map es2' cl2'), (wr, .map es3' cl3')]) (SubA.app dBD.right)
    simp (maxDischargeDepth := 16) only [argE_nil, argE_cons, ↓vmD, vmV, vmStd, Nat.reduceMul, ↓reduceIte, Nat.reduceAdd, Nat.reduceSub, Nat.reduceEqDiff, Nat.reduceLT, Nat.reduceLeDiff, reduceCtorEq, Int.reduceToNat, Int.reduceLT, Int.reduceLE, Int.reduceEq, Int.reduceNeg, Int.reduceBEq, Int.reduceBNe, String.reduceEq, forall_const, ↓vmDA, vmVA, ↓vmQA, vmR, vmRA, ↓vmSA, vmSV, tyS, nuE, SubA.skip, SubA.refl, fr.2, areDigits_v, panSum_v, rdigits_v, rsum_v, panLuhn_v, rLuhn_v, panCheck_v, rCheck_v, calIsDate_v, calDay_v, stLim_v, m1, m2, m3, m4, m5, m6, m7, m8, m9, m10, hA]
    exact ⟨rfl, _, hE', hS, fun x hx => dom5 hx⟩

end Go.Proofs.Ytmjkjpjjckcihaa
