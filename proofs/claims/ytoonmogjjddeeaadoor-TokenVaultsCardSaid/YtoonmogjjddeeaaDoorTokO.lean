/-
Tokens: the walk of the law TokenOnce.
Conditions: none.
-/
import Derived.Test.YtoonmogjjddeeaaDoorTokF
namespace Go.Proofs.YtoonmogjjddeeaaDoor
open Go.Vm
set_option linter.unusedSimpArgs false
set_option linter.unusedVariables false
set_option maxHeartbeats 4000000
set_option maxRecDepth 20000
def u16C (n : Nat) : List Value := [.int .u16 (n : Int)]
theorem u16_len (n : Nat) : (u16C n).length = 1 := rfl
theorem sc_u8 (n : Int) : sliceCells Tryd.prog 37 1 [(0, .int .u8 n)] = some (5, #[.int .u8 n]) := by kernel_rfl
theorem posT_no {s : List UInt8} : ∀ {L : List Tok}, posT s L = none → ∀ x ∈ L, x.tok ≠ s
  | [], _, _, h => by simp at h
  | y :: l, h, x, hx => by
    simp only [posT] at h
    split at h
    · cases h
    · rename_i hne
      rcases List.mem_cons.1 hx with e | e
      · rw [e]; exact hne
      · exact posT_no (by simpa using h) x e
theorem VauP.ok {E : AH} {vb : Nat} {p : List UInt8} {len : Nat} {L : List Tok} (h : VauP E vb p len L) : TokOk p len L := by
  obtain ⟨_, _, _, _, _, _, _, _, _, _, _, h⟩ := h
  exact h
theorem posT_end {s : List UInt8} : ∀ {L : List Tok} {x : Tok}, posT s L = none → x.tok = s → posT s (L ++ [x]) = some L.length
  | [], x, _, e => by simp [posT, e]
  | y :: l, x, h, e => by
    simp only [posT] at h
    split at h
    · cases h
    · rename_i hne
      simp only [List.cons_append, posT]
      rw [if_neg hne, posT_end (by simpa using h) e]
      simp
theorem tok_set {L : List Tok} {i : Nat} {x y : Tok} (hx : L[i]? = some x) (hy : y.tok = x.tok) : (L.set i y).map Tok.tok = L.map Tok.tok := by
  apply List.ext_getElem?
  intro j
  rw [List.getElem?_map, List.getElem?_map]
  have hi := (List.getElem?_eq_some_iff.1 hx).1
  by_cases h : i = j
  · subst h; rw [List.getElem?_set_self hi, hx]; simp [hy]
  · rw [List.getElem?_set_ne h]
theorem RO.use {E X A1 : AH} {P : Program} {g : FuncId} {args : Array Value} {K : Value → AH → Prop} {u0 : Value}
    (hc : CallA P g args E fun u D => u = u0 ∧ SubA E D) (hs : SubA E A1) (hX : SubA X A1) (hd : Dis E X) (hk : K u0 (E ++ X)) : CallA P g args A1 K :=
  CallA.use hc hs (fun v D h b hb => by
    cases hx : Vm.look E b with
    | none => exact absurd hx hb
    | some o => rw [h.2 b o hx]; simp) X hX hd (by
    rintro v D ⟨rfl, h⟩ dD
    exact ⟨E, h, hk⟩)
theorem sc_st1 (a : ByteArray) : sliceCells Tryd.prog 38 1 [(0, .string a)] = some (9, #[.string a]) := by kernel_rfl
def bsC (t : List UInt8) : List Value := [.string (bs t)]
theorem bsC_len (t : List UInt8) : (bsC t).length = 1 := rfl
theorem onceLaw_h (A : AH) (hT : TabA A) (L : List Nat) (hn : ∀ n ∈ L, n ≤ 65535) (p : Option Addr) (cap : Nat) (hL : StR u16C 1 A p L) (hl : L.length ≤ 9223372036854775807) (pr : UInt8) : CallA Tryd.prog 4 #[.slice p L.length cap, .int .u8 (pr.toNat : Int)] A (fun u_ A_ => u_ = .bool true ∧ SubA A A_) := by
  refine callA_of_denA ⟨Tryd.prog, 4, Tryd.f4, 132, [0, 1, 4, 5, 6, 7, 8, 9, 10, 11, 12, 13], [7, 9, 13, 14, 15], [], _⟩ (args := [_, _]) Tryd.func4 rfl (by kernel_rfl) Tryd.ntmps4 (by simp) (by kernel_rfl) ?_
  intro ν fr; have nuE := fr.nu
  have aw := awk_w A hT
  have aw0 := aw A (SubA.refl _)
  by_cases h80 : 80 < L.length
  · have q : ((80 : Int) < (L.length : Int)) = True := eq_true (by omega)
    simp (maxDischargeDepth := 16) only [argE_nil, argE_cons, ↓vmD, vmV, vmStd, Nat.reduceMul, ↓reduceIte, Nat.reduceAdd, Nat.reduceSub, Nat.reduceEqDiff, Nat.reduceLT, Nat.reduceLeDiff, reduceCtorEq, Int.reduceToNat, Int.reduceLT, Int.reduceLE, Int.reduceEq, Int.reduceNeg, Int.reduceBEq, Int.reduceBNe, String.reduceEq, forall_const, ↓vmDA, vmVA, ↓vmQA, vmR, vmRA, ↓vmSA, vmSV, tyS, nuE, SubA.skip, SubA.refl, fr.2, areDigits_v, panSum_v, rdigits_v, rsum_v, panLuhn_v, rLuhn_v, panCheck_v, rCheck_v, panCd_v, rCd_v, isPrefix_v, rMake_v, isLet_v, isId_v, isNm_v, isTm_v, q, aw0]
  have q : ((80 : Int) < (L.length : Int)) = False := eq_false (by omega)
  have f0 := fr.2 0
  have wu : IntKind.u8.wrap (49 + ((pr.toNat : Int)).tmod 9) = ((49 + pr.toNat % 9 : Nat) : Int) := by
    have e : ((pr.toNat : Int)).tmod 9 = ((pr.toNat % 9 : Nat) : Int) := by rw [Int.tmod_eq_emod_of_nonneg (by omega)]; omega
    rw [e]
    have : pr.toNat % 9 < 9 := Nat.mod_lt _ (by decide)
    rw [w_u8 (by omega) (by omega)]
    omega
  have h9 : pr.toNat % 9 < 9 := Nat.mod_lt _ (by decide)
  have rb := rd_b1 (A := (ν 0, Obj.cells #[.int .u8 ((49 + pr.toNat % 9 : Nat) : Int)] 5) :: A) (g := ν 0) (ty := 5) (fr := (0, 0)) (c := 1) (n := 49 + pr.toNat % 9) (by omega) (by simp [Vm.look])
  have hqn : (UInt8.ofNat (49 + pr.toNat % 9)).toNat = 49 + pr.toNat % 9 := by rw [UInt8.toNat_ofNat']; omega
  have hq1 : digB (UInt8.ofNat (49 + pr.toNat % 9)) = true := by unfold digB; rw [hqn]; simp; omega
  have hq2 : UInt8.ofNat (49 + pr.toNat % 9) ≠ 48 := by
    intro e
    have := congrArg UInt8.toNat e
    rw [hqn] at this
    simp at this
    omega
  simp (maxDischargeDepth := 16) only [argE_nil, argE_cons, ↓vmD, vmV, vmStd, Nat.reduceMul, ↓reduceIte, Nat.reduceAdd, Nat.reduceSub, Nat.reduceEqDiff, Nat.reduceLT, Nat.reduceLeDiff, reduceCtorEq, Int.reduceToNat, Int.reduceLT, Int.reduceLE, Int.reduceEq, Int.reduceNeg, Int.reduceBEq, Int.reduceBNe, String.reduceEq, forall_const, ↓vmDA, vmVA, ↓vmQA, vmR, vmRA, ↓vmSA, vmSV, tyS, nuE, SubA.skip, SubA.refl, fr.2, areDigits_v, panSum_v, rdigits_v, rsum_v, panLuhn_v, rLuhn_v, panCheck_v, rCheck_v, panCd_v, rCd_v, isPrefix_v, rMake_v, isLet_v, isId_v, isNm_v, isTm_v, q, sc_u8, wu, rb]
  refine New.use (X := []) (p := [UInt8.ofNat (49 + pr.toNat % 9)]) (len := 16) (once_O _ hq1 0 (by omega)) (newP_h A hT [UInt8.ofNat (49 + pr.toNat % 9)] (by simp) 16) (SubA.fresh f0 (SubA.refl _)) (SubA.nil _) (fun x hx => absurd rfl hx) ?_
  generalize UInt8.ofNat (49 + pr.toNat % 9) = qd at *
  intro vb E0 hE0 d0 _
  rw [List.append_nil]
  intro ν1 fr1
  have fr := fr1
  have nuE := fr.nu
  simp (maxDischargeDepth := 16) only [argE_nil, argE_cons, ↓vmD, vmV, vmStd, Nat.reduceMul, ↓reduceIte, Nat.reduceAdd, Nat.reduceSub, Nat.reduceEqDiff, Nat.reduceLT, Nat.reduceLeDiff, reduceCtorEq, Int.reduceToNat, Int.reduceLT, Int.reduceLE, Int.reduceEq, Int.reduceNeg, Int.reduceBEq, Int.reduceBNe, String.reduceEq, forall_const, ↓vmDA, vmVA, ↓vmQA, vmR, vmRA, ↓vmSA, vmSV, tyS, nuE, SubA.skip, SubA.refl, fr.2, areDigits_v, panSum_v, rdigits_v, rsum_v, panLuhn_v, rLuhn_v, panCheck_v, rCheck_v, panCd_v, rCd_v, isPrefix_v, rMake_v, isLet_v, isId_v, isNm_v, isTm_v]
  obtain ⟨e, l, T, v, B, E, he, hv, hB, hEE, h3, hTl, hvau, hown, sp⟩ : ∃ (e : Nat) (l : List Nat) (T : List Tok) (v : Value) (B E : AH), e = 0 ∧ v = .slice none 0 0 ∧ B = [] ∧ E = E0 ∧ l = L.drop e ∧ T.length = min e 64 ∧ VauP E vb [qd] 16 T ∧ OwnL bsC 1 9 v B (T.map Tok.tok) ∧ Sep [E, B, A] :=
    ⟨0, L, [], .slice none 0 0, [], E0, rfl, rfl, rfl, rfl, rfl, rfl, hE0, OwnL.nil _ _ _, Sep.cons (show Dis E0 (cat [[], A]) from d0) (Sep.cons (Dis.nil _) (Sep.one A))⟩
  rw [show (8, some (Value.int .i64 0)) = (8, some (Value.int .i64 (e : Int))) by rw [he]; rfl]
  rw [show (7, some (Value.slice none 0 0)) = (7, some v) by rw [hv]]
  refine LoopA.at (A := cat [E, B, A]) ?_ ?_
  · subst hB hEE
    exact SubA.refl _
  clear he hv hB hEE nuE fr fr1 hE0 d0 rb
  simp only [cat]
  have hl80 : L.length ≤ 80 := by omega
  induction l generalizing e T v B E with
  | nil =>
    have hle2 := drop_nil h3
    have hlt : ((e : Int) < (L.length : Int)) = False := by simp; omega
    have sA : SubA A (E ++ (B ++ A)) := sp.subs [2] rfl
    have aw1 := aw _ sA
    refine LoopA.intro (by kernel_rfl) ?_
    intro ν fr; have nuE := fr.nu
    simp (maxDischargeDepth := 16) only [argE_nil, argE_cons, ↓vmD, vmV, vmStd, Nat.reduceMul, ↓reduceIte, Nat.reduceAdd, Nat.reduceSub, Nat.reduceEqDiff, Nat.reduceLT, Nat.reduceLeDiff, reduceCtorEq, Int.reduceToNat, Int.reduceLT, Int.reduceLE, Int.reduceEq, Int.reduceNeg, Int.reduceBEq, Int.reduceBNe, String.reduceEq, forall_const, ↓vmDA, vmVA, ↓vmQA, vmR, vmRA, ↓vmSA, vmSV, tyS, nuE, SubA.skip, SubA.refl, fr.2, areDigits_v, panSum_v, rdigits_v, rsum_v, panLuhn_v, rLuhn_v, panCheck_v, rCheck_v, panCd_v, rCd_v, isPrefix_v, rMake_v, isLet_v, isId_v, isNm_v, isTm_v, hlt, aw1]
    exact sA
  | cons x l ih =>
    obtain ⟨ha, hl2, h3'⟩ := drop_some h3
    have hlt : ((e : Int) < (L.length : Int)) = True := by simp; omega
    have we : IntKind.i64.wrap ((e : Int) + 1) = ((e + 1 : Nat) : Int) := by rw [w_i64 (by omega) (by omega)]; omega
    obtain ⟨bk, off, cs, ty, fr0, hp0, hbk, hcr, hcc⟩ := hL.at ha
    subst hp0
    have hc0 : cs[off + e * 1]? = some (.int .u16 (x : Int)) := hcc 0 _ rfl
    have hx : x ≤ 65535 := hn x (List.mem_of_getElem? ha)
    have sA : SubA A (E ++ (B ++ A)) := sp.subs [2] rfl
    have lb := sA _ _ hbk
    have wx : IntKind.i64.wrap (x : Int) = (x : Int) := w_i64 (by omega) (by omega)
    have m1 := fun A => show valA Tryd.prog 8 #[.string ⟨#[48, 48]⟩, .int .i64 (x : Int), .int .i64 16] A = some (.tuple #[.string (bs (mkL [48, 48] 13 x)), .int .i64 0]) from (rMake_v [48, 48] (by decide) (x : Int) 16 (by omega) A).trans (congrArg some (co_mk x hx))
    refine LoopA.intro (by kernel_rfl) ?_
    intro ν fr; have nuE := fr.nu
    simp (maxDischargeDepth := 16) only [argE_nil, argE_cons, ↓vmD, vmV, vmStd, Nat.reduceMul, ↓reduceIte, Nat.reduceAdd, Nat.reduceSub, Nat.reduceEqDiff, Nat.reduceLT, Nat.reduceLeDiff, reduceCtorEq, Int.reduceToNat, Int.reduceLT, Int.reduceLE, Int.reduceEq, Int.reduceNeg, Int.reduceBEq, Int.reduceBNe, String.reduceEq, forall_const, ↓vmDA, vmVA, ↓vmQA, vmR, vmRA, ↓vmSA, vmSV, tyS, nuE, SubA.skip, SubA.refl, fr.2, areDigits_v, panSum_v, rdigits_v, rsum_v, panLuhn_v, rLuhn_v, panCheck_v, rCheck_v, panCd_v, rCd_v, isPrefix_v, rMake_v, isLet_v, isId_v, isNm_v, isTm_v, hlt, lb, hc0, wx, m1]
    have hp := once_p qd hq2 hq1 x e T (by omega) hTl
    refine VauP.use (X := B) (provP_h E A (sp.pick [0, 2] rfl rfl).dis hT vb [qd] 16 T hvau (mkL [48, 48] 13 x) [119] [] 0 (e : Int) (by rw [co_len]; decide) (by decide) (by decide)) (sp.subs [0, 2] rfl) (sp.subs [1] rfl) (sp.pick [1, 0, 2] rfl rfl).dis.symm ?_
    intro E1 hE1 d1 dx1
    rw [List.append_assoc]
    have sp1 : Sep [E1, A, B] := Sep.cons (Dis.appr d1 (dx1.subl (SubA.left E1 A))) (Sep.cons (dx1.subl d1.right) (Sep.one B))
    have sA1 : SubA A (E1 ++ (A ++ B)) := sp1.subs [1] rfl
    have sp2 : Sep [E1, B, A] := sp1.pick [0, 2, 1] rfl rfl
    have sw : SubA (E1 ++ (B ++ A)) (E1 ++ (A ++ B)) := sp1.subs [0, 2, 1] rfl
    have lb1 := sA1 _ _ hbk
    by_cases h64 : e < 64
    rotate_left
    · rw [if_neg h64] at hp
      have hv := (prov_err hp (by decide)).1
      rw [(prov_err hp (by decide)).2] at hE1
      have q64 : ((e : Int) < 64) = False := eq_false (by omega)
      rw [hv]
      intro ν2 fr2
      have fr := fr2
      have nuE := fr.nu
      simp (maxDischargeDepth := 16) only [argE_nil, argE_cons, ↓vmD, vmV, vmStd, Nat.reduceMul, ↓reduceIte, Nat.reduceAdd, Nat.reduceSub, Nat.reduceEqDiff, Nat.reduceLT, Nat.reduceLeDiff, reduceCtorEq, Int.reduceToNat, Int.reduceLT, Int.reduceLE, Int.reduceEq, Int.reduceNeg, Int.reduceBEq, Int.reduceBNe, String.reduceEq, forall_const, ↓vmDA, vmVA, ↓vmQA, vmR, vmRA, ↓vmSA, vmSV, tyS, nuE, SubA.skip, SubA.refl, fr.2, areDigits_v, panSum_v, rdigits_v, rsum_v, panLuhn_v, rLuhn_v, panCheck_v, rCheck_v, panCd_v, rCd_v, isPrefix_v, rMake_v, isLet_v, isId_v, isNm_v, isTm_v, q64, we]
      exact LoopA.weak (ih (e + 1) T v B E1 h3' (by omega) hE1 hown sp2) (by simp only [subE, get_cons, Nat.reduceEqDiff, ↓reduceIte, reduceCtorEq, Nat.reduceAdd, and_self, and_true]) sw
    rw [if_pos h64] at hp
    have hTe : T.length = e := by omega
    have hv : provV [qd] 16 T (mkL [48, 48] 13 x) [119] [] 0 (e : Int) = .tuple #[.string (bs (mkL [qd] 14 e)), .int .i64 0] := by unfold provV; rw [if_pos hp, hTe]; rfl
    have hl0 : provL [qd] 16 T (mkL [48, 48] 13 x) [119] [] 0 (e : Int) = T ++ [⟨mkL [qd] 14 e, mkL [48, 48] 13 x, [119], [], 0, 1, (e : Int)⟩] := by unfold provL; rw [if_pos hp]; unfold provT; rw [hTe]; rfl
    rw [hl0] at hE1
    rw [hv]
    have hnew : posT (mkL [qd] 14 e) T = none := by
      have := tok_new hvau.ok (once_O qd hq1 T.length (by omega))
      rw [hTe] at this
      exact this
    have hno := posT_no hnew
    have h64t : ((e : Int) < 64) = True := eq_true (by omega)
    obtain ⟨q2, vcap, rfl, hvc, hvs⟩ := hown.read bsC_len
    intro ν2 fr2
    have fr := fr2
    have nuE := fr.nu
    simp (maxDischargeDepth := 16) only [argE_nil, argE_cons, ↓vmD, vmV, vmStd, Nat.reduceMul, ↓reduceIte, Nat.reduceAdd, Nat.reduceSub, Nat.reduceEqDiff, Nat.reduceLT, Nat.reduceLeDiff, reduceCtorEq, Int.reduceToNat, Int.reduceLT, Int.reduceLE, Int.reduceEq, Int.reduceNeg, Int.reduceBEq, Int.reduceBNe, String.reduceEq, forall_const, ↓vmDA, vmVA, ↓vmQA, vmR, vmRA, ↓vmSA, vmSV, tyS, nuE, SubA.skip, SubA.refl, fr.2, areDigits_v, panSum_v, rdigits_v, rsum_v, panLuhn_v, rLuhn_v, panCheck_v, rCheck_v, panCd_v, rCd_v, isPrefix_v, rMake_v, isLet_v, isId_v, isNm_v, isTm_v, h64t]
    have hlT : (T.map Tok.tok).length ≤ 64 := by simp; omega
    obtain ⟨k, M, hk, hM⟩ : ∃ (k : Nat) (M : List (List UInt8)), k = 0 ∧ M = (T.map Tok.tok).drop k := ⟨0, T.map Tok.tok, rfl, rfl⟩
    rw [show (13, some (Value.int .i64 0)) = (13, some (Value.int .i64 (k : Int))) by rw [hk]; rfl]
    clear hk nuE fr fr2
    induction M generalizing k with
    | cons t M ihM =>
      obtain ⟨hta, htl, hM'⟩ := drop_some hM
      have hkl : ((k : Int) < ((T.map Tok.tok).length : Int)) = True := eq_true (by omega)
      have wk : IntKind.i64.wrap ((k : Int) + 1) = ((k + 1 : Nat) : Int) := by rw [w_i64 (by omega) (by omega)]; omega
      obtain ⟨bm, offm, csm, tym, frm, hpm, hbm, hcrm, hccm⟩ := hvs.at hta
      subst hpm
      have lbm : Vm.look (E1 ++ (A ++ B)) bm = some (Obj.cells csm tym frm) := (sp1.subs [2] rfl : SubA B (E1 ++ (A ++ B))) _ _ hbm
      have cm0 : csm[offm + k * 1]? = some (.string (bs t)) := hccm 0 _ rfl
      have tne : ((bs t).toList = (bs (mkL [qd] 14 e)).toList) = False := by
        rw [bs_list, bs_list]
        obtain ⟨y, hy, rfl⟩ := List.mem_map.1 (List.mem_of_getElem? hta)
        exact eq_false (hno y hy)
      refine LoopA.intro (by kernel_rfl) ?_
      intro ν fr; have nuE := fr.nu
      simp (maxDischargeDepth := 16) only [argE_nil, argE_cons, ↓vmD, vmV, vmStd, Nat.reduceMul, ↓reduceIte, Nat.reduceAdd, Nat.reduceSub, Nat.reduceEqDiff, Nat.reduceLT, Nat.reduceLeDiff, reduceCtorEq, Int.reduceToNat, Int.reduceLT, Int.reduceLE, Int.reduceEq, Int.reduceNeg, Int.reduceBEq, Int.reduceBNe, String.reduceEq, forall_const, ↓vmDA, vmVA, ↓vmQA, vmR, vmRA, ↓vmSA, vmSV, tyS, nuE, SubA.skip, SubA.refl, fr.2, areDigits_v, panSum_v, rdigits_v, rsum_v, panLuhn_v, rLuhn_v, panCheck_v, rCheck_v, panCd_v, rCd_v, isPrefix_v, rMake_v, isLet_v, isId_v, isNm_v, isTm_v, hkl, wk, lbm, cm0, tne]
      exact LoopA.weak (ihM (k + 1) hM') (by simp only [subE, get_cons, Nat.reduceEqDiff, ↓reduceIte, reduceCtorEq, Nat.reduceAdd, and_self, and_true]) (SubA.refl _)
    | nil =>
      have hle3 := drop_nil hM
      have hkl : ((k : Int) < ((T.map Tok.tok).length : Int)) = False := eq_false (by omega)
      refine LoopA.intro (by kernel_rfl) ?_
      intro ν fr; have nuE := fr.nu
      simp (maxDischargeDepth := 16) only [argE_nil, argE_cons, ↓vmD, vmV, vmStd, Nat.reduceMul, ↓reduceIte, Nat.reduceAdd, Nat.reduceSub, Nat.reduceEqDiff, Nat.reduceLT, Nat.reduceLeDiff, reduceCtorEq, Int.reduceToNat, Int.reduceLT, Int.reduceLE, Int.reduceEq, Int.reduceNeg, Int.reduceBEq, Int.reduceBNe, String.reduceEq, forall_const, ↓vmDA, vmVA, ↓vmQA, vmR, vmRA, ↓vmSA, vmSV, tyS, nuE, SubA.skip, SubA.refl, fr.2, areDigits_v, panSum_v, rdigits_v, rsum_v, panLuhn_v, rLuhn_v, panCheck_v, rCheck_v, panCd_v, rCd_v, isPrefix_v, rMake_v, isLet_v, isId_v, isNm_v, isTm_v, hkl, sc_st1]
      have n0' := fr.2 0
      have hX : SubA (cat [E1, A]) (E1 ++ (A ++ B)) := sp1.subs [0, 1] rfl
      have hBs : SubA B (E1 ++ (A ++ B)) := sp1.subs [2] rfl
      have hXs : SubA (cat [E1, A]) ((ν 0, Obj.cells #[.string (bs (mkL [qd] 14 e))] 9) :: (E1 ++ (A ++ B))) := SubA.skip (hX.none n0') hX
      refine RunA.use ?_
      refine append_src (m := 1) (news := bsC (mkL [qd] 14 e)) (B := B) slc38 zro9 rfl (by decide) hown (SubA.skip (hBs.none n0') hBs) (.inr ⟨ν 0, 0, rfl, by simp (maxDischargeDepth := 16) only [argE_nil, argE_cons, ↓vmD, vmV, vmStd, Nat.reduceMul, ↓reduceIte, Nat.reduceAdd, Nat.reduceSub, Nat.reduceEqDiff, Nat.reduceLT, Nat.reduceLeDiff, reduceCtorEq, Int.reduceToNat, Int.reduceLT, Int.reduceLE, Int.reduceEq, Int.reduceNeg, Int.reduceBEq, Int.reduceBNe, String.reduceEq, forall_const, ↓vmDA, vmVA, ↓vmQA, vmR, vmRA, ↓vmSA, vmSV, tyS, nuE, SubA.skip, SubA.refl, fr.2, areDigits_v, panSum_v, rdigits_v, rsum_v, panLuhn_v, rLuhn_v, panCheck_v, rCheck_v, panCd_v, rCd_v, isPrefix_v, rMake_v, isLet_v, isId_v, isNm_v, isTm_v, bsC]⟩) (by simp [bsC, Value.oneCell']) (by simp only [maxLen]; omega) (by omega) ?_
      intro v' B' ho' hb'
      have dX : Dis B (cat [E1, A]) := (sp1.pick [2, 0, 1] rfl rfl).dis
      have dB' : Dis B' (cat [E1, A]) := ap_dis hb' dX hXs
      have sp3 : Sep [B', E1, A] := Sep.cons dB' (sp1.pick [0, 1] rfl rfl)
      have ow' : OwnL bsC 1 9 v' B' ((T ++ [(⟨mkL [qd] 14 e, mkL [48, 48] 13 x, [119], [], 0, 1, (e : Int)⟩ : Tok)]).map Tok.tok) := by
        unfold OwnL
        rw [List.length_map, List.length_append, List.map_append, List.flatMap_append]
        simpa using ho'
      refine ⟨cat [E1, B', A], SubA.trans (sp3.subs [1, 0, 2] rfl) (SubA.app hXs), ?_⟩
      have sp4 : Sep [E1, B', A] := sp3.pick [1, 0, 2] rfl rfl
      have sA3 : SubA A (E1 ++ (B' ++ A)) := sp4.subs [2] rfl
      have lb3 := sA3 _ _ hbk
      have i1 := isTok_w E1 vb [qd] 16 _ hE1 (mkL [qd] 14 e) (by rw [mkL_len]; simp) _ (SubA.left E1 (B' ++ A))
      have i2 := isTok_w E1 vb [qd] 16 _ hE1 (mkL [48, 48] 13 x) (by rw [mkL_len]; simp) _ (SubA.left E1 (B' ++ A))
      rw [once_is qd hq1 e] at i1
      rw [co_is qd hq2 x] at i2
      simp only [cat]
      intro ν3 fr3
      have fr := fr3
      have nuE := fr.nu
      have hT2 : (T ++ [(⟨mkL [qd] 14 e, mkL [48, 48] 13 x, [119], [], 0, 1, (e : Int)⟩ : Tok)]).length = min (e + 1) 64 := by simp; omega
      by_cases h3x : ((x : Int)).tmod 3 = 0
      rotate_left
      · simp (maxDischargeDepth := 16) only [argE_nil, argE_cons, ↓vmD, vmV, vmStd, Nat.reduceMul, ↓reduceIte, Nat.reduceAdd, Nat.reduceSub, Nat.reduceEqDiff, Nat.reduceLT, Nat.reduceLeDiff, reduceCtorEq, Int.reduceToNat, Int.reduceLT, Int.reduceLE, Int.reduceEq, Int.reduceNeg, Int.reduceBEq, Int.reduceBNe, String.reduceEq, forall_const, ↓vmDA, vmVA, ↓vmQA, vmR, vmRA, ↓vmSA, vmSV, tyS, nuE, SubA.skip, SubA.refl, fr.2, areDigits_v, panSum_v, rdigits_v, rsum_v, panLuhn_v, rLuhn_v, panCheck_v, rCheck_v, panCd_v, rCd_v, isPrefix_v, rMake_v, isLet_v, isId_v, isNm_v, isTm_v, i1, i2, lb3, hc0, hlt, h3x, we]
        exact LoopA.weak (ih (e + 1) _ v' B' E1 h3' hT2 hE1 ow' sp4) (by simp only [subE, get_cons, Nat.reduceEqDiff, ↓reduceIte, reduceCtorEq, Nat.reduceAdd, and_self, and_true]) (SubA.refl _)
      have hp0 := posT_end (x := ⟨mkL [qd] 14 e, mkL [48, 48] 13 x, [119], [], 0, 1, (e : Int)⟩) hnew rfl
      have hx0 : (T ++ [(⟨mkL [qd] 14 e, mkL [48, 48] 13 x, [119], [], 0, 1, (e : Int)⟩ : Tok)])[T.length]? = some ⟨mkL [qd] 14 e, mkL [48, 48] 13 x, [119], [], 0, 1, (e : Int)⟩ := by simp
      simp (maxDischargeDepth := 16) only [argE_nil, argE_cons, ↓vmD, vmV, vmStd, Nat.reduceMul, ↓reduceIte, Nat.reduceAdd, Nat.reduceSub, Nat.reduceEqDiff, Nat.reduceLT, Nat.reduceLeDiff, reduceCtorEq, Int.reduceToNat, Int.reduceLT, Int.reduceLE, Int.reduceEq, Int.reduceNeg, Int.reduceBEq, Int.reduceBNe, String.reduceEq, forall_const, ↓vmDA, vmVA, ↓vmQA, vmR, vmRA, ↓vmSA, vmSV, tyS, nuE, SubA.skip, SubA.refl, fr.2, areDigits_v, panSum_v, rdigits_v, rsum_v, panLuhn_v, rLuhn_v, panCheck_v, rCheck_v, panCd_v, rCd_v, isPrefix_v, rMake_v, isLet_v, isId_v, isNm_v, isTm_v, i1, i2, lb3, hc0, hlt, h3x]
      refine VauP.use1 (delT_h E1 vb [qd] 16 _ hE1 (mkL [qd] 14 e) T.length _ hp0 hx0 rfl) (SubA.left _ _) sp4.dis.right sp4.dis ?_
      intro E2 hE2 dE2
      have sp5 : Sep [E2, B', A] := Sep.cons dE2 sp4.2
      rw [← tok_set hx0 (y := ⟨mkL [qd] 14 e, mkL [48, 48] 13 x, [119], [], 0, 3, (e : Int)⟩) rfl] at ow'
      have hlen3 : ((T ++ [(⟨mkL [qd] 14 e, mkL [48, 48] 13 x, [119], [], 0, 1, (e : Int)⟩ : Tok)]).set T.length ⟨mkL [qd] 14 e, mkL [48, 48] 13 x, [119], [], 0, 3, (e : Int)⟩).length = min (e + 1) 64 := by rw [List.length_set]; exact hT2
      have hx3 : ((T ++ [(⟨mkL [qd] 14 e, mkL [48, 48] 13 x, [119], [], 0, 1, (e : Int)⟩ : Tok)]).set T.length ⟨mkL [qd] 14 e, mkL [48, 48] 13 x, [119], [], 0, 3, (e : Int)⟩)[T.length]? = some ⟨mkL [qd] 14 e, mkL [48, 48] 13 x, [119], [], 0, 3, (e : Int)⟩ := List.getElem?_set_self (by simp)
      have hp3 : posT (mkL [qd] 14 e) ((T ++ [(⟨mkL [qd] 14 e, mkL [48, 48] 13 x, [119], [], 0, 1, (e : Int)⟩ : Tok)]).set T.length ⟨mkL [qd] 14 e, mkL [48, 48] 13 x, [119], [], 0, 3, (e : Int)⟩) = some T.length := by simpa using posT_end (x := ⟨mkL [qd] 14 e, mkL [48, 48] 13 x, [119], [], 0, 3, (e : Int)⟩) hnew rfl
      intro ν4 fr4
      have fr := fr4
      have nuE := fr.nu
      simp (maxDischargeDepth := 16) only [argE_nil, argE_cons, ↓vmD, vmV, vmStd, Nat.reduceMul, ↓reduceIte, Nat.reduceAdd, Nat.reduceSub, Nat.reduceEqDiff, Nat.reduceLT, Nat.reduceLeDiff, reduceCtorEq, Int.reduceToNat, Int.reduceLT, Int.reduceLE, Int.reduceEq, Int.reduceNeg, Int.reduceBEq, Int.reduceBNe, String.reduceEq, forall_const, ↓vmDA, vmVA, ↓vmQA, vmR, vmRA, ↓vmSA, vmSV, tyS, nuE, SubA.skip, SubA.refl, fr.2, areDigits_v, panSum_v, rdigits_v, rsum_v, panLuhn_v, rLuhn_v, panCheck_v, rCheck_v, panCd_v, rCd_v, isPrefix_v, rMake_v, isLet_v, isId_v, isNm_v, isTm_v]
      refine RO.use (resuS_h E2 vb [qd] 16 _ hE2 (mkL [qd] 14 e) T.length _ hp3 hx3 (by simp)) (SubA.left _ _) dE2.right dE2 ?_
      intro ν5 fr5
      have fr := fr5
      have nuE := fr.nu
      simp (maxDischargeDepth := 16) only [argE_nil, argE_cons, ↓vmD, vmV, vmStd, Nat.reduceMul, ↓reduceIte, Nat.reduceAdd, Nat.reduceSub, Nat.reduceEqDiff, Nat.reduceLT, Nat.reduceLeDiff, reduceCtorEq, Int.reduceToNat, Int.reduceLT, Int.reduceLE, Int.reduceEq, Int.reduceNeg, Int.reduceBEq, Int.reduceBNe, String.reduceEq, forall_const, ↓vmDA, vmVA, ↓vmQA, vmR, vmRA, ↓vmSA, vmSV, tyS, nuE, SubA.skip, SubA.refl, fr.2, areDigits_v, panSum_v, rdigits_v, rsum_v, panLuhn_v, rLuhn_v, panCheck_v, rCheck_v, panCd_v, rCd_v, isPrefix_v, rMake_v, isLet_v, isId_v, isNm_v, isTm_v]
      refine RO.use (replD_h E2 vb [qd] 16 _ hE2 (mkL [qd] 14 e) (mkL [48, 48] 13 x) T.length _ hp3 hx3 rfl) (SubA.left _ _) dE2.right dE2 ?_
      intro ν6 fr6
      have fr := fr6
      have nuE := fr.nu
      simp (maxDischargeDepth := 16) only [argE_nil, argE_cons, ↓vmD, vmV, vmStd, Nat.reduceMul, ↓reduceIte, Nat.reduceAdd, Nat.reduceSub, Nat.reduceEqDiff, Nat.reduceLT, Nat.reduceLeDiff, reduceCtorEq, Int.reduceToNat, Int.reduceLT, Int.reduceLE, Int.reduceEq, Int.reduceNeg, Int.reduceBEq, Int.reduceBNe, String.reduceEq, forall_const, ↓vmDA, vmVA, ↓vmQA, vmR, vmRA, ↓vmSA, vmSV, tyS, nuE, SubA.skip, SubA.refl, fr.2, areDigits_v, panSum_v, rdigits_v, rsum_v, panLuhn_v, rLuhn_v, panCheck_v, rCheck_v, panCd_v, rCd_v, isPrefix_v, rMake_v, isLet_v, isId_v, isNm_v, isTm_v]
      refine RO.use (delS_h E2 vb [qd] 16 _ hE2 (mkL [qd] 14 e) T.length _ hp3 hx3 (by simp) (by simp)) (SubA.left _ _) dE2.right dE2 ?_
      intro ν7 fr7
      have fr := fr7
      have nuE := fr.nu
      simp (maxDischargeDepth := 16) only [argE_nil, argE_cons, ↓vmD, vmV, vmStd, Nat.reduceMul, ↓reduceIte, Nat.reduceAdd, Nat.reduceSub, Nat.reduceEqDiff, Nat.reduceLT, Nat.reduceLeDiff, reduceCtorEq, Int.reduceToNat, Int.reduceLT, Int.reduceLE, Int.reduceEq, Int.reduceNeg, Int.reduceBEq, Int.reduceBNe, String.reduceEq, forall_const, ↓vmDA, vmVA, ↓vmQA, vmR, vmRA, ↓vmSA, vmSV, tyS, nuE, SubA.skip, SubA.refl, fr.2, areDigits_v, panSum_v, rdigits_v, rsum_v, panLuhn_v, rLuhn_v, panCheck_v, rCheck_v, panCd_v, rCd_v, isPrefix_v, rMake_v, isLet_v, isId_v, isNm_v, isTm_v, we]
      exact LoopA.weak (ih (e + 1) _ v' B' E2 h3' hlen3 hE2 ow' sp5) (by simp only [subE, get_cons, Nat.reduceEqDiff, ↓reduceIte, reduceCtorEq, Nat.reduceAdd, and_self, and_true]) (SubA.refl _)
theorem onceLaw_w (A : AH) (hT : TabA A) (L : List Nat) (hn : ∀ n ∈ L, n ≤ 65535) (p : Option Addr) (cap : Nat) (hL : StR u16C 1 A p L) (hl : L.length ≤ 9223372036854775807) (pr : UInt8) (B_ : AH) (hB_ : SubA A B_) : valA Tryd.prog 4 #[.slice p L.length cap, .int .u8 (pr.toNat : Int)] B_ = some (.bool true) := valA_eq (pureA_at (by kernel_rfl) (onceLaw_h A hT L hn p cap hL hl pr) hB_)
theorem onceLaw_v (A : AH) (hT : TabA A) (L : List Nat) (hn : ∀ n ∈ L, n ≤ 65535) (p : Option Addr) (cap : Nat) (hL : StR u16C 1 A p L) (hl : L.length ≤ 9223372036854775807) (pr : UInt8) : valA Tryd.prog 4 #[.slice p L.length cap, .int .u8 (pr.toNat : Int)] A = some (.bool true) := valA_eq (pureA_at (by kernel_rfl) (onceLaw_h A hT L hn p cap hL hl pr) (SubA.refl _))
end Go.Proofs.YtoonmogjjddeeaaDoor
