/-
Lexemes: the walks of Print, the program's and the reference's.
Conditions: none.
-/
import Derived.Test.YtilifbndbdanoaaDoorLexN
import Derived.Test.YtilifbndbdanoaaDoorFra
import Derived.Test.YtilifbndbdanoaaDoorTy
import Derived.Test.YtilifbndbdanoaaDoorShelf
import Derived.Lib.ItoaLen
namespace Go.Proofs.YtilifbndbdanoaaDoor
open Go.Vm
set_option linter.unusedSimpArgs false
set_option linter.unusedVariables false
set_option maxHeartbeats 2000000
set_option maxRecDepth 20000
/-- The library's table of powers lies where its variable lies. -/
def TabA (A : AH) : Prop := ∃ (g : Nat) (e : TypeId) (fr : Nat × Nat), Tryd.prog.globalNamed "internal/strconv.uint64pow10" = some g ∧ Vm.look A g = some (.cells (Lib.pow10Tab.map fun z => Value.int .u64 z).toArray e fr)
theorem TabA.mono {A B : AH} (h : TabA A) (hs : SubA A B) : TabA B := by
  obtain ⟨g, e, fr, h1, h2⟩ := h
  exact ⟨g, e, fr, h1, hs _ _ h2⟩
theorem TabA.of {w : World} (h : Lib.TabIs Tryd.prog w "internal/strconv.uint64pow10" .u64 Lib.pow10Tab) : ∃ A, Sat A w.heap ∧ TabA A := by
  unfold Lib.TabIs World.var? at h
  cases hg : Tryd.prog.globalNamed "internal/strconv.uint64pow10" with
  | none => rw [hg] at h; cases h
  | some g =>
    rw [hg] at h
    simp only [Option.bind_some] at h
    split at h
    · rename_i cs e fr hb
      cases h
      exact ⟨[(g, .cells _ e fr)], (fun b o hl => by
        simp only [Vm.look] at hl
        split at hl
        · rename_i e1; subst e1; cases hl; exact hb
        · cases hl), g, e, fr, hg, by simp [Vm.look]⟩
    · cases h
theorem fmt_w (A : AH) (hT : TabA A) (n : Int) (h0 : -9223372036854775808 ≤ n) (h1 : n ≤ 9223372036854775807) (B : AH) (hB : SubA A B) : valA Tryd.prog 9 #[.int .i64 n, .int .i64 10] B = some (.string (bs (Lib.itoa n))) :=
  valA_eq ⟨fun _ => by kernel_rfl, fun h hs => by
    unfold RunC
    rw [if_pos (by kernel_rfl)]
    intro w hw
    subst hw
    have ht : Lib.TabIs Tryd.prog w "internal/strconv.uint64pow10" .u64 Lib.pow10Tab := by
      obtain ⟨g, e, fr, hg, hl⟩ := hT
      have := hs _ _ (hB _ _ hl)
      unfold Lib.TabIs World.var?
      rw [hg]
      simp [this]
    refine (Tryd.strconv_FormatInt_10 n h0 h1 w ht).mono fun e w' ⟨he, k, os, hw'⟩ => ?_
    subst hw'
    exact ⟨⟨he, ⟨by simp [Go.Sort.grow, World.drewN], fun j hj => by simp only [Go.Sort.grow, World.drewN]; exact Array.getElem?_append_left hj⟩⟩, rfl, rfl, rfl⟩⟩
/-- strings.Join of a list of texts that lies in known blocks. -/
theorem join_w (A : AH) (T : List Txt) (p : Option Addr) (cap : Nat) (sep : Txt) (hT : StR strC 1 A p T) (hcap : T.length ≤ cap) (hN : T.length ≤ 140737488355328) (hlen : (Lib.join T sep).length ≤ 140737488355328) (B : AH) (hB : SubA A B) :
    valA Tryd.prog 10 #[.slice p T.length cap, .string (bs sep)] B = some (.string (bs (Lib.join T sep))) :=
  valA_eq ⟨fun _ => by kernel_rfl, fun h hs => by
    unfold RunC
    rw [if_pos (by kernel_rfl)]
    intro w hw
    subst hw
    rcases hT with h0 | ⟨b, off, cs, e, fr, rfl, h2, h3⟩
    · subst h0
      refine (Tryd.strings_Join_none p cap (bs sep) w).mono fun e w' ⟨he, hw'⟩ => ?_
      subst hw'
      exact ⟨⟨he, Grew.refl _⟩, rfl, rfl, rfl⟩
    · have hb := hs _ _ (hB _ _ h2)
      have e1 : T.length = (T.map bs).length := by simp
      have e2 : (T.map bs).map (·.data.toList) = T := by rw [List.map_map]; exact List.map_id' T
      have hc : ∀ (j : Nat) x, (T.map bs)[j]? = some x → w.cell? ⟨b, off + j, none⟩ = some (.string x) := by
        intro j x hj
        rw [List.getElem?_map, Option.map_eq_some_iff] at hj
        obtain ⟨t, ht, rfl⟩ := hj
        have := (rdCS_cell (h3 j t ht)).2 0 _ rfl
        simp only [World.cell?, hb]
        simpa using this
      have := Tryd.strings_Join b off cap (T.map bs) (bs sep) w hc (by
        rcases Nat.lt_or_ge b w.heap.size with h | h
        · exact h
        · rw [Array.getElem?_eq_none h] at hb; cases hb) (by rw [← e1]; exact hN) (by rw [← e1]; exact hcap) (by rw [e2]; exact hlen)
      rw [← e1, e2] at this
      exact this.mono fun e w' ⟨h1, h2⟩ => ⟨⟨h1, ⟨h2.size, h2.block⟩⟩, ⟨h2.os, h2.tape, h2.output⟩⟩⟩
theorem parts_take {L : List LR} {i : Nat} {x : LR} (h : L[i]? = some x) : partsX (L.take (i + 1)) = partsX (L.take i) ++ (if printed x = true then [formX x] else []) := by
  unfold partsX
  rw [List.take_add_one, h, List.filter_append, List.map_append]
  congr 1
  by_cases hp : printed x = true <;> simp [hp]
theorem parts_len (L : List LR) : (partsX L).length ≤ L.length := by
  unfold partsX; rw [List.length_map]; exact List.length_filter_le _ _
theorem LR.cells_len (x : LR) : x.cells.length = 4 := rfl
theorem sc_s0 : sliceCells Tryd.prog 32 0 [] = some (9, #[]) := by kernel_rfl
theorem sc_s1 (a : ByteArray) : sliceCells Tryd.prog 32 1 [(0, .string a)] = some (9, #[.string a]) := by kernel_rfl
theorem tx_app {e : TypeId} {v' : Value} {B' : AH} {T : List Txt} {t : Txt} (ho' : OwnZ e 1 v' B' (T.length + 1) (T.flatMap strC ++ strC t)) : OwnL strC 1 e v' B' (T ++ [t]) := by
  unfold OwnL
  rw [List.length_append, List.flatMap_append]
  simpa using ho'
/-- Lexemes of numbers and texts that a machine holds. -/
def SzX (L : List LR) : Prop := ∀ x ∈ L, -9223372036854775808 ≤ x.n ∧ x.n ≤ 9223372036854775807 ∧ x.t.size ≤ 100000
/-- A lexeme's cells, with its offset apart. -/
def lzC (y : LR × Int) : List Value := [.int .i64 y.1.k, .string y.1.t, .int .i64 y.1.n, .int .i64 y.2]
theorem lzC_len (y : LR × Int) : (lzC y).length = 4 := rfl
theorem itoa_len (n : Int) (h0 : -9223372036854775808 ≤ n) (h1 : n ≤ 9223372036854775807) : (Lib.itoa n).length ≤ 21 := Lib.itoa_length_le n h0 h1
theorem join_small {L : List LR} (hz : SzX L) (hl : L.length ≤ 100000) : (Lib.join (partsX L) [32]).length ≤ 140737488355328 := by
  have key : ∀ T : List Txt, (∀ t ∈ T, t.length ≤ 100003) → (Lib.join T [32]).length ≤ T.length * 100004 := by
    intro T
    induction T with
    | nil => intro _; simp [Lib.join, List.intercalate]
    | cons a T ih =>
      intro h
      have h1 := h a (by simp)
      cases T with
      | nil => simp [Lib.join, List.intercalate]; omega
      | cons b T =>
        have h2 := ih fun t ht => h t (by simp only [List.mem_cons] at ht ⊢; exact .inr ht)
        rw [join_cons]
        simp only [List.length_append, List.length_cons] at h2 ⊢
        omega
  have h1 := key (partsX L) (fun t ht => by
    unfold partsX at ht
    obtain ⟨x, hx, rfl⟩ := List.mem_map.1 ht
    obtain ⟨z1, z2, z3⟩ := hz x (List.mem_filter.1 hx).1
    have z4 := itoa_len x.n z1 z2
    have z5 : x.t.toList.length ≤ 100000 := by rw [size_list]; exact z3
    unfold formX
    split
    · omega
    · split
      · omega
      · split
        · simp; omega
        · simp)
  have h2 := parts_len L
  omega
theorem panPrint_h (A : AH) (hT : TabA A) (L : List (LR × Int)) (p : Option Addr) (cap : Nat) (hL : StR lzC 4 A p L) (hl : L.length ≤ 100000) (hz : SzX (L.map Prod.fst)) : CallA Tryd.prog 6 #[.slice p L.length cap] A (fun u_ A_ => u_ = .string (bs (printX (L.map Prod.fst))) ∧ SubA A A_) := by
  refine callA_of_denA ⟨Tryd.prog, 6, Tryd.f6, 43, [0, 2, 3, 5, 7, 8, 9, 14], [], [], _⟩ (args := [_]) Tryd.func6 rfl (by kernel_rfl) Tryd.ntmps6 (by simp) (by kernel_rfl) ?_
  intro ν fr; have nuE := fr.nu
  simp (maxDischargeDepth := 16) only [argE_nil, argE_cons, ↓vmD, vmV, vmStd, Nat.reduceMul, ↓reduceIte, Nat.reduceAdd, Nat.reduceSub, Nat.reduceEqDiff, Nat.reduceLT, Nat.reduceLeDiff, reduceCtorEq, Int.reduceToNat, Int.reduceLT, Int.reduceLE, Int.reduceEq, Int.reduceNeg, Int.reduceBEq, Int.reduceBNe, String.reduceEq, forall_const, ↓vmDA, vmVA, ↓vmQA, vmR, vmRA, ↓vmSA, vmSV, tyS, nuE, SubA.skip, SubA.refl, fr.2, slIndexByte_v, indexByte_v, indexRune_v, containsRune_v, slHasPrefix_v, hasPrefix_v, classOf_v, isWordByte_v, wordAt_v, skip_v, number_v, literal_v, lexemeAt_v, sc_s0]
  have jlen := join_small hz (by rw [List.length_map]; exact hl)
  obtain ⟨e, l, v, B, he, hd, hle, ho, d, hv, hsub⟩ : ∃ (e : Nat) (l : List (LR × Int)) (v : Value) (B : AH), e = 0 ∧ l = L.drop e ∧ e ≤ L.length ∧ OwnL strC 1 9 v B (partsX ((L.map Prod.fst).take e)) ∧ Dis B A ∧ v = .slice (some ⟨ν 0, 0, none⟩) 0 0 ∧ SubA (B ++ A) ((ν 0, Obj.cells #[] 9) :: A) :=
    ⟨0, L, _, [(ν 0, Obj.cells #[] 9)], rfl, rfl, by omega, OwnL.at0 strC 1 _ _, Dis.one (fr.2 0), rfl, SubA.refl _⟩
  rw [show (9, some (Value.int .i64 0)) = (9, some (Value.int .i64 (e : Int))) by rw [he]; rfl]
  rw [← hv]
  refine LoopA.at hsub ?_
  clear he hv hsub nuE fr
  induction l generalizing e v B with
  | nil =>
    obtain ⟨hn1, hn2⟩ := drop_nil hd hle
    have lt : ((e : Int) < (L.length : Int)) = False := eq_false (by omega)
    rw [List.take_of_length_le (by rw [List.length_map]; omega)] at ho
    obtain ⟨q, vc, rfl, hq⟩ := own_tx ho
    have hpl := parts_len (L.map Prod.fst)
    rw [List.length_map] at hpl
    have jv : valA Tryd.prog 10 #[.slice q (partsX (L.map Prod.fst)).length vc, .string ⟨#[32]⟩] (B ++ A) = some (.string (bs (printX (L.map Prod.fst)))) := join_w (B ++ A) (partsX (L.map Prod.fst)) q vc [32] (hq.1.mono (SubA.left B A)) hq.2.1 (by omega) jlen (B ++ A) (SubA.refl _)
    refine LoopA.intro (by kernel_rfl) ?_
    intro ν fr; have nuE := fr.nu
    simp (maxDischargeDepth := 16) only [argE_nil, argE_cons, ↓vmD, vmV, vmStd, Nat.reduceMul, ↓reduceIte, Nat.reduceAdd, Nat.reduceSub, Nat.reduceEqDiff, Nat.reduceLT, Nat.reduceLeDiff, reduceCtorEq, Int.reduceToNat, Int.reduceLT, Int.reduceLE, Int.reduceEq, Int.reduceNeg, Int.reduceBEq, Int.reduceBNe, String.reduceEq, forall_const, ↓vmDA, vmVA, ↓vmQA, vmR, vmRA, ↓vmSA, vmSV, tyS, nuE, SubA.skip, SubA.refl, fr.2, slIndexByte_v, indexByte_v, indexRune_v, containsRune_v, slHasPrefix_v, hasPrefix_v, classOf_v, isWordByte_v, wordAt_v, skip_v, number_v, literal_v, lexemeAt_v, lt, jv]
    exact d.right
  | cons x l ih =>
    obtain ⟨ha, hlt, hd', htk⟩ := drop_some hd
    have lt : ((e : Int) < (L.length : Int)) = True := eq_true (by omega)
    have we : IntKind.i64.wrap ((e : Int) + 1) = ((e + 1 : Nat) : Int) := by rw [w_i64 (by omega) (by omega)]; omega
    obtain ⟨bk, off, cs, ty, fr0, hp0, hbk, hcr, hcc⟩ := hL.at ha
    subst hp0
    obtain ⟨x, z⟩ := x
    have hax : (L.map Prod.fst)[e]? = some x := by rw [List.getElem?_map, ha]; rfl
    obtain ⟨z1, z2, z3⟩ := hz x (List.mem_of_getElem? hax)
    have hbk2 := d.right _ _ hbk
    simp only [lzC] at hcr
    have hk0 : cs[off + e * 4]? = some (.int .i64 x.k) := hcc 0 _ rfl
    have hk1 : cs[off + e * 4 + 1]? = some (.string x.t) := hcc 1 _ rfl
    have hk2 : cs[off + e * 4 + 2]? = some (.int .i64 x.n) := hcc 2 _ rfl
    have li : ((e : Int) < 0) = False := eq_false (by omega)
    have hpt := parts_take hax
    have hpl := parts_len ((L.map Prod.fst).take e)
    rw [List.length_take, List.length_map] at hpl
    have fw := fun B2 hB => fmt_w A hT x.n z1 z2 B2 hB
    have bt : bs x.t.toList = x.t := by rw [ByteArray.toList_eq]; exact (bs_of _).symm
    have b3 : bs (34 :: (x.t.toList ++ [34])) = ⟨#[34]⟩ ++ x.t ++ ⟨#[34]⟩ := by
      apply ba_list
      rw [bs_list]
      simp [ByteArray.toList_eq]
    have s34 : (ByteArray.mk #[34]).size = 1 := rfl
    have s1 : ((ByteArray.mk #[34]).size + x.t.size ≤ 9223372036854775807) = True := eq_true (by rw [s34]; omega)
    have s2 : ((ByteArray.mk #[34] ++ x.t).size + (ByteArray.mk #[34]).size ≤ 9223372036854775807) = True := eq_true (by rw [ByteArray.size_append, s34]; omega)
    obtain ⟨q, vc, rfl, hq⟩ := own_tx ho
    refine LoopA.intro (by kernel_rfl) ?_
    intro ν fr; have nuE := fr.nu
    by_cases k1 : x.k = 1
    · have hp : printed x = true := by simp [printed, k1]
      have hf : formX x = x.t.toList := by simp [formX, k1]
      rw [if_pos hp, hf] at hpt
      simp (maxDischargeDepth := 16) only [argE_nil, argE_cons, ↓vmD, vmV, vmStd, Nat.reduceMul, ↓reduceIte, Nat.reduceAdd, Nat.reduceSub, Nat.reduceEqDiff, Nat.reduceLT, Nat.reduceLeDiff, reduceCtorEq, Int.reduceToNat, Int.reduceLT, Int.reduceLE, Int.reduceEq, Int.reduceNeg, Int.reduceBEq, Int.reduceBNe, String.reduceEq, forall_const, ↓vmDA, vmVA, ↓vmQA, vmR, vmRA, ↓vmSA, vmSV, tyS, nuE, SubA.skip, SubA.refl, fr.2, slIndexByte_v, indexByte_v, indexRune_v, containsRune_v, slHasPrefix_v, hasPrefix_v, classOf_v, isWordByte_v, wordAt_v, skip_v, number_v, literal_v, lexemeAt_v, lt, li, hbk2, hcr, hk0, hk1, hk2, we, sc_s1, eq_true k1]
      have f5 : Vm.look ((ν 0, (Obj.cells #[.int .i64 x.k, .string x.t, .int .i64 x.n, .int .i64 z] 25)) :: (B ++ A)) (ν 1) = none := by
        have e1 : (ν 0 = ν 1) = False := by simp [nuE]
        simp only [Vm.look, e1, if_false]; exact fr.2 1
      have hA1 : ∀ o, SubA A ((ν 1, o) :: ((ν 0, (Obj.cells #[.int .i64 x.k, .string x.t, .int .i64 x.n, .int .i64 z] 25)) :: (B ++ A))) := fun o => SubA.fresh f5 (SubA.fresh (fr.2 0) d.right)
      have hB1 : ∀ o, SubA B ((ν 1, o) :: ((ν 0, (Obj.cells #[.int .i64 x.k, .string x.t, .int .i64 x.n, .int .i64 z] 25)) :: (B ++ A))) := fun o => SubA.fresh f5 (SubA.fresh (fr.2 0) (SubA.left B A))
      refine RunA.use ?_
      refine append_src (m := 1) (news := strC (x.t.toList)) (B := B) slc32 zro9 rfl (by decide) ho (hB1 _) (.inr ⟨ν 1, 0, rfl, by simp (maxDischargeDepth := 16) only [argE_nil, argE_cons, ↓vmD, vmV, vmStd, Nat.reduceMul, ↓reduceIte, Nat.reduceAdd, Nat.reduceSub, Nat.reduceEqDiff, Nat.reduceLT, Nat.reduceLeDiff, reduceCtorEq, Int.reduceToNat, Int.reduceLT, Int.reduceLE, Int.reduceEq, Int.reduceNeg, Int.reduceBEq, Int.reduceBNe, String.reduceEq, forall_const, ↓vmDA, vmVA, ↓vmQA, vmR, vmRA, ↓vmSA, vmSV, tyS, nuE, SubA.skip, SubA.refl, fr.2, slIndexByte_v, indexByte_v, indexRune_v, containsRune_v, slHasPrefix_v, hasPrefix_v, classOf_v, isWordByte_v, wordAt_v, skip_v, number_v, literal_v, lexemeAt_v, strC, bt, b3]⟩) (str_one _) (by simp only [maxLen]; omega) (by omega) ?_
      intro v' B' ho' hb'
      refine ⟨B' ++ A, SubA.app (hA1 _), ?_⟩
      intro ν3 fr3
      have fr := fr3
      have nuE := fr.nu
      simp (maxDischargeDepth := 16) only [argE_nil, argE_cons, ↓vmD, vmV, vmStd, Nat.reduceMul, ↓reduceIte, Nat.reduceAdd, Nat.reduceSub, Nat.reduceEqDiff, Nat.reduceLT, Nat.reduceLeDiff, reduceCtorEq, Int.reduceToNat, Int.reduceLT, Int.reduceLE, Int.reduceEq, Int.reduceNeg, Int.reduceBEq, Int.reduceBNe, String.reduceEq, forall_const, ↓vmDA, vmVA, ↓vmQA, vmR, vmRA, ↓vmSA, vmSV, tyS, nuE, SubA.skip, SubA.refl, fr.2, slIndexByte_v, indexByte_v, indexRune_v, containsRune_v, slHasPrefix_v, hasPrefix_v, classOf_v, isWordByte_v, wordAt_v, skip_v, number_v, literal_v, lexemeAt_v, we]
      exact LoopA.weak (ih (e + 1) v' B' hd' (by omega) (by rw [hpt]; exact tx_app ho') (ap_dis hb' d (hA1 _))) (by simp only [subE, get_cons, Nat.reduceEqDiff, ↓reduceIte, reduceCtorEq, Nat.reduceAdd, and_self, and_true]) (SubA.refl _)
    by_cases k4 : x.k = 4
    · have hp : printed x = true := by simp [printed, k4]
      have hf : formX x = x.t.toList := by simp [formX, k4]
      rw [if_pos hp, hf] at hpt
      simp (maxDischargeDepth := 16) only [argE_nil, argE_cons, ↓vmD, vmV, vmStd, Nat.reduceMul, ↓reduceIte, Nat.reduceAdd, Nat.reduceSub, Nat.reduceEqDiff, Nat.reduceLT, Nat.reduceLeDiff, reduceCtorEq, Int.reduceToNat, Int.reduceLT, Int.reduceLE, Int.reduceEq, Int.reduceNeg, Int.reduceBEq, Int.reduceBNe, String.reduceEq, forall_const, ↓vmDA, vmVA, ↓vmQA, vmR, vmRA, ↓vmSA, vmSV, tyS, nuE, SubA.skip, SubA.refl, fr.2, slIndexByte_v, indexByte_v, indexRune_v, containsRune_v, slHasPrefix_v, hasPrefix_v, classOf_v, isWordByte_v, wordAt_v, skip_v, number_v, literal_v, lexemeAt_v, lt, li, hbk2, hcr, hk0, hk1, hk2, we, sc_s1, eq_false k1, eq_true k4]
      have f5 : Vm.look ((ν 0, (Obj.cells #[.int .i64 x.k, .string x.t, .int .i64 x.n, .int .i64 z] 25)) :: (B ++ A)) (ν 1) = none := by
        have e1 : (ν 0 = ν 1) = False := by simp [nuE]
        simp only [Vm.look, e1, if_false]; exact fr.2 1
      have hA1 : ∀ o, SubA A ((ν 1, o) :: ((ν 0, (Obj.cells #[.int .i64 x.k, .string x.t, .int .i64 x.n, .int .i64 z] 25)) :: (B ++ A))) := fun o => SubA.fresh f5 (SubA.fresh (fr.2 0) d.right)
      have hB1 : ∀ o, SubA B ((ν 1, o) :: ((ν 0, (Obj.cells #[.int .i64 x.k, .string x.t, .int .i64 x.n, .int .i64 z] 25)) :: (B ++ A))) := fun o => SubA.fresh f5 (SubA.fresh (fr.2 0) (SubA.left B A))
      refine RunA.use ?_
      refine append_src (m := 1) (news := strC (x.t.toList)) (B := B) slc32 zro9 rfl (by decide) ho (hB1 _) (.inr ⟨ν 1, 0, rfl, by simp (maxDischargeDepth := 16) only [argE_nil, argE_cons, ↓vmD, vmV, vmStd, Nat.reduceMul, ↓reduceIte, Nat.reduceAdd, Nat.reduceSub, Nat.reduceEqDiff, Nat.reduceLT, Nat.reduceLeDiff, reduceCtorEq, Int.reduceToNat, Int.reduceLT, Int.reduceLE, Int.reduceEq, Int.reduceNeg, Int.reduceBEq, Int.reduceBNe, String.reduceEq, forall_const, ↓vmDA, vmVA, ↓vmQA, vmR, vmRA, ↓vmSA, vmSV, tyS, nuE, SubA.skip, SubA.refl, fr.2, slIndexByte_v, indexByte_v, indexRune_v, containsRune_v, slHasPrefix_v, hasPrefix_v, classOf_v, isWordByte_v, wordAt_v, skip_v, number_v, literal_v, lexemeAt_v, strC, bt, b3]⟩) (str_one _) (by simp only [maxLen]; omega) (by omega) ?_
      intro v' B' ho' hb'
      refine ⟨B' ++ A, SubA.app (hA1 _), ?_⟩
      intro ν3 fr3
      have fr := fr3
      have nuE := fr.nu
      simp (maxDischargeDepth := 16) only [argE_nil, argE_cons, ↓vmD, vmV, vmStd, Nat.reduceMul, ↓reduceIte, Nat.reduceAdd, Nat.reduceSub, Nat.reduceEqDiff, Nat.reduceLT, Nat.reduceLeDiff, reduceCtorEq, Int.reduceToNat, Int.reduceLT, Int.reduceLE, Int.reduceEq, Int.reduceNeg, Int.reduceBEq, Int.reduceBNe, String.reduceEq, forall_const, ↓vmDA, vmVA, ↓vmQA, vmR, vmRA, ↓vmSA, vmSV, tyS, nuE, SubA.skip, SubA.refl, fr.2, slIndexByte_v, indexByte_v, indexRune_v, containsRune_v, slHasPrefix_v, hasPrefix_v, classOf_v, isWordByte_v, wordAt_v, skip_v, number_v, literal_v, lexemeAt_v, we]
      exact LoopA.weak (ih (e + 1) v' B' hd' (by omega) (by rw [hpt]; exact tx_app ho') (ap_dis hb' d (hA1 _))) (by simp only [subE, get_cons, Nat.reduceEqDiff, ↓reduceIte, reduceCtorEq, Nat.reduceAdd, and_self, and_true]) (SubA.refl _)
    by_cases k2 : x.k = 2
    · have hp : printed x = true := by simp [printed, k2]
      have hf : formX x = Lib.itoa x.n := by simp [formX, k2]
      rw [if_pos hp, hf] at hpt
      have fwK := fw ((ν 0, (Obj.cells #[.int .i64 x.k, .string x.t, .int .i64 x.n, .int .i64 z] 25)) :: (B ++ A)) (SubA.fresh (fr.2 0) d.right)
      simp (maxDischargeDepth := 16) only [argE_nil, argE_cons, ↓vmD, vmV, vmStd, Nat.reduceMul, ↓reduceIte, Nat.reduceAdd, Nat.reduceSub, Nat.reduceEqDiff, Nat.reduceLT, Nat.reduceLeDiff, reduceCtorEq, Int.reduceToNat, Int.reduceLT, Int.reduceLE, Int.reduceEq, Int.reduceNeg, Int.reduceBEq, Int.reduceBNe, String.reduceEq, forall_const, ↓vmDA, vmVA, ↓vmQA, vmR, vmRA, ↓vmSA, vmSV, tyS, nuE, SubA.skip, SubA.refl, fr.2, slIndexByte_v, indexByte_v, indexRune_v, containsRune_v, slHasPrefix_v, hasPrefix_v, classOf_v, isWordByte_v, wordAt_v, skip_v, number_v, literal_v, lexemeAt_v, lt, li, hbk2, hcr, hk0, hk1, hk2, we, sc_s1, eq_false k1, eq_false k4, eq_true k2, fwK]
      have f5 : Vm.look ((ν 0, (Obj.cells #[.int .i64 x.k, .string x.t, .int .i64 x.n, .int .i64 z] 25)) :: (B ++ A)) (ν 1) = none := by
        have e1 : (ν 0 = ν 1) = False := by simp [nuE]
        simp only [Vm.look, e1, if_false]; exact fr.2 1
      have hA1 : ∀ o, SubA A ((ν 1, o) :: ((ν 0, (Obj.cells #[.int .i64 x.k, .string x.t, .int .i64 x.n, .int .i64 z] 25)) :: (B ++ A))) := fun o => SubA.fresh f5 (SubA.fresh (fr.2 0) d.right)
      have hB1 : ∀ o, SubA B ((ν 1, o) :: ((ν 0, (Obj.cells #[.int .i64 x.k, .string x.t, .int .i64 x.n, .int .i64 z] 25)) :: (B ++ A))) := fun o => SubA.fresh f5 (SubA.fresh (fr.2 0) (SubA.left B A))
      refine RunA.use ?_
      refine append_src (m := 1) (news := strC (Lib.itoa x.n)) (B := B) slc32 zro9 rfl (by decide) ho (hB1 _) (.inr ⟨ν 1, 0, rfl, by simp (maxDischargeDepth := 16) only [argE_nil, argE_cons, ↓vmD, vmV, vmStd, Nat.reduceMul, ↓reduceIte, Nat.reduceAdd, Nat.reduceSub, Nat.reduceEqDiff, Nat.reduceLT, Nat.reduceLeDiff, reduceCtorEq, Int.reduceToNat, Int.reduceLT, Int.reduceLE, Int.reduceEq, Int.reduceNeg, Int.reduceBEq, Int.reduceBNe, String.reduceEq, forall_const, ↓vmDA, vmVA, ↓vmQA, vmR, vmRA, ↓vmSA, vmSV, tyS, nuE, SubA.skip, SubA.refl, fr.2, slIndexByte_v, indexByte_v, indexRune_v, containsRune_v, slHasPrefix_v, hasPrefix_v, classOf_v, isWordByte_v, wordAt_v, skip_v, number_v, literal_v, lexemeAt_v, strC, bt, b3]⟩) (str_one _) (by simp only [maxLen]; omega) (by omega) ?_
      intro v' B' ho' hb'
      refine ⟨B' ++ A, SubA.app (hA1 _), ?_⟩
      intro ν3 fr3
      have fr := fr3
      have nuE := fr.nu
      simp (maxDischargeDepth := 16) only [argE_nil, argE_cons, ↓vmD, vmV, vmStd, Nat.reduceMul, ↓reduceIte, Nat.reduceAdd, Nat.reduceSub, Nat.reduceEqDiff, Nat.reduceLT, Nat.reduceLeDiff, reduceCtorEq, Int.reduceToNat, Int.reduceLT, Int.reduceLE, Int.reduceEq, Int.reduceNeg, Int.reduceBEq, Int.reduceBNe, String.reduceEq, forall_const, ↓vmDA, vmVA, ↓vmQA, vmR, vmRA, ↓vmSA, vmSV, tyS, nuE, SubA.skip, SubA.refl, fr.2, slIndexByte_v, indexByte_v, indexRune_v, containsRune_v, slHasPrefix_v, hasPrefix_v, classOf_v, isWordByte_v, wordAt_v, skip_v, number_v, literal_v, lexemeAt_v, we]
      exact LoopA.weak (ih (e + 1) v' B' hd' (by omega) (by rw [hpt]; exact tx_app ho') (ap_dis hb' d (hA1 _))) (by simp only [subE, get_cons, Nat.reduceEqDiff, ↓reduceIte, reduceCtorEq, Nat.reduceAdd, and_self, and_true]) (SubA.refl _)
    by_cases k3 : x.k = 3
    · have hp : printed x = true := by simp [printed, k3]
      have hf : formX x = 34 :: (x.t.toList ++ [34]) := by simp [formX, k3]
      rw [if_pos hp, hf] at hpt
      simp (maxDischargeDepth := 16) only [argE_nil, argE_cons, ↓vmD, vmV, vmStd, Nat.reduceMul, ↓reduceIte, Nat.reduceAdd, Nat.reduceSub, Nat.reduceEqDiff, Nat.reduceLT, Nat.reduceLeDiff, reduceCtorEq, Int.reduceToNat, Int.reduceLT, Int.reduceLE, Int.reduceEq, Int.reduceNeg, Int.reduceBEq, Int.reduceBNe, String.reduceEq, forall_const, ↓vmDA, vmVA, ↓vmQA, vmR, vmRA, ↓vmSA, vmSV, tyS, nuE, SubA.skip, SubA.refl, fr.2, slIndexByte_v, indexByte_v, indexRune_v, containsRune_v, slHasPrefix_v, hasPrefix_v, classOf_v, isWordByte_v, wordAt_v, skip_v, number_v, literal_v, lexemeAt_v, lt, li, hbk2, hcr, hk0, hk1, hk2, we, sc_s1, eq_false k1, eq_false k4, eq_false k2, eq_true k3, s1, s2]
      have f5 : Vm.look ((ν 0, (Obj.cells #[.int .i64 x.k, .string x.t, .int .i64 x.n, .int .i64 z] 25)) :: (B ++ A)) (ν 1) = none := by
        have e1 : (ν 0 = ν 1) = False := by simp [nuE]
        simp only [Vm.look, e1, if_false]; exact fr.2 1
      have hA1 : ∀ o, SubA A ((ν 1, o) :: ((ν 0, (Obj.cells #[.int .i64 x.k, .string x.t, .int .i64 x.n, .int .i64 z] 25)) :: (B ++ A))) := fun o => SubA.fresh f5 (SubA.fresh (fr.2 0) d.right)
      have hB1 : ∀ o, SubA B ((ν 1, o) :: ((ν 0, (Obj.cells #[.int .i64 x.k, .string x.t, .int .i64 x.n, .int .i64 z] 25)) :: (B ++ A))) := fun o => SubA.fresh f5 (SubA.fresh (fr.2 0) (SubA.left B A))
      refine RunA.use ?_
      refine append_src (m := 1) (news := strC (34 :: (x.t.toList ++ [34]))) (B := B) slc32 zro9 rfl (by decide) ho (hB1 _) (.inr ⟨ν 1, 0, rfl, by simp (maxDischargeDepth := 16) only [argE_nil, argE_cons, ↓vmD, vmV, vmStd, Nat.reduceMul, ↓reduceIte, Nat.reduceAdd, Nat.reduceSub, Nat.reduceEqDiff, Nat.reduceLT, Nat.reduceLeDiff, reduceCtorEq, Int.reduceToNat, Int.reduceLT, Int.reduceLE, Int.reduceEq, Int.reduceNeg, Int.reduceBEq, Int.reduceBNe, String.reduceEq, forall_const, ↓vmDA, vmVA, ↓vmQA, vmR, vmRA, ↓vmSA, vmSV, tyS, nuE, SubA.skip, SubA.refl, fr.2, slIndexByte_v, indexByte_v, indexRune_v, containsRune_v, slHasPrefix_v, hasPrefix_v, classOf_v, isWordByte_v, wordAt_v, skip_v, number_v, literal_v, lexemeAt_v, strC, bt, b3]⟩) (str_one _) (by simp only [maxLen]; omega) (by omega) ?_
      intro v' B' ho' hb'
      refine ⟨B' ++ A, SubA.app (hA1 _), ?_⟩
      intro ν3 fr3
      have fr := fr3
      have nuE := fr.nu
      simp (maxDischargeDepth := 16) only [argE_nil, argE_cons, ↓vmD, vmV, vmStd, Nat.reduceMul, ↓reduceIte, Nat.reduceAdd, Nat.reduceSub, Nat.reduceEqDiff, Nat.reduceLT, Nat.reduceLeDiff, reduceCtorEq, Int.reduceToNat, Int.reduceLT, Int.reduceLE, Int.reduceEq, Int.reduceNeg, Int.reduceBEq, Int.reduceBNe, String.reduceEq, forall_const, ↓vmDA, vmVA, ↓vmQA, vmR, vmRA, ↓vmSA, vmSV, tyS, nuE, SubA.skip, SubA.refl, fr.2, slIndexByte_v, indexByte_v, indexRune_v, containsRune_v, slHasPrefix_v, hasPrefix_v, classOf_v, isWordByte_v, wordAt_v, skip_v, number_v, literal_v, lexemeAt_v, we]
      exact LoopA.weak (ih (e + 1) v' B' hd' (by omega) (by rw [hpt]; exact tx_app ho') (ap_dis hb' d (hA1 _))) (by simp only [subE, get_cons, Nat.reduceEqDiff, ↓reduceIte, reduceCtorEq, Nat.reduceAdd, and_self, and_true]) (SubA.refl _)
    have hp : printed x = false := by
      cases hpp : printed x with
      | false => rfl
      | true => simp only [printed, Bool.and_eq_true, decide_eq_true_eq] at hpp; omega
    rw [if_neg (by rw [hp]; simp), List.append_nil] at hpt
    simp (maxDischargeDepth := 16) only [argE_nil, argE_cons, ↓vmD, vmV, vmStd, Nat.reduceMul, ↓reduceIte, Nat.reduceAdd, Nat.reduceSub, Nat.reduceEqDiff, Nat.reduceLT, Nat.reduceLeDiff, reduceCtorEq, Int.reduceToNat, Int.reduceLT, Int.reduceLE, Int.reduceEq, Int.reduceNeg, Int.reduceBEq, Int.reduceBNe, String.reduceEq, forall_const, ↓vmDA, vmVA, ↓vmQA, vmR, vmRA, ↓vmSA, vmSV, tyS, nuE, SubA.skip, SubA.refl, fr.2, slIndexByte_v, indexByte_v, indexRune_v, containsRune_v, slHasPrefix_v, hasPrefix_v, classOf_v, isWordByte_v, wordAt_v, skip_v, number_v, literal_v, lexemeAt_v, lt, li, hbk2, hcr, hk0, hk1, hk2, we, sc_s1, eq_false k1, eq_false k4, eq_false k2, eq_false k3]
    refine LoopA.at (SubA.fresh (fr.2 0) (SubA.refl _)) ?_
    exact LoopA.weak (ih (e + 1) _ B hd' (by omega) (by rw [hpt]; exact ho) d) (by simp only [subE, get_cons, Nat.reduceEqDiff, ↓reduceIte, reduceCtorEq, Nat.reduceAdd, and_self, and_true]) (SubA.refl _)
theorem panPrint_w (A : AH) (hT : TabA A) (L : List (LR × Int)) (p : Option Addr) (cap : Nat) (hL : StR lzC 4 A p L) (hl : L.length ≤ 100000) (hz : SzX (L.map Prod.fst)) (B_ : AH) (hB_ : SubA A B_) : valA Tryd.prog 6 #[.slice p L.length cap] B_ = some (.string (bs (printX (L.map Prod.fst)))) := valA_eq (pureA_at (by kernel_rfl) (panPrint_h A hT L p cap hL hl hz) hB_)
theorem panPrint_v (A : AH) (hT : TabA A) (L : List (LR × Int)) (p : Option Addr) (cap : Nat) (hL : StR lzC 4 A p L) (hl : L.length ≤ 100000) (hz : SzX (L.map Prod.fst)) : valA Tryd.prog 6 #[.slice p L.length cap] A = some (.string (bs (printX (L.map Prod.fst)))) := valA_eq (pureA_at (by kernel_rfl) (panPrint_h A hT L p cap hL hl hz) (SubA.refl _))
theorem rPrint_h (A : AH) (hT : TabA A) (L : List (LR × Int)) (p : Option Addr) (cap : Nat) (hL : StR lzC 4 A p L) (hl : L.length ≤ 100000) (hz : SzX (L.map Prod.fst)) : CallA Tryd.prog 7 #[.slice p L.length cap] A (fun u_ A_ => u_ = .string (bs (printX (L.map Prod.fst))) ∧ SubA A A_) := by
  refine callA_of_denA ⟨Tryd.prog, 7, Tryd.f7, 52, [0, 2, 3, 4, 15], [], [], _⟩ (args := [_]) Tryd.func7 rfl (by kernel_rfl) Tryd.ntmps7 (by simp) (by kernel_rfl) ?_
  intro ν fr; have nuE := fr.nu
  simp (maxDischargeDepth := 16) only [argE_nil, argE_cons, ↓vmD, vmV, vmStd, Nat.reduceMul, ↓reduceIte, Nat.reduceAdd, Nat.reduceSub, Nat.reduceEqDiff, Nat.reduceLT, Nat.reduceLeDiff, reduceCtorEq, Int.reduceToNat, Int.reduceLT, Int.reduceLE, Int.reduceEq, Int.reduceNeg, Int.reduceBEq, Int.reduceBNe, String.reduceEq, forall_const, ↓vmDA, vmVA, ↓vmQA, vmR, vmRA, ↓vmSA, vmSV, tyS, nuE, SubA.skip, SubA.refl, fr.2, slIndexByte_v, indexByte_v, indexRune_v, containsRune_v, slHasPrefix_v, hasPrefix_v, classOf_v, isWordByte_v, wordAt_v, skip_v, number_v, literal_v, lexemeAt_v, sc_s0]
  have jlen := join_small hz (by rw [List.length_map]; exact hl)
  obtain ⟨e, l, v, B, he, hd, hle, ho, d, hv, hsub⟩ : ∃ (e : Nat) (l : List (LR × Int)) (v : Value) (B : AH), e = 0 ∧ l = L.drop e ∧ e ≤ L.length ∧ OwnL strC 1 9 v B (partsX ((L.map Prod.fst).take e)) ∧ Dis B A ∧ v = .slice none 0 0 ∧ SubA (B ++ A) A :=
    ⟨0, L, _, [], rfl, rfl, by omega, OwnL.nil _ _ _, Dis.nil _, rfl, SubA.refl _⟩
  rw [show (4, some (Value.int .i64 0)) = (4, some (Value.int .i64 (e : Int))) by rw [he]; rfl]
  rw [show (3, some (Value.slice none 0 0)) = (3, some v) by rw [hv]]
  refine LoopA.at hsub ?_
  clear he hv hsub nuE fr
  induction l generalizing e v B with
  | nil =>
    obtain ⟨hn1, hn2⟩ := drop_nil hd hle
    have lt : ((e : Int) < (L.length : Int)) = False := eq_false (by omega)
    rw [List.take_of_length_le (by rw [List.length_map]; omega)] at ho
    obtain ⟨q, vc, rfl, hq⟩ := own_tx ho
    have hpl := parts_len (L.map Prod.fst)
    rw [List.length_map] at hpl
    have jv : valA Tryd.prog 10 #[.slice q (partsX (L.map Prod.fst)).length vc, .string ⟨#[32]⟩] (B ++ A) = some (.string (bs (printX (L.map Prod.fst)))) := join_w (B ++ A) (partsX (L.map Prod.fst)) q vc [32] (hq.1.mono (SubA.left B A)) hq.2.1 (by omega) jlen (B ++ A) (SubA.refl _)
    refine LoopA.intro (by kernel_rfl) ?_
    intro ν fr; have nuE := fr.nu
    simp (maxDischargeDepth := 16) only [argE_nil, argE_cons, ↓vmD, vmV, vmStd, Nat.reduceMul, ↓reduceIte, Nat.reduceAdd, Nat.reduceSub, Nat.reduceEqDiff, Nat.reduceLT, Nat.reduceLeDiff, reduceCtorEq, Int.reduceToNat, Int.reduceLT, Int.reduceLE, Int.reduceEq, Int.reduceNeg, Int.reduceBEq, Int.reduceBNe, String.reduceEq, forall_const, ↓vmDA, vmVA, ↓vmQA, vmR, vmRA, ↓vmSA, vmSV, tyS, nuE, SubA.skip, SubA.refl, fr.2, slIndexByte_v, indexByte_v, indexRune_v, containsRune_v, slHasPrefix_v, hasPrefix_v, classOf_v, isWordByte_v, wordAt_v, skip_v, number_v, literal_v, lexemeAt_v, lt, jv]
    exact d.right
  | cons x l ih =>
    obtain ⟨ha, hlt, hd', htk⟩ := drop_some hd
    have lt : ((e : Int) < (L.length : Int)) = True := eq_true (by omega)
    have we : IntKind.i64.wrap ((e : Int) + 1) = ((e + 1 : Nat) : Int) := by rw [w_i64 (by omega) (by omega)]; omega
    obtain ⟨bk, off, cs, ty, fr0, hp0, hbk, hcr, hcc⟩ := hL.at ha
    subst hp0
    obtain ⟨x, z⟩ := x
    have hax : (L.map Prod.fst)[e]? = some x := by rw [List.getElem?_map, ha]; rfl
    obtain ⟨z1, z2, z3⟩ := hz x (List.mem_of_getElem? hax)
    have hbk2 := d.right _ _ hbk
    simp only [lzC] at hcr
    have hk0 : cs[off + e * 4]? = some (.int .i64 x.k) := hcc 0 _ rfl
    have hk1 : cs[off + e * 4 + 1]? = some (.string x.t) := hcc 1 _ rfl
    have hk2 : cs[off + e * 4 + 2]? = some (.int .i64 x.n) := hcc 2 _ rfl
    have li : ((e : Int) < 0) = False := eq_false (by omega)
    have hpt := parts_take hax
    have hpl := parts_len ((L.map Prod.fst).take e)
    rw [List.length_take, List.length_map] at hpl
    have fw := fun B2 hB => fmt_w A hT x.n z1 z2 B2 hB
    have bt : bs x.t.toList = x.t := by rw [ByteArray.toList_eq]; exact (bs_of _).symm
    have b3 : bs (34 :: (x.t.toList ++ [34])) = ⟨#[34]⟩ ++ x.t ++ ⟨#[34]⟩ := by
      apply ba_list
      rw [bs_list]
      simp [ByteArray.toList_eq]
    have s34 : (ByteArray.mk #[34]).size = 1 := rfl
    have s1 : ((ByteArray.mk #[34]).size + x.t.size ≤ 9223372036854775807) = True := eq_true (by rw [s34]; omega)
    have s2 : ((ByteArray.mk #[34] ++ x.t).size + (ByteArray.mk #[34]).size ≤ 9223372036854775807) = True := eq_true (by rw [ByteArray.size_append, s34]; omega)
    obtain ⟨q, vc, rfl, hq⟩ := own_tx ho
    refine LoopA.intro (by kernel_rfl) ?_
    intro ν fr; have nuE := fr.nu
    by_cases k1 : x.k = 1
    · have hp : printed x = true := by simp [printed, k1]
      have hf : formX x = x.t.toList := by simp [formX, k1]
      rw [if_pos hp, hf] at hpt
      simp (maxDischargeDepth := 16) only [argE_nil, argE_cons, ↓vmD, vmV, vmStd, Nat.reduceMul, ↓reduceIte, Nat.reduceAdd, Nat.reduceSub, Nat.reduceEqDiff, Nat.reduceLT, Nat.reduceLeDiff, reduceCtorEq, Int.reduceToNat, Int.reduceLT, Int.reduceLE, Int.reduceEq, Int.reduceNeg, Int.reduceBEq, Int.reduceBNe, String.reduceEq, forall_const, ↓vmDA, vmVA, ↓vmQA, vmR, vmRA, ↓vmSA, vmSV, tyS, nuE, SubA.skip, SubA.refl, fr.2, slIndexByte_v, indexByte_v, indexRune_v, containsRune_v, slHasPrefix_v, hasPrefix_v, classOf_v, isWordByte_v, wordAt_v, skip_v, number_v, literal_v, lexemeAt_v, lt, li, hbk2, hcr, hk0, hk1, hk2, we, sc_s1, eq_true k1]
      have f5 : Vm.look (B ++ A) (ν 0) = none := fr.2 0
      have hA1 : ∀ o, SubA A ((ν 0, o) :: (B ++ A)) := fun o => SubA.fresh f5 (d.right)
      have hB1 : ∀ o, SubA B ((ν 0, o) :: (B ++ A)) := fun o => SubA.fresh f5 (SubA.left B A)
      refine RunA.use ?_
      refine append_src (m := 1) (news := strC (x.t.toList)) (B := B) slc32 zro9 rfl (by decide) ho (hB1 _) (.inr ⟨ν 0, 0, rfl, by simp (maxDischargeDepth := 16) only [argE_nil, argE_cons, ↓vmD, vmV, vmStd, Nat.reduceMul, ↓reduceIte, Nat.reduceAdd, Nat.reduceSub, Nat.reduceEqDiff, Nat.reduceLT, Nat.reduceLeDiff, reduceCtorEq, Int.reduceToNat, Int.reduceLT, Int.reduceLE, Int.reduceEq, Int.reduceNeg, Int.reduceBEq, Int.reduceBNe, String.reduceEq, forall_const, ↓vmDA, vmVA, ↓vmQA, vmR, vmRA, ↓vmSA, vmSV, tyS, nuE, SubA.skip, SubA.refl, fr.2, slIndexByte_v, indexByte_v, indexRune_v, containsRune_v, slHasPrefix_v, hasPrefix_v, classOf_v, isWordByte_v, wordAt_v, skip_v, number_v, literal_v, lexemeAt_v, strC, bt, b3]⟩) (str_one _) (by simp only [maxLen]; omega) (by omega) ?_
      intro v' B' ho' hb'
      refine ⟨B' ++ A, SubA.app (hA1 _), ?_⟩
      intro ν3 fr3
      have fr := fr3
      have nuE := fr.nu
      simp (maxDischargeDepth := 16) only [argE_nil, argE_cons, ↓vmD, vmV, vmStd, Nat.reduceMul, ↓reduceIte, Nat.reduceAdd, Nat.reduceSub, Nat.reduceEqDiff, Nat.reduceLT, Nat.reduceLeDiff, reduceCtorEq, Int.reduceToNat, Int.reduceLT, Int.reduceLE, Int.reduceEq, Int.reduceNeg, Int.reduceBEq, Int.reduceBNe, String.reduceEq, forall_const, ↓vmDA, vmVA, ↓vmQA, vmR, vmRA, ↓vmSA, vmSV, tyS, nuE, SubA.skip, SubA.refl, fr.2, slIndexByte_v, indexByte_v, indexRune_v, containsRune_v, slHasPrefix_v, hasPrefix_v, classOf_v, isWordByte_v, wordAt_v, skip_v, number_v, literal_v, lexemeAt_v, we]
      exact LoopA.weak (ih (e + 1) v' B' hd' (by omega) (by rw [hpt]; exact tx_app ho') (ap_dis hb' d (hA1 _))) (by simp only [subE, get_cons, Nat.reduceEqDiff, ↓reduceIte, reduceCtorEq, Nat.reduceAdd, and_self, and_true]) (SubA.refl _)
    by_cases k4 : x.k = 4
    · have hp : printed x = true := by simp [printed, k4]
      have hf : formX x = x.t.toList := by simp [formX, k4]
      rw [if_pos hp, hf] at hpt
      simp (maxDischargeDepth := 16) only [argE_nil, argE_cons, ↓vmD, vmV, vmStd, Nat.reduceMul, ↓reduceIte, Nat.reduceAdd, Nat.reduceSub, Nat.reduceEqDiff, Nat.reduceLT, Nat.reduceLeDiff, reduceCtorEq, Int.reduceToNat, Int.reduceLT, Int.reduceLE, Int.reduceEq, Int.reduceNeg, Int.reduceBEq, Int.reduceBNe, String.reduceEq, forall_const, ↓vmDA, vmVA, ↓vmQA, vmR, vmRA, ↓vmSA, vmSV, tyS, nuE, SubA.skip, SubA.refl, fr.2, slIndexByte_v, indexByte_v, indexRune_v, containsRune_v, slHasPrefix_v, hasPrefix_v, classOf_v, isWordByte_v, wordAt_v, skip_v, number_v, literal_v, lexemeAt_v, lt, li, hbk2, hcr, hk0, hk1, hk2, we, sc_s1, eq_false k1, eq_true k4]
      have f5 : Vm.look (B ++ A) (ν 0) = none := fr.2 0
      have hA1 : ∀ o, SubA A ((ν 0, o) :: (B ++ A)) := fun o => SubA.fresh f5 (d.right)
      have hB1 : ∀ o, SubA B ((ν 0, o) :: (B ++ A)) := fun o => SubA.fresh f5 (SubA.left B A)
      refine RunA.use ?_
      refine append_src (m := 1) (news := strC (x.t.toList)) (B := B) slc32 zro9 rfl (by decide) ho (hB1 _) (.inr ⟨ν 0, 0, rfl, by simp (maxDischargeDepth := 16) only [argE_nil, argE_cons, ↓vmD, vmV, vmStd, Nat.reduceMul, ↓reduceIte, Nat.reduceAdd, Nat.reduceSub, Nat.reduceEqDiff, Nat.reduceLT, Nat.reduceLeDiff, reduceCtorEq, Int.reduceToNat, Int.reduceLT, Int.reduceLE, Int.reduceEq, Int.reduceNeg, Int.reduceBEq, Int.reduceBNe, String.reduceEq, forall_const, ↓vmDA, vmVA, ↓vmQA, vmR, vmRA, ↓vmSA, vmSV, tyS, nuE, SubA.skip, SubA.refl, fr.2, slIndexByte_v, indexByte_v, indexRune_v, containsRune_v, slHasPrefix_v, hasPrefix_v, classOf_v, isWordByte_v, wordAt_v, skip_v, number_v, literal_v, lexemeAt_v, strC, bt, b3]⟩) (str_one _) (by simp only [maxLen]; omega) (by omega) ?_
      intro v' B' ho' hb'
      refine ⟨B' ++ A, SubA.app (hA1 _), ?_⟩
      intro ν3 fr3
      have fr := fr3
      have nuE := fr.nu
      simp (maxDischargeDepth := 16) only [argE_nil, argE_cons, ↓vmD, vmV, vmStd, Nat.reduceMul, ↓reduceIte, Nat.reduceAdd, Nat.reduceSub, Nat.reduceEqDiff, Nat.reduceLT, Nat.reduceLeDiff, reduceCtorEq, Int.reduceToNat, Int.reduceLT, Int.reduceLE, Int.reduceEq, Int.reduceNeg, Int.reduceBEq, Int.reduceBNe, String.reduceEq, forall_const, ↓vmDA, vmVA, ↓vmQA, vmR, vmRA, ↓vmSA, vmSV, tyS, nuE, SubA.skip, SubA.refl, fr.2, slIndexByte_v, indexByte_v, indexRune_v, containsRune_v, slHasPrefix_v, hasPrefix_v, classOf_v, isWordByte_v, wordAt_v, skip_v, number_v, literal_v, lexemeAt_v, we]
      exact LoopA.weak (ih (e + 1) v' B' hd' (by omega) (by rw [hpt]; exact tx_app ho') (ap_dis hb' d (hA1 _))) (by simp only [subE, get_cons, Nat.reduceEqDiff, ↓reduceIte, reduceCtorEq, Nat.reduceAdd, and_self, and_true]) (SubA.refl _)
    by_cases k2 : x.k = 2
    · have hp : printed x = true := by simp [printed, k2]
      have hf : formX x = Lib.itoa x.n := by simp [formX, k2]
      rw [if_pos hp, hf] at hpt
      have fwK := fw (B ++ A) d.right
      simp (maxDischargeDepth := 16) only [argE_nil, argE_cons, ↓vmD, vmV, vmStd, Nat.reduceMul, ↓reduceIte, Nat.reduceAdd, Nat.reduceSub, Nat.reduceEqDiff, Nat.reduceLT, Nat.reduceLeDiff, reduceCtorEq, Int.reduceToNat, Int.reduceLT, Int.reduceLE, Int.reduceEq, Int.reduceNeg, Int.reduceBEq, Int.reduceBNe, String.reduceEq, forall_const, ↓vmDA, vmVA, ↓vmQA, vmR, vmRA, ↓vmSA, vmSV, tyS, nuE, SubA.skip, SubA.refl, fr.2, slIndexByte_v, indexByte_v, indexRune_v, containsRune_v, slHasPrefix_v, hasPrefix_v, classOf_v, isWordByte_v, wordAt_v, skip_v, number_v, literal_v, lexemeAt_v, lt, li, hbk2, hcr, hk0, hk1, hk2, we, sc_s1, eq_false k1, eq_false k4, eq_true k2, fwK]
      have f5 : Vm.look (B ++ A) (ν 0) = none := fr.2 0
      have hA1 : ∀ o, SubA A ((ν 0, o) :: (B ++ A)) := fun o => SubA.fresh f5 (d.right)
      have hB1 : ∀ o, SubA B ((ν 0, o) :: (B ++ A)) := fun o => SubA.fresh f5 (SubA.left B A)
      refine RunA.use ?_
      refine append_src (m := 1) (news := strC (Lib.itoa x.n)) (B := B) slc32 zro9 rfl (by decide) ho (hB1 _) (.inr ⟨ν 0, 0, rfl, by simp (maxDischargeDepth := 16) only [argE_nil, argE_cons, ↓vmD, vmV, vmStd, Nat.reduceMul, ↓reduceIte, Nat.reduceAdd, Nat.reduceSub, Nat.reduceEqDiff, Nat.reduceLT, Nat.reduceLeDiff, reduceCtorEq, Int.reduceToNat, Int.reduceLT, Int.reduceLE, Int.reduceEq, Int.reduceNeg, Int.reduceBEq, Int.reduceBNe, String.reduceEq, forall_const, ↓vmDA, vmVA, ↓vmQA, vmR, vmRA, ↓vmSA, vmSV, tyS, nuE, SubA.skip, SubA.refl, fr.2, slIndexByte_v, indexByte_v, indexRune_v, containsRune_v, slHasPrefix_v, hasPrefix_v, classOf_v, isWordByte_v, wordAt_v, skip_v, number_v, literal_v, lexemeAt_v, strC, bt, b3]⟩) (str_one _) (by simp only [maxLen]; omega) (by omega) ?_
      intro v' B' ho' hb'
      refine ⟨B' ++ A, SubA.app (hA1 _), ?_⟩
      intro ν3 fr3
      have fr := fr3
      have nuE := fr.nu
      simp (maxDischargeDepth := 16) only [argE_nil, argE_cons, ↓vmD, vmV, vmStd, Nat.reduceMul, ↓reduceIte, Nat.reduceAdd, Nat.reduceSub, Nat.reduceEqDiff, Nat.reduceLT, Nat.reduceLeDiff, reduceCtorEq, Int.reduceToNat, Int.reduceLT, Int.reduceLE, Int.reduceEq, Int.reduceNeg, Int.reduceBEq, Int.reduceBNe, String.reduceEq, forall_const, ↓vmDA, vmVA, ↓vmQA, vmR, vmRA, ↓vmSA, vmSV, tyS, nuE, SubA.skip, SubA.refl, fr.2, slIndexByte_v, indexByte_v, indexRune_v, containsRune_v, slHasPrefix_v, hasPrefix_v, classOf_v, isWordByte_v, wordAt_v, skip_v, number_v, literal_v, lexemeAt_v, we]
      exact LoopA.weak (ih (e + 1) v' B' hd' (by omega) (by rw [hpt]; exact tx_app ho') (ap_dis hb' d (hA1 _))) (by simp only [subE, get_cons, Nat.reduceEqDiff, ↓reduceIte, reduceCtorEq, Nat.reduceAdd, and_self, and_true]) (SubA.refl _)
    by_cases k3 : x.k = 3
    · have hp : printed x = true := by simp [printed, k3]
      have hf : formX x = 34 :: (x.t.toList ++ [34]) := by simp [formX, k3]
      rw [if_pos hp, hf] at hpt
      simp (maxDischargeDepth := 16) only [argE_nil, argE_cons, ↓vmD, vmV, vmStd, Nat.reduceMul, ↓reduceIte, Nat.reduceAdd, Nat.reduceSub, Nat.reduceEqDiff, Nat.reduceLT, Nat.reduceLeDiff, reduceCtorEq, Int.reduceToNat, Int.reduceLT, Int.reduceLE, Int.reduceEq, Int.reduceNeg, Int.reduceBEq, Int.reduceBNe, String.reduceEq, forall_const, ↓vmDA, vmVA, ↓vmQA, vmR, vmRA, ↓vmSA, vmSV, tyS, nuE, SubA.skip, SubA.refl, fr.2, slIndexByte_v, indexByte_v, indexRune_v, containsRune_v, slHasPrefix_v, hasPrefix_v, classOf_v, isWordByte_v, wordAt_v, skip_v, number_v, literal_v, lexemeAt_v, lt, li, hbk2, hcr, hk0, hk1, hk2, we, sc_s1, eq_false k1, eq_false k4, eq_false k2, eq_true k3, s1, s2]
      have f5 : Vm.look (B ++ A) (ν 0) = none := fr.2 0
      have hA1 : ∀ o, SubA A ((ν 0, o) :: (B ++ A)) := fun o => SubA.fresh f5 (d.right)
      have hB1 : ∀ o, SubA B ((ν 0, o) :: (B ++ A)) := fun o => SubA.fresh f5 (SubA.left B A)
      refine RunA.use ?_
      refine append_src (m := 1) (news := strC (34 :: (x.t.toList ++ [34]))) (B := B) slc32 zro9 rfl (by decide) ho (hB1 _) (.inr ⟨ν 0, 0, rfl, by simp (maxDischargeDepth := 16) only [argE_nil, argE_cons, ↓vmD, vmV, vmStd, Nat.reduceMul, ↓reduceIte, Nat.reduceAdd, Nat.reduceSub, Nat.reduceEqDiff, Nat.reduceLT, Nat.reduceLeDiff, reduceCtorEq, Int.reduceToNat, Int.reduceLT, Int.reduceLE, Int.reduceEq, Int.reduceNeg, Int.reduceBEq, Int.reduceBNe, String.reduceEq, forall_const, ↓vmDA, vmVA, ↓vmQA, vmR, vmRA, ↓vmSA, vmSV, tyS, nuE, SubA.skip, SubA.refl, fr.2, slIndexByte_v, indexByte_v, indexRune_v, containsRune_v, slHasPrefix_v, hasPrefix_v, classOf_v, isWordByte_v, wordAt_v, skip_v, number_v, literal_v, lexemeAt_v, strC, bt, b3]⟩) (str_one _) (by simp only [maxLen]; omega) (by omega) ?_
      intro v' B' ho' hb'
      refine ⟨B' ++ A, SubA.app (hA1 _), ?_⟩
      intro ν3 fr3
      have fr := fr3
      have nuE := fr.nu
      simp (maxDischargeDepth := 16) only [argE_nil, argE_cons, ↓vmD, vmV, vmStd, Nat.reduceMul, ↓reduceIte, Nat.reduceAdd, Nat.reduceSub, Nat.reduceEqDiff, Nat.reduceLT, Nat.reduceLeDiff, reduceCtorEq, Int.reduceToNat, Int.reduceLT, Int.reduceLE, Int.reduceEq, Int.reduceNeg, Int.reduceBEq, Int.reduceBNe, String.reduceEq, forall_const, ↓vmDA, vmVA, ↓vmQA, vmR, vmRA, ↓vmSA, vmSV, tyS, nuE, SubA.skip, SubA.refl, fr.2, slIndexByte_v, indexByte_v, indexRune_v, containsRune_v, slHasPrefix_v, hasPrefix_v, classOf_v, isWordByte_v, wordAt_v, skip_v, number_v, literal_v, lexemeAt_v, we]
      exact LoopA.weak (ih (e + 1) v' B' hd' (by omega) (by rw [hpt]; exact tx_app ho') (ap_dis hb' d (hA1 _))) (by simp only [subE, get_cons, Nat.reduceEqDiff, ↓reduceIte, reduceCtorEq, Nat.reduceAdd, and_self, and_true]) (SubA.refl _)
    have hp : printed x = false := by
      cases hpp : printed x with
      | false => rfl
      | true => simp only [printed, Bool.and_eq_true, decide_eq_true_eq] at hpp; omega
    rw [if_neg (by rw [hp]; simp), List.append_nil] at hpt
    simp (maxDischargeDepth := 16) only [argE_nil, argE_cons, ↓vmD, vmV, vmStd, Nat.reduceMul, ↓reduceIte, Nat.reduceAdd, Nat.reduceSub, Nat.reduceEqDiff, Nat.reduceLT, Nat.reduceLeDiff, reduceCtorEq, Int.reduceToNat, Int.reduceLT, Int.reduceLE, Int.reduceEq, Int.reduceNeg, Int.reduceBEq, Int.reduceBNe, String.reduceEq, forall_const, ↓vmDA, vmVA, ↓vmQA, vmR, vmRA, ↓vmSA, vmSV, tyS, nuE, SubA.skip, SubA.refl, fr.2, slIndexByte_v, indexByte_v, indexRune_v, containsRune_v, slHasPrefix_v, hasPrefix_v, classOf_v, isWordByte_v, wordAt_v, skip_v, number_v, literal_v, lexemeAt_v, lt, li, hbk2, hcr, hk0, hk1, hk2, we, sc_s1, eq_false k1, eq_false k4, eq_false k2, eq_false k3]
    skip
    exact LoopA.weak (ih (e + 1) _ B hd' (by omega) (by rw [hpt]; exact ho) d) (by simp only [subE, get_cons, Nat.reduceEqDiff, ↓reduceIte, reduceCtorEq, Nat.reduceAdd, and_self, and_true]) (SubA.refl _)
theorem rPrint_w (A : AH) (hT : TabA A) (L : List (LR × Int)) (p : Option Addr) (cap : Nat) (hL : StR lzC 4 A p L) (hl : L.length ≤ 100000) (hz : SzX (L.map Prod.fst)) (B_ : AH) (hB_ : SubA A B_) : valA Tryd.prog 7 #[.slice p L.length cap] B_ = some (.string (bs (printX (L.map Prod.fst)))) := valA_eq (pureA_at (by kernel_rfl) (rPrint_h A hT L p cap hL hl hz) hB_)
theorem rPrint_v (A : AH) (hT : TabA A) (L : List (LR × Int)) (p : Option Addr) (cap : Nat) (hL : StR lzC 4 A p L) (hl : L.length ≤ 100000) (hz : SzX (L.map Prod.fst)) : valA Tryd.prog 7 #[.slice p L.length cap] A = some (.string (bs (printX (L.map Prod.fst)))) := valA_eq (pureA_at (by kernel_rfl) (rPrint_h A hT L p cap hL hl hz) (SubA.refl _))
end Go.Proofs.YtilifbndbdanoaaDoor
