/-
Scan over known blocks; the laws LexerPrints and LexerRoundTrip.
Conditions: none.
-/
import Derived.Test.YtilifbndbdanoaaDoorPrt
import Derived.Test.YtilifbndbdanoaaDoorOpn
namespace Go.Proofs.YtilifbndbdanoaaDoor
open Go.Vm
set_option linter.unusedSimpArgs false
set_option linter.unusedVariables false
set_option maxHeartbeats 2000000
set_option maxRecDepth 20000
theorem own_ha {h' : Heap} {base : Nat} {e : TypeId} {size : Nat} {v : Value} {n : Nat} {xs : List Value} (o : OwnH h' base e size v n xs) : ∃ B, OwnA e size v B n xs ∧ Sat B h' ∧ ∀ b, Vm.look B b ≠ none → base ≤ b := by
  unfold OwnH World.ownsRow at o
  obtain ⟨h1, ⟨h2, h3⟩ | ⟨g, cap, cur, h2, h3, h4, h5⟩⟩ := o
  · exact ⟨[], ⟨h1, .inl ⟨h2, rfl, h3⟩⟩, Sat.nil _, fun b hb => absurd rfl hb⟩
  · refine ⟨[(g, .cells cur e)], ⟨h1, .inr ⟨g, cap, cur, h2, rfl, h5⟩⟩, fun b o hl => ?_, fun b hb => ?_⟩
    · simp only [Vm.look] at hl
      split at hl
      · rename_i e1; subst e1; cases hl; exact h4
      · cases hl
    · simp only [Vm.look] at hb
      split at hb
      · rename_i e1; rw [← e1]; exact h3
      · exact absurd rfl hb
theorem scan_a (A : AH) (s : ByteArray) (hs : s.size ≤ 100000) : CallA Tryd.prog 8 #[.string s] A fun u D => ∃ v B, u = v ∧ (∃ w, v = .tuple #[w, .int .i64 (scanF s).1, .int .i64 ((scanF s).2.1 : Nat)] ∧ OwnL LR.cells 4 25 w B (scanF s).2.2) ∧ Dis B A ∧ SubA (B ++ A) D := by
  intro h hA
  unfold RunC
  rw [if_pos (by kernel_rfl)]
  refine (scan_h s hs h).mono0 ?_
  rintro r h' ⟨v, rfl, o, g⟩
  obtain ⟨B, o2, sB, hb⟩ := own_ha o
  have dB : Dis B A := fun x hx => by
    cases hl : Vm.look A x with
    | none => exact absurd hl hx
    | some ob =>
      have := hA.lt hl
      cases hB : Vm.look B x with
      | none => rfl
      | some o3 => have := hb x (by rw [hB]; simp); omega
  refine ⟨_, B ++ A, rfl, Sat.both sB (hA.grew g), ⟨g.le, fun b hlt hl => ⟨g.old b hlt, look_app_none ?_ hl⟩⟩, _, B, rfl, ⟨v, rfl, .inl o2⟩, dB, SubA.refl _⟩
  cases hB : Vm.look B b with
  | none => rfl
  | some o3 => have := hb b (by rw [hB]; simp); omega
theorem cellsL_at {l : List LR} {i : Nat} {x : LR} (h : l[i]? = some x) : ((cellsL l).drop (i * 4)).take 4 = x.cells := flat_at LR.cells 4 (fun _ => rfl) l i x h
def exS : ByteArray := ⟨#[114, 117, 108, 101, 32, 97, 32, 119, 104, 101, 110, 32, 97, 109, 111, 117, 110, 116, 32, 60, 61, 32, 49, 48, 48]⟩
theorem ex_e : (scanF exS).1 = 0 := by decide +kernel
theorem ex_a : (scanF exS).2.1 = 0 := by decide +kernel
theorem ex_l : (scanF exS).2.2.length = 7 := by decide +kernel
theorem ex_4 : (scanF exS).2.2[4]? = some ⟨4, ⟨#[60, 61]⟩, 0, 19, 21, 0⟩ := by kernel_rfl
theorem ex_5 : (scanF exS).2.2[5]? = some ⟨2, ⟨#[]⟩, 100, 22, 25, 0⟩ := by kernel_rfl
theorem ex_6 : (scanF exS).2.2[6]? = some ⟨0, ⟨#[]⟩, 0, 25, 0, 0⟩ := by kernel_rfl
theorem awake_h (h : Heap) : CallsH Tryd.prog 5 #[] h fun r h' => r = .returned (.bool true) ∧ Grew h h' := by
  refine callsH_of_den ⟨Tryd.prog, 5, Tryd.f5, 41, [0, 1, 2, 3], _⟩ (args := []) Tryd.func5 rfl Tryd.ntmps5 (by simp) ?_
  simp only [argE_nil, argE_cons, ↓vmD, vmV, vmStd, Nat.reduceMul, ↓reduceIte, Nat.reduceAdd, Nat.reduceSub, Nat.reduceEqDiff, Nat.reduceLT, Nat.reduceLeDiff, reduceCtorEq, Int.reduceToNat, Int.reduceLT, Int.reduceLE, Int.reduceEq, Int.reduceNeg, Int.reduceBEq, Int.reduceBNe, String.reduceEq, forall_const, tyS, slIndexByte_p, indexByte_p, indexRune_p, containsRune_p, slHasPrefix_p, hasPrefix_p, classOf_p, isWordByte_p, wordAt_p, skip_p, number_p, literal_p]
  refine (scan_h exS (by decide) h).mono ?_
  rintro _ h2 ⟨v, rfl, o, g⟩
  rw [ex_l] at o
  obtain ⟨gb, cap, cur, rfl, -, hg, hr⟩ := o.read (by decide)
  have r4 := hr 4 (by decide)
  have r5 := hr 5 (by decide)
  have r6 := hr 6 (by decide)
  rw [cellsL_at ex_4] at r4
  rw [cellsL_at ex_5] at r5
  rw [cellsL_at ex_6] at r6
  simp only [LR.cells, Nat.reduceMul] at r4 r5 r6
  simp only [argE_nil, argE_cons, ↓vmD, vmV, vmStd, Nat.reduceMul, ↓reduceIte, Nat.reduceAdd, Nat.reduceSub, Nat.reduceEqDiff, Nat.reduceLT, Nat.reduceLeDiff, reduceCtorEq, Int.reduceToNat, Int.reduceLT, Int.reduceLE, Int.reduceEq, Int.reduceNeg, Int.reduceBEq, Int.reduceBNe, String.reduceEq, forall_const, tyS, slIndexByte_p, indexByte_p, indexRune_p, containsRune_p, slHasPrefix_p, hasPrefix_p, classOf_p, isWordByte_p, wordAt_p, skip_p, number_p, literal_p, ex_e, ex_a, hg, r4, r5, r6]
  exact g
theorem awk08_v (A : AH) : valA Tryd.prog 5 #[] A = some (.bool true) := pureA_h (by kernel_rfl) (by kernel_rfl) awake_h
theorem printsLaw_h (A : AH) (hT : TabA A) (L : List (LR × Int)) (p : Option Addr) (cap : Nat) (hL : StR lzC 4 A p L) (hn : ∀ x ∈ L, -9223372036854775808 ≤ x.1.n ∧ x.1.n ≤ 9223372036854775807) (hl : L.length ≤ 9223372036854775807) : CallA Tryd.prog 3 #[.slice p L.length cap] A (fun u_ A_ => u_ = .bool true ∧ SubA A A_) := by
  refine callA_of_denA ⟨Tryd.prog, 3, Tryd.f3, 30, [0, 2, 3], [], [], _⟩ (args := [_]) Tryd.func3 rfl (by kernel_rfl) Tryd.ntmps3 (by simp) (by kernel_rfl) ?_
  intro ν fr; have nuE := fr.nu
  by_cases h1 : 100 < L.length
  · have h1' : ((100 : Int) < (L.length : Int)) = True := eq_true (by omega)
    simp (maxDischargeDepth := 16) only [argE_nil, argE_cons, ↓vmD, vmV, vmStd, Nat.reduceMul, ↓reduceIte, Nat.reduceAdd, Nat.reduceSub, Nat.reduceEqDiff, Nat.reduceLT, Nat.reduceLeDiff, reduceCtorEq, Int.reduceToNat, Int.reduceLT, Int.reduceLE, Int.reduceEq, Int.reduceNeg, Int.reduceBEq, Int.reduceBNe, String.reduceEq, forall_const, ↓vmDA, vmVA, ↓vmQA, vmR, vmRA, ↓vmSA, vmSV, tyS, nuE, SubA.skip, SubA.refl, fr.2, slIndexByte_v, indexByte_v, indexRune_v, containsRune_v, slHasPrefix_v, hasPrefix_v, classOf_v, isWordByte_v, wordAt_v, skip_v, number_v, literal_v, lexemeAt_v, awk08_v, h1']
  have h1' : ((100 : Int) < (L.length : Int)) = False := eq_false (by omega)
  simp (maxDischargeDepth := 16) only [argE_nil, argE_cons, ↓vmD, vmV, vmStd, Nat.reduceMul, ↓reduceIte, Nat.reduceAdd, Nat.reduceSub, Nat.reduceEqDiff, Nat.reduceLT, Nat.reduceLeDiff, reduceCtorEq, Int.reduceToNat, Int.reduceLT, Int.reduceLE, Int.reduceEq, Int.reduceNeg, Int.reduceBEq, Int.reduceBNe, String.reduceEq, forall_const, ↓vmDA, vmVA, ↓vmQA, vmR, vmRA, ↓vmSA, vmSV, tyS, nuE, SubA.skip, SubA.refl, fr.2, slIndexByte_v, indexByte_v, indexRune_v, containsRune_v, slHasPrefix_v, hasPrefix_v, classOf_v, isWordByte_v, wordAt_v, skip_v, number_v, literal_v, lexemeAt_v, awk08_v, h1']
  obtain ⟨e, l, he, hd, hle, hs⟩ : ∃ (e : Nat) (l : List (LR × Int)), e = 0 ∧ l = L.drop e ∧ e ≤ L.length ∧ ∀ x ∈ L.take e, x.1.t.size ≤ 200 := ⟨0, L, rfl, rfl, by omega, fun x hx => by simp at hx⟩
  rw [show (3, some (Value.int .i64 0)) = (3, some (Value.int .i64 (e : Int))) by rw [he]; rfl]
  clear he nuE fr
  induction l generalizing e with
  | nil =>
    obtain ⟨hn1, hn2⟩ := drop_nil hd hle
    have lt : ((e : Int) < (L.length : Int)) = False := eq_false (by omega)
    rw [hn2] at hs
    have hz : SzX (L.map Prod.fst) := fun x hx => by
      obtain ⟨y, hy, rfl⟩ := List.mem_map.1 hx
      have q1 := hn y hy
      have q2 := hs y hy
      exact ⟨q1.1, q1.2, by omega⟩
    have pv := panPrint_w A hT L p cap hL (by omega) hz A (SubA.refl _)
    have rv := rPrint_w A hT L p cap hL (by omega) hz A (SubA.refl _)
    refine LoopA.intro (by kernel_rfl) ?_
    intro ν fr; have nuE := fr.nu
    simp (maxDischargeDepth := 16) only [argE_nil, argE_cons, ↓vmD, vmV, vmStd, Nat.reduceMul, ↓reduceIte, Nat.reduceAdd, Nat.reduceSub, Nat.reduceEqDiff, Nat.reduceLT, Nat.reduceLeDiff, reduceCtorEq, Int.reduceToNat, Int.reduceLT, Int.reduceLE, Int.reduceEq, Int.reduceNeg, Int.reduceBEq, Int.reduceBNe, String.reduceEq, forall_const, ↓vmDA, vmVA, ↓vmQA, vmR, vmRA, ↓vmSA, vmSV, tyS, nuE, SubA.skip, SubA.refl, fr.2, slIndexByte_v, indexByte_v, indexRune_v, containsRune_v, slHasPrefix_v, hasPrefix_v, classOf_v, isWordByte_v, wordAt_v, skip_v, number_v, literal_v, lexemeAt_v, awk08_v, lt, pv, rv]
  | cons x l ih =>
    obtain ⟨ha, hlt, hd', htk⟩ := drop_some hd
    have lt : ((e : Int) < (L.length : Int)) = True := eq_true (by omega)
    have we : IntKind.i64.wrap ((e : Int) + 1) = ((e + 1 : Nat) : Int) := by rw [w_i64 (by omega) (by omega)]; omega
    obtain ⟨bk, off, cs, ty, fr0, hp0, hbk, hcr, hcc⟩ := hL.at ha
    subst hp0
    have hk1 : cs[off + e * 4 + 1]? = some (.string x.1.t) := hcc 1 _ rfl
    have li : ((e : Int) < 0) = False := eq_false (by omega)
    refine LoopA.intro (by kernel_rfl) ?_
    intro ν fr; have nuE := fr.nu
    by_cases h2 : 200 < x.1.t.size
    · have h2' : ((200 : Int) < (x.1.t.size : Int)) = True := eq_true (by omega)
      simp (maxDischargeDepth := 16) only [argE_nil, argE_cons, ↓vmD, vmV, vmStd, Nat.reduceMul, ↓reduceIte, Nat.reduceAdd, Nat.reduceSub, Nat.reduceEqDiff, Nat.reduceLT, Nat.reduceLeDiff, reduceCtorEq, Int.reduceToNat, Int.reduceLT, Int.reduceLE, Int.reduceEq, Int.reduceNeg, Int.reduceBEq, Int.reduceBNe, String.reduceEq, forall_const, ↓vmDA, vmVA, ↓vmQA, vmR, vmRA, ↓vmSA, vmSV, tyS, nuE, SubA.skip, SubA.refl, fr.2, slIndexByte_v, indexByte_v, indexRune_v, containsRune_v, slHasPrefix_v, hasPrefix_v, classOf_v, isWordByte_v, wordAt_v, skip_v, number_v, literal_v, lexemeAt_v, awk08_v, lt, li, hbk, hk1, h2']
    · have h2' : ((200 : Int) < (x.1.t.size : Int)) = False := eq_false (by omega)
      simp (maxDischargeDepth := 16) only [argE_nil, argE_cons, ↓vmD, vmV, vmStd, Nat.reduceMul, ↓reduceIte, Nat.reduceAdd, Nat.reduceSub, Nat.reduceEqDiff, Nat.reduceLT, Nat.reduceLeDiff, reduceCtorEq, Int.reduceToNat, Int.reduceLT, Int.reduceLE, Int.reduceEq, Int.reduceNeg, Int.reduceBEq, Int.reduceBNe, String.reduceEq, forall_const, ↓vmDA, vmVA, ↓vmQA, vmR, vmRA, ↓vmSA, vmSV, tyS, nuE, SubA.skip, SubA.refl, fr.2, slIndexByte_v, indexByte_v, indexRune_v, containsRune_v, slHasPrefix_v, hasPrefix_v, classOf_v, isWordByte_v, wordAt_v, skip_v, number_v, literal_v, lexemeAt_v, awk08_v, lt, li, hbk, hk1, h2', we]
      exact LoopA.weak (ih (e + 1) hd' (by omega) (fun y hy => by
        rw [htk] at hy
        rcases List.mem_append.1 hy with h | h
        · exact hs y h
        · simp at h; rw [h]; omega)) (by simp only [subE, get_cons, Nat.reduceEqDiff, ↓reduceIte, reduceCtorEq, Nat.reduceAdd, and_self, and_true]) (SubA.refl _)
theorem printsLaw_w (A : AH) (hT : TabA A) (L : List (LR × Int)) (p : Option Addr) (cap : Nat) (hL : StR lzC 4 A p L) (hn : ∀ x ∈ L, -9223372036854775808 ≤ x.1.n ∧ x.1.n ≤ 9223372036854775807) (hl : L.length ≤ 9223372036854775807) (B_ : AH) (hB_ : SubA A B_) : valA Tryd.prog 3 #[.slice p L.length cap] B_ = some (.bool true) := valA_eq (pureA_at (by kernel_rfl) (printsLaw_h A hT L p cap hL hn hl) hB_)
theorem printsLaw_v (A : AH) (hT : TabA A) (L : List (LR × Int)) (p : Option Addr) (cap : Nat) (hL : StR lzC 4 A p L) (hn : ∀ x ∈ L, -9223372036854775808 ≤ x.1.n ∧ x.1.n ≤ 9223372036854775807) (hl : L.length ≤ 9223372036854775807) : valA Tryd.prog 3 #[.slice p L.length cap] A = some (.bool true) := valA_eq (pureA_at (by kernel_rfl) (printsLaw_h A hT L p cap hL hn hl) (SubA.refl _))
def withA (L : List LR) : List (LR × Int) := L.map fun x => (x, (x.a : Int))
theorem withA_fst (L : List LR) : (withA L).map Prod.fst = L := by simp [withA, Function.comp_def]
theorem lz_of {A : AH} {p : Option Addr} {L : List LR} (h : StR LR.cells 4 A p L) : StR lzC 4 A p (withA L) := h.as (by simp [withA, lzC, LR.cells, Function.comp_def])
theorem wf_sz {x : LR} (h : wfX x) : -9223372036854775808 ≤ x.n ∧ x.n ≤ 9223372036854775807 ∧ x.t.size ≤ 100000 := by
  rcases h with ⟨_, h1, h2, _⟩ | ⟨_, h1, m, h2, h3⟩ | ⟨_, h1, h2, _⟩ | ⟨_, h1, h2⟩
  · rw [size_list] at h2; omega
  · rw [h1]; exact ⟨by omega, by omega, by decide⟩
  · rw [size_list] at h2; omega
  · have : x.t.toList.length ≤ 2 := by rcases h2 with h | h | ⟨c, h, _⟩ <;> rw [h] <;> simp
    rw [size_list] at this; omega
theorem scan_sz (s : ByteArray) (h0 : (scanF s).1 = 0) (h4 : s.size ≤ 4000) : SzX (scanF s).2.2 := by
  have n4 : ¬ 4000 < s.size := by omega
  have sk := skN_end s 0 (by omega)
  simp only [Nat.zero_add, List.drop_zero] at sk
  have hh := h0
  unfold scanF at hh
  rw [if_neg n4] at hh
  obtain ⟨K, k1, k2, k3⟩ := scanG_wf s (s.size + 1) (skN false s.toList) (by omega) sk hh
  have hS : (scanF s).2.2 = K ++ [endR s] := by unfold scanF; rw [if_neg n4, k1]
  rw [hS]
  intro x hx
  rcases List.mem_append.1 hx with h | h
  · exact wf_sz (k2 x h)
  · simp at h; subst h; exact ⟨by simp [endR], by simp [endR], by show (ByteArray.mk #[]).size ≤ 100000; decide⟩
theorem scanG_len (s : ByteArray) : ∀ m i, (scanG s m i).2.2.length ≤ m := by
  intro m
  induction m with
  | zero => intro i; simp [scanG]
  | succ m ih =>
    intro i
    simp only [scanG]
    split
    · simp
    · split
      · simp
      · split
        · simp only [List.length_cons]; have := ih ((lexR s i).nx + skN false (s.toList.drop (lexR s i).nx)); omega
        · simp
theorem scanF_len (s : ByteArray) : (scanF s).2.2.length ≤ 4001 := by
  unfold scanF
  split
  · simp
  · have := scanG_len s (s.size + 1) (skN false s.toList); omega
theorem scanG_pos (s : ByteArray) : ∀ m i, s.size < i + m → (scanG s m i).1 = 0 → i ≤ s.size → 0 < (scanG s m i).2.2.length := by
  intro m
  induction m with
  | zero => intro i h1 h2 h3; omega
  | succ m ih =>
    intro i h1
    simp only [scanG]
    split
    · simp
    · split
      · rename_i h; intro h2; exact absurd h2 h
      · intro h2 _
        have h2' : (scanG s m ((lexR s i).nx + skN false (s.toList.drop (lexR s i).nx))).1 = 0 := h2
        show 0 < (if (scanG s m ((lexR s i).nx + skN false (s.toList.drop (lexR s i).nx))).1 = 0 then lexR s i :: (scanG s m ((lexR s i).nx + skN false (s.toList.drop (lexR s i).nx))).2.2 else []).length
        rw [if_pos h2']
        simp
theorem scanF_pos (s : ByteArray) (h : (scanF s).1 = 0) : 0 < (scanF s).2.2.length := by
  unfold scanF at h ⊢
  split
  · rename_i h1; rw [if_pos h1] at h; cases h
  · rename_i h1
    rw [if_neg h1] at h
    exact scanG_pos s _ _ (by omega) h (by have := skN_end s 0 (by omega); simpa using this)
theorem scanF_err (s : ByteArray) (h : (scanF s).1 ≠ 0) : (scanF s).2.2 = [] := by
  have hz : ∀ m i, (scanG s m i).1 ≠ 0 → (scanG s m i).2.2 = [] := by
    intro m
    induction m with
    | zero => intro i h; simp [scanG] at h
    | succ m ih =>
      intro i
      simp only [scanG]
      split
      · intro h; simp at h
      · split
        · intro _; rfl
        · intro h; simp only at h; simp only [h, if_false]
  unfold scanF at h ⊢
  split
  · rfl
  · rename_i h1
    rw [if_neg h1] at h
    exact hz _ _ h
theorem scan_len (s : ByteArray) : (scanF s).2.2.length ≤ 4001 ∧ ((scanF s).1 = 0 → 0 < (scanF s).2.2.length) ∧ ((scanF s).1 ≠ 0 → (scanF s).2.2 = []) := ⟨scanF_len s, scanF_pos s, scanF_err s⟩
theorem print_small (s : ByteArray) (h : s.size ≤ 1900) (h0 : (scanF s).1 = 0) : (bs (printX (scanF s).2.2)).size ≤ 4000 := by
  have n4 : ¬ 4000 < s.size := by omega
  have sk := skN_end s 0 (by omega)
  simp only [Nat.zero_add, List.drop_zero] at sk
  unfold scanF at h0
  rw [if_neg n4] at h0
  obtain ⟨K, k1, k2, k3⟩ := scanG_wf s (s.size + 1) (skN false s.toList) (by omega) sk h0
  have hS : (scanF s).2.2 = K ++ [endR s] := by unfold scanF; rw [if_neg n4, k1]
  rw [hS]
  have hP : printX (K ++ [endR s]) = Lib.join (K.map formX) [32] := by unfold printX; rw [parts_wf k2]
  rw [hP, bs_size]
  have jl := join_len K
  omega
theorem key_at {K L : List LR} (h : K.map keyX = L.map keyX) {i : Nat} {x : LR} (hx : L[i]? = some x) : ∃ y, K[i]? = some y ∧ y.k = x.k ∧ y.t = x.t ∧ y.n = x.n := by
  have : (K.map keyX)[i]? = (L.map keyX)[i]? := by rw [h]
  rw [List.getElem?_map, List.getElem?_map, hx] at this
  cases hy : K[i]? with
  | none => rw [hy] at this; simp at this
  | some y =>
    rw [hy] at this
    simp only [Option.map_some, Option.some.injEq, keyX, Prod.mk.injEq] at this
    exact ⟨y, rfl, this.1, this.2.1, this.2.2⟩
theorem tripLaw_h (A : AH) (hT : TabA A) (s : ByteArray) : CallA Tryd.prog 4 #[.string s] A (fun u_ A_ => u_ = .bool true ∧ SubA A A_) := by
  refine callA_of_denA ⟨Tryd.prog, 4, Tryd.f4, 100, [0, 2, 3, 4, 6, 7, 9], [8], [(12, .q false)], _⟩ (args := [_]) Tryd.func4 rfl (by kernel_rfl) Tryd.ntmps4 (by simp) (by kernel_rfl) ?_
  intro ν fr; have nuE := fr.nu
  by_cases h1 : 1900 < s.size
  · have h1' : ((1900 : Int) < (s.size : Int)) = True := eq_true (by omega)
    simp (maxDischargeDepth := 16) only [argE_nil, argE_cons, ↓vmD, vmV, vmStd, Nat.reduceMul, ↓reduceIte, Nat.reduceAdd, Nat.reduceSub, Nat.reduceEqDiff, Nat.reduceLT, Nat.reduceLeDiff, reduceCtorEq, Int.reduceToNat, Int.reduceLT, Int.reduceLE, Int.reduceEq, Int.reduceNeg, Int.reduceBEq, Int.reduceBNe, String.reduceEq, forall_const, ↓vmDA, vmVA, ↓vmQA, vmR, vmRA, ↓vmSA, vmSV, tyS, nuE, SubA.skip, SubA.refl, fr.2, slIndexByte_v, indexByte_v, indexRune_v, containsRune_v, slHasPrefix_v, hasPrefix_v, classOf_v, isWordByte_v, wordAt_v, skip_v, number_v, literal_v, lexemeAt_v, awk08_v, h1']
  have h1' : ((1900 : Int) < (s.size : Int)) = False := eq_false (by omega)
  simp (maxDischargeDepth := 16) only [argE_nil, argE_cons, ↓vmD, vmV, vmStd, Nat.reduceMul, ↓reduceIte, Nat.reduceAdd, Nat.reduceSub, Nat.reduceEqDiff, Nat.reduceLT, Nat.reduceLeDiff, reduceCtorEq, Int.reduceToNat, Int.reduceLT, Int.reduceLE, Int.reduceEq, Int.reduceNeg, Int.reduceBEq, Int.reduceBNe, String.reduceEq, forall_const, ↓vmDA, vmVA, ↓vmQA, vmR, vmRA, ↓vmSA, vmSV, tyS, nuE, SubA.skip, SubA.refl, fr.2, slIndexByte_v, indexByte_v, indexRune_v, containsRune_v, slHasPrefix_v, hasPrefix_v, classOf_v, isWordByte_v, wordAt_v, skip_v, number_v, literal_v, lexemeAt_v, awk08_v, h1']
  refine CallA.newX (scan_a A s (by omega)) (SubA.refl A) ?_
  rintro v B ⟨w, rfl, ho⟩ hd
  obtain ⟨l1, l2, l3⟩ := scan_len s
  obtain ⟨q, vc, rfl, hvc, hq⟩ := ho.read LR.cells_len
  refine ⟨B ++ A, SubA.refl _, ?_⟩
  intro ν fr; have nuE := fr.nu
  by_cases h0 : (scanF s).1 = 0
  rotate_left
  · rw [l3 h0]
    simp (maxDischargeDepth := 16) only [argE_nil, argE_cons, ↓vmD, vmV, vmStd, Nat.reduceMul, ↓reduceIte, Nat.reduceAdd, Nat.reduceSub, Nat.reduceEqDiff, Nat.reduceLT, Nat.reduceLeDiff, reduceCtorEq, Int.reduceToNat, Int.reduceLT, Int.reduceLE, Int.reduceEq, Int.reduceNeg, Int.reduceBEq, Int.reduceBNe, String.reduceEq, forall_const, ↓vmDA, vmVA, ↓vmQA, vmR, vmRA, ↓vmSA, vmSV, tyS, nuE, SubA.skip, SubA.refl, fr.2, slIndexByte_v, indexByte_v, indexRune_v, containsRune_v, slHasPrefix_v, hasPrefix_v, classOf_v, isWordByte_v, wordAt_v, skip_v, number_v, literal_v, lexemeAt_v, awk08_v, h0]
    exact hd.right
  have pv := panPrint_w (B ++ A) (hT.mono hd.right) (withA (scanF s).2.2) q vc (lz_of (hq.mono (SubA.left B A))) (by simp [withA]; omega) (by rw [withA_fst]; exact scan_sz s h0 (by omega)) (B ++ A) (SubA.refl _)
  rw [withA_fst, show (withA (scanF s).2.2).length = (scanF s).2.2.length by simp [withA]] at pv
  simp (maxDischargeDepth := 16) only [argE_nil, argE_cons, ↓vmD, vmV, vmStd, Nat.reduceMul, ↓reduceIte, Nat.reduceAdd, Nat.reduceSub, Nat.reduceEqDiff, Nat.reduceLT, Nat.reduceLeDiff, reduceCtorEq, Int.reduceToNat, Int.reduceLT, Int.reduceLE, Int.reduceEq, Int.reduceNeg, Int.reduceBEq, Int.reduceBNe, String.reduceEq, forall_const, ↓vmDA, vmVA, ↓vmQA, vmR, vmRA, ↓vmSA, vmSV, tyS, nuE, SubA.skip, SubA.refl, fr.2, slIndexByte_v, indexByte_v, indexRune_v, containsRune_v, slHasPrefix_v, hasPrefix_v, classOf_v, isWordByte_v, wordAt_v, skip_v, number_v, literal_v, lexemeAt_v, awk08_v, h0, pv]
  obtain ⟨r1, r2⟩ := round_trip s (by omega) h0
  have ps := print_small s (by omega) h0
  have sz2 := scan_sz _ r1 ps
  refine CallA.newX (scan_a (B ++ A) (bs (printX (scanF s).2.2)) (by omega)) (SubA.refl _) ?_
  rintro v2 B2 ⟨w2, rfl, ho2⟩ hd2
  obtain ⟨m1, m2, m3⟩ := scan_len (bs (printX (scanF s).2.2))
  obtain ⟨q2, vc2, rfl, hvc2, hq2⟩ := ho2.read LR.cells_len
  refine ⟨B2 ++ (B ++ A), SubA.refl _, ?_⟩
  intro ν fr; have nuE := fr.nu
  have hlen : (scanF (bs (printX (scanF s).2.2))).2.2.length = (scanF s).2.2.length := by have := congrArg List.length r2; simpa using this
  have hpos := l2 h0
  have hpos' : ((0 : Int) = ((scanF s).2.2.length : Int)) = False := eq_false (by omega)
  have hpos2 : (((scanF s).2.2.length : Int) = 0) = False := eq_false (by omega)
  have pe : printX (scanF (bs (printX (scanF s).2.2))).2.2 = printX (scanF s).2.2 := congrArg (fun P => Lib.join P [32]) (parts_key r2)
  have pk := panPrint_w (B2 ++ (B ++ A)) ((hT.mono hd.right).mono hd2.right) (withA (scanF (bs (printX (scanF s).2.2))).2.2) q2 vc2 (lz_of (hq2.mono (SubA.left B2 (B ++ A)))) (by simp [withA]; omega) (by rw [withA_fst]; exact sz2) (B2 ++ (B ++ A)) (SubA.refl _)
  rw [withA_fst, show (withA (scanF (bs (printX (scanF s).2.2))).2.2).length = (scanF s).2.2.length by simp [withA, hlen], pe] at pk
  have pl := pv
  have hb := (hq.mono (SubA.left B A)).mono hd2.right
  have hk := hq2.mono (SubA.left B2 (B ++ A))
  simp (maxDischargeDepth := 16) only [argE_nil, argE_cons, ↓vmD, vmV, vmStd, Nat.reduceMul, ↓reduceIte, Nat.reduceAdd, Nat.reduceSub, Nat.reduceEqDiff, Nat.reduceLT, Nat.reduceLeDiff, reduceCtorEq, Int.reduceToNat, Int.reduceLT, Int.reduceLE, Int.reduceEq, Int.reduceNeg, Int.reduceBEq, Int.reduceBNe, String.reduceEq, forall_const, ↓vmDA, vmVA, ↓vmQA, vmR, vmRA, ↓vmSA, vmSV, tyS, nuE, SubA.skip, SubA.refl, fr.2, slIndexByte_v, indexByte_v, indexRune_v, containsRune_v, slHasPrefix_v, hasPrefix_v, classOf_v, isWordByte_v, wordAt_v, skip_v, number_v, literal_v, lexemeAt_v, awk08_v, r1, hlen, hpos', hpos2]
  have pl : valA Tryd.prog 6 #[Value.slice q (scanF s).2.2.length vc] (B2 ++ (B ++ A)) = some (.string (bs (printX (scanF s).2.2))) := by
    have x := panPrint_w (B2 ++ (B ++ A)) ((hT.mono hd.right).mono hd2.right) (withA (scanF s).2.2) q vc (lz_of hb) (by simp [withA]; omega) (by rw [withA_fst]; exact scan_sz s h0 (by omega)) (B2 ++ (B ++ A)) (SubA.refl _)
    rwa [withA_fst, show (withA (scanF s).2.2).length = (scanF s).2.2.length by simp [withA]] at x
  have hDD := hd.right.trans hd2.right
  generalize hL : (scanF s).2.2 = L at *
  generalize hK : (scanF (bs (printX L))).2.2 = K at *
  clear nuE fr
  obtain ⟨e, l, he, hd, hle⟩ : ∃ (e : Nat) (l : List LR), e = 0 ∧ l = L.drop e ∧ e ≤ L.length := ⟨0, L, rfl, rfl, by omega⟩
  rw [show (9, some (Value.int .i64 0)) = (9, some (Value.int .i64 (e : Int))) by rw [he]; rfl]
  clear he
  induction l generalizing e with
  | nil =>
    obtain ⟨hn1, hn2⟩ := drop_nil hd hle
    have lt : ((e : Int) < (L.length : Int)) = False := eq_false (by omega)
    refine LoopA.intro (by kernel_rfl) ?_
    intro ν fr; have nuE := fr.nu
    simp (maxDischargeDepth := 16) only [argE_nil, argE_cons, ↓vmD, vmV, vmStd, Nat.reduceMul, ↓reduceIte, Nat.reduceAdd, Nat.reduceSub, Nat.reduceEqDiff, Nat.reduceLT, Nat.reduceLeDiff, reduceCtorEq, Int.reduceToNat, Int.reduceLT, Int.reduceLE, Int.reduceEq, Int.reduceNeg, Int.reduceBEq, Int.reduceBNe, String.reduceEq, forall_const, ↓vmDA, vmVA, ↓vmQA, vmR, vmRA, ↓vmSA, vmSV, tyS, nuE, SubA.skip, SubA.refl, fr.2, slIndexByte_v, indexByte_v, indexRune_v, containsRune_v, slHasPrefix_v, hasPrefix_v, classOf_v, isWordByte_v, wordAt_v, skip_v, number_v, literal_v, lexemeAt_v, awk08_v, lt, pk, pl]
    exact hDD
  | cons x l ih =>
    obtain ⟨ha, hlt, hd', htk⟩ := drop_some hd
    have lt : ((e : Int) < (L.length : Int)) = True := eq_true (by omega)
    have we : IntKind.i64.wrap ((e : Int) + 1) = ((e + 1 : Nat) : Int) := by rw [w_i64 (by omega) (by omega)]; omega
    obtain ⟨y, hy, ky, ty, ny⟩ := key_at r2 ha
    obtain ⟨bk, off, cs, tyy, fr0, hp0, hbk, hcr, hcc⟩ := hb.at ha
    subst hp0
    obtain ⟨bk2, off2, cs2, tyy2, fr02, hp02, hbk2, hcr2, hcc2⟩ := hk.at hy
    subst hp02
    have c0 : cs[off + e * 4]? = some (.int .i64 x.k) := hcc 0 _ rfl
    have c1 : cs[off + e * 4 + 1]? = some (.string x.t) := hcc 1 _ rfl
    have c2 : cs[off + e * 4 + 2]? = some (.int .i64 x.n) := hcc 2 _ rfl
    have d0 : cs2[off2 + e * 4]? = some (.int .i64 x.k) := by rw [← ky]; exact hcc2 0 _ rfl
    have d1 : cs2[off2 + e * 4 + 1]? = some (.string x.t) := by rw [← ty]; exact hcc2 1 _ rfl
    have d2 : cs2[off2 + e * 4 + 2]? = some (.int .i64 x.n) := by rw [← ny]; exact hcc2 2 _ rfl
    have li : ((e : Int) < 0) = False := eq_false (by omega)
    refine LoopA.intro (by kernel_rfl) ?_
    intro ν fr; have nuE := fr.nu
    simp (maxDischargeDepth := 16) only [argE_nil, argE_cons, ↓vmD, vmV, vmStd, Nat.reduceMul, ↓reduceIte, Nat.reduceAdd, Nat.reduceSub, Nat.reduceEqDiff, Nat.reduceLT, Nat.reduceLeDiff, reduceCtorEq, Int.reduceToNat, Int.reduceLT, Int.reduceLE, Int.reduceEq, Int.reduceNeg, Int.reduceBEq, Int.reduceBNe, String.reduceEq, forall_const, ↓vmDA, vmVA, ↓vmQA, vmR, vmRA, ↓vmSA, vmSV, tyS, nuE, SubA.skip, SubA.refl, fr.2, slIndexByte_v, indexByte_v, indexRune_v, containsRune_v, slHasPrefix_v, hasPrefix_v, classOf_v, isWordByte_v, wordAt_v, skip_v, number_v, literal_v, lexemeAt_v, awk08_v, lt, li, hbk, hbk2, c0, c1, c2, d0, d1, d2, we]
    exact LoopA.weak (ih (e + 1) hd' (by omega)) (by simp only [subE, get_cons, Nat.reduceEqDiff, ↓reduceIte, reduceCtorEq, Nat.reduceAdd, and_self, and_true]) (SubA.refl _)
theorem tripLaw_w (A : AH) (hT : TabA A) (s : ByteArray) (B_ : AH) (hB_ : SubA A B_) : valA Tryd.prog 4 #[.string s] B_ = some (.bool true) := valA_eq (pureA_at (by kernel_rfl) (tripLaw_h A hT s) hB_)
theorem tripLaw_v (A : AH) (hT : TabA A) (s : ByteArray) : valA Tryd.prog 4 #[.string s] A = some (.bool true) := valA_eq (pureA_at (by kernel_rfl) (tripLaw_h A hT s) (SubA.refl _))
end Go.Proofs.YtilifbndbdanoaaDoor
