/-
Arguments that hold expressions and rules; their size.
Conditions: none.
-/
import Derived.Test.YtgglccpckhpocaaGreatDoorVmRc
import Derived.Test.YtgglccpckhpocaaGreatDoorQj
import Derived.Test.YtgglccpckhpocaaGreatDoorQn
set_option linter.unusedSimpArgs false
set_option linter.unusedVariables false
namespace Go.Proofs.YtgglccpckhpocaaGreatDoor
open Go.Vm
set_option maxHeartbeats 2000000
set_option maxRecDepth 20000
theorem vbQq : type_of% (An @slIndexByte_v (An @indexByte_v (An @indexRune_v (An @containsRune_v (An @slHasPrefix_v (An @hasPrefix_v (An @classOf_v (An @isWordByte_v (An @letter_v (An @digit_v (An @wordAt_v (An @rword_v (An @skip_v (An @rskip_v (An @number_v (An @rnumber_v (An @literal_v (An @rtext_v (An @lexemeAt_v (An @rlexeme_v (An @isName_v (An @risName_v (An @resV_v (An @soft_usd (An @soft_ust (An @cnvN_pu (An @cnvN_up (An @eqS_pp (An @isNameV_v (An @isLitV_v (An @hasF_v (An @lvV_v (An @syV_v (An @wordV_v @nameV_v)))))))))))))))))))))))))))))))))) := ⟨@slIndexByte_v, @indexByte_v, @indexRune_v, @containsRune_v, @slHasPrefix_v, @hasPrefix_v, @classOf_v, @isWordByte_v, @letter_v, @digit_v, @wordAt_v, @rword_v, @skip_v, @rskip_v, @number_v, @rnumber_v, @literal_v, @rtext_v, @lexemeAt_v, @rlexeme_v, @isName_v, @risName_v, @resV_v, @soft_usd, @soft_ust, @cnvN_pu, @cnvN_up, @eqS_pp, @isNameV_v, @isLitV_v, @hasF_v, @lvV_v, @syV_v, @wordV_v, @nameV_v⟩
inductive NbX : Xs → Prop
  | mk {op n : Int} {nm tx : ByteArray} {args : List Xs} : -9223372036854775808 ≤ n → n ≤ 9223372036854775807 → (∀ x ∈ args, NbX x) → NbX (.mk op nm tx n args)
def NbU (u : Ru) : Prop := NbX u.w ∧ -9223372036854775808 ≤ u.sc ∧ u.sc ≤ 9223372036854775807
theorem wf64 {n : Int} (h : (Lit.int .i64 n).wf = true) : -9223372036854775808 ≤ n ∧ n ≤ 9223372036854775807 := by
  simp only [Lit.wf, Bool.and_eq_true, decide_eq_true_eq] at h
  exact h
theorem five_of {α : Type} {l : List α} (h : l.length = 5) : ∃ a b c d e, l = [a, b, c, d, e] := by
  match l, h with
  | [a, b, c, d, e], _ => exact ⟨a, b, c, d, e, rfl⟩
theorem four_of {α : Type} {l : List α} (h : l.length = 4) : ∃ a b c d, l = [a, b, c, d] := by
  match l, h with
  | [a, b, c, d], _ => exact ⟨a, b, c, d, rfl⟩
theorem eight_of {α : Type} {l : List α} (h : l.length = 8) : ∃ a b c d e f g i, l = [a, b, c, d, e, f, g, i] := by
  match l, h with
  | [a, b, c, d, e, f, g, i], _ => exact ⟨a, b, c, d, e, f, g, i, rfl⟩
theorem ce_int : Tryz.prog.cellsOf 3 = 1 := by kernel_rfl
theorem ce_i64 : Tryz.prog.cellsOf 2 = 1 := by kernel_rfl
theorem ce_str : Tryz.prog.cellsOf 9 = 1 := by kernel_rfl
theorem ce_sl : Tryz.prog.cellsOf 29 = 1 := by kernel_rfl
theorem ce_ex : Tryz.prog.cellsOf 31 = 5 := by kernel_rfl
theorem ce_ru : Tryz.prog.cellsOf 43 = 8 := by kernel_rfl
theorem by_ex : Tryz.prog.bytesOf 31 = 72 := by kernel_rfl
theorem by_ru : Tryz.prog.bytesOf 43 = 104 := by kernel_rfl
section
variable {H : Type} {enc : TypeId × Value → H} {w : World} {base : Nat} {sp : Nat → Bool} {held : Bool}
theorem exr_of : ∀ (fuel : Nat) (cs : List Value) (x : DataW H × List MemPlace), DataW.trod enc Tryz.prog w base sp held fuel 31 cs = some x → (∀ q ∈ x.1.weights Tryz.prog 31, q ≤ 140737488351232) → ∃ t r, cs = xrC r ∧ ExR (allH w.heap) t r ∧ SzX t ∧ NbX t := by
  intro fuel
  induction fuel using Nat.strongRecOn with
  | ind fuel ih =>
    intro cs x h hw
    obtain ⟨xs, m, rfl, hx, h1, h2, h3⟩ := DataW.trod_struct Tryz.underlying31 h
    subst hx
    simp only [DataW.weights, Tryz.underlying31] at hw
    have hwe := fun i t d (h1 : _ = some t) (h2 : _ = some d) n hn => hw n (wt_each _ _ i t d h1 h2 n hn)
    rw [ce_ex] at h1
    obtain ⟨c0, c1, c2, c3, c4, rfl⟩ := five_of h1
    obtain ⟨y0, y1, y2, y3, y4, rfl⟩ := five_of (l := xs) h2
    have g0 : DataW.trod enc Tryz.prog w base sp held m 3 (([c0, c1, c2, c3, c4].drop 0).take (Tryz.prog.cellsOf 3)) = some y0 := h3 0 _ rfl
    have g1 : DataW.trod enc Tryz.prog w base sp held m 9 (([c0, c1, c2, c3, c4].drop 1).take (Tryz.prog.cellsOf 9)) = some y1 := h3 1 _ rfl
    have g2 : DataW.trod enc Tryz.prog w base sp held m 9 (([c0, c1, c2, c3, c4].drop 2).take (Tryz.prog.cellsOf 9)) = some y2 := h3 2 _ rfl
    have g3 : DataW.trod enc Tryz.prog w base sp held m 2 (([c0, c1, c2, c3, c4].drop 3).take (Tryz.prog.cellsOf 2)) = some y3 := h3 3 _ rfl
    have g4 : DataW.trod enc Tryz.prog w base sp held m 29 (([c0, c1, c2, c3, c4].drop 4).take (Tryz.prog.cellsOf 29)) = some y4 := h3 4 _ rfl
    have w1 := hwe 1 9 y1.1 rfl rfl
    have w2 := hwe 2 9 y2.1 rfl rfl
    have w4 := hwe 4 29 y4.1 rfl rfl
    simp only [ce_int, ce_i64, ce_str, ce_sl, List.drop_zero, List.drop_succ_cons, List.take_succ_cons, List.take_zero] at g0 g1 g2 g3 g4
    obtain ⟨op, e0, _, _⟩ := DataW.trod_int Tryz.underlying3 g0
    obtain ⟨nm, e1, x1, _⟩ := DataW.trod_string Tryz.underlying9 g1
    obtain ⟨tx, e2, x2, _⟩ := DataW.trod_string Tryz.underlying9 g2
    obtain ⟨n, e3, _, wn⟩ := DataW.trod_int Tryz.underlying2 g3
    obtain ⟨b1, b2⟩ := wf64 wn
    simp only [List.cons.injEq, and_true] at e0 e1 e2 e3
    subst e0 e1 e2 e3 x1 x2
    have z1 : nm.size ≤ 140737488351232 := w1 nm.size (by rw [DataW.weights, List.mem_singleton, Array.length_toList]; rfl)
    have z2 : tx.size ≤ 140737488351232 := w2 tx.size (by rw [DataW.weights, List.mem_singleton, Array.length_toList]; rfl)
    rcases DataW.trod_slice Tryz.underlying29 g4 with ⟨e4, _⟩ | ⟨a, len, cap, elems, rest, k, rfl, e4, x4, _, q1, q2, q3, q4, _⟩
    · simp only [List.cons.injEq, and_true] at e4
      subst e4
      exact ⟨.mk op nm tx n [], ⟨op, nm, tx, n, none, 0, 0⟩, rfl, ExR.leaf _ _ _ _ _ _ _, .mk (by omega) (by omega) (fun x hx => by cases hx), .mk b1 b2 (fun x hx => by cases hx)⟩
    · simp only [List.cons.injEq, and_true] at e4
      subst e4 x4
      simp only [DataW.weights, Tryz.underlying29, by_ex] at w4
      have hlen0 := w4 _ (List.mem_cons_self ..)
      simp only [List.length_map] at hlen0
      obtain ⟨L, l1, l2⟩ := list_of (fun i (p : Xs × Xr) => (∀ j, j < 5 → cellH w.heap ((a.add (i * 5)).add j) = (xrC p.2)[j]?) ∧ ExR (allH w.heap) p.1 p.2 ∧ SzX p.1 ∧ NbX p.1) len (fun i hi => by
        have h5 := q4 i hi
        rw [ce_ex, List.getElem?_eq_getElem (by omega), Option.bind_eq_some_iff] at h5
        obtain ⟨es, h6, h7⟩ := h5
        obtain ⟨_, h8, h9⟩ := World.cells?_some h6
        obtain ⟨t, r, rfl, hr, hz⟩ := ih k (by omega) es _ h7 fun q hq => w4 q (List.mem_cons_of_mem _ (List.mem_append_left _ (wt_all _ i _ _ (by simp [List.getElem?_eq_getElem (show i < elems.length by omega)]) q hq)))
        exact ⟨(t, r), fun j hj => by rw [← h9 j hj]; rfl, hr, hz⟩)
      subst l1
      have hlen : (L.map Prod.fst).length = L.length := by simp
      refine ⟨.mk op nm tx n (L.map Prod.fst), ⟨op, nm, tx, n, some a, L.length, cap⟩, rfl, ?_, .mk (by omega) (by omega) fun x hx => ?_, .mk b1 b2 fun x hx => ?_⟩
      · have := ExR.mk (A := allH w.heap) (op := op) (n := n) (nm := nm) (tx := tx) (args := L.map Prod.fst) (p := some a) (cap := cap) (rs := L.map Prod.snd) (by rw [hlen]; omega) (by rw [hlen]; exact q1) (by simp) ?_ ?_
        · rw [hlen] at this; exact this
        · refine str_all xrC (by decide) xrC_len fun i x hx => ?_
          rw [List.getElem?_map, Option.map_eq_some_iff] at hx
          obtain ⟨p, hp, rfl⟩ := hx
          exact (l2 i p hp).1
        · intro k' x r hx hr
          rw [List.getElem?_map, Option.map_eq_some_iff] at hx hr
          obtain ⟨p, hp, rfl⟩ := hx
          obtain ⟨p', hp', rfl⟩ := hr
          rw [hp] at hp'; cases hp'
          exact (l2 k' p hp).2.1
      · obtain ⟨p, hp, rfl⟩ := List.mem_map.1 hx
        obtain ⟨i, hi⟩ := List.getElem?_of_mem hp
        exact (l2 i p hi).2.2.1
      · obtain ⟨p, hp, rfl⟩ := List.mem_map.1 hx
        obtain ⟨i, hi⟩ := List.getElem?_of_mem hp
        exact (l2 i p hi).2.2.2
theorem rur_of {fuel : Nat} {cs : List Value} {x : DataW H × List MemPlace} (h : DataW.trod enc Tryz.prog w base sp held fuel 43 cs = some x) (hw : ∀ q ∈ x.1.weights Tryz.prog 43, q ≤ 140737488351232) : ∃ u r, cs = ruC r ∧ RuR (allH w.heap) u r ∧ SzX u.w ∧ NbU u := by
  obtain ⟨xs, m, rfl, hx, h1, h2, h3⟩ := DataW.trod_struct Tryz.underlying43 h
  subst hx
  simp only [DataW.weights, Tryz.underlying43] at hw
  have hwe := fun i t d (h1 : _ = some t) (h2 : _ = some d) n hn => hw n (wt_each _ _ i t d h1 h2 n hn)
  rw [ce_ru] at h1
  obtain ⟨c0, c1, c2, c3, c4, c5, c6, c7, rfl⟩ := eight_of h1
  obtain ⟨y0, y1, y2, y3, rfl⟩ := four_of (l := xs) h2
  have g0 : DataW.trod enc Tryz.prog w base sp held m 9 (([c0, c1, c2, c3, c4, c5, c6, c7].drop 0).take (Tryz.prog.cellsOf 9)) = some y0 := h3 0 _ rfl
  have g1 : DataW.trod enc Tryz.prog w base sp held m 31 (([c0, c1, c2, c3, c4, c5, c6, c7].drop 1).take (Tryz.prog.cellsOf 31)) = some y1 := h3 1 _ rfl
  have g2 : DataW.trod enc Tryz.prog w base sp held m 3 (([c0, c1, c2, c3, c4, c5, c6, c7].drop 6).take (Tryz.prog.cellsOf 3)) = some y2 := h3 2 _ rfl
  have g3 : DataW.trod enc Tryz.prog w base sp held m 3 (([c0, c1, c2, c3, c4, c5, c6, c7].drop 7).take (Tryz.prog.cellsOf 3)) = some y3 := h3 3 _ rfl
  have w1 := hwe 1 31 y1.1 rfl rfl
  simp only [ce_int, ce_ex, ce_str, List.drop_zero, List.drop_succ_cons, List.take_succ_cons, List.take_zero] at g0 g1 g2 g3
  obtain ⟨nm, e0, _, z1⟩ := DataW.trod_string Tryz.underlying9 g0
  obtain ⟨t, r, e1, hr, hz, hb⟩ := exr_of _ _ _ g1 w1
  obtain ⟨act, e2, _, _⟩ := DataW.trod_int Tryz.underlying3 g2
  obtain ⟨sc, e3, _, ws⟩ := DataW.trod_int Tryz.underlying3 g3
  simp only [xrC, List.cons.injEq, and_true] at e0 e1 e2 e3
  obtain ⟨rfl, rfl, rfl, rfl, rfl⟩ := e1
  subst e0 e2 e3
  exact ⟨⟨nm, t, act, sc⟩, ⟨nm, r, act, sc⟩, rfl, ⟨rfl, hr, rfl, rfl⟩, hz, hb, wf64 ws⟩
def RuA (h : Heap) (a : Option Addr) (len cap : Nat) : Prop := ∃ us : List Ru, us.length = len ∧ len ≤ 140737488355328 ∧ len ≤ cap ∧ RuL (allH h) us a ∧ ∀ u ∈ us, SzX u.w ∧ NbU u
def ExA (h : Heap) (a : Array Value) : Prop := ∃ t r, a = (xrC r).toArray ∧ ExR (allH h) t r ∧ SzX t ∧ NbX t
theorem ruA_trod {a : Option Addr} {len cap : Nat} {d : DataW H} {ps : List MemPlace} {ts : List TypeId} {ds : List (DataW H)} {i : Nat} (h : DataW.Trod enc Tryz.prog w base sp held 23 (.slice a len cap) d ps)
    (hZ : (DataW.weightsEach Tryz.prog ts ds).all (· ≤ 140737488351232) = true) (ht : ts[i]? = some 23) (hd : ds[i]? = some d) : RuA w.heap a len cap := by
  obtain ⟨fuel, hf⟩ := h
  have hw : ∀ q ∈ d.weights Tryz.prog 23, q ≤ 140737488351232 := fun n hn => by
    have := List.all_eq_true.1 hZ n (wt_each ts ds i _ d ht hd n hn)
    simpa using this
  have hc : (Value.slice a len cap).cells.toList = [.slice a len cap] := rfl
  rw [hc] at hf
  rcases DataW.trod_slice Tryz.underlying23 hf with ⟨e4, _⟩ | ⟨a', len', cap', elems, rest, k, rfl, e4, x4, _, q1, q2, q3, q4, _⟩
  · simp only [List.cons.injEq, and_true, Value.slice.injEq] at e4
    obtain ⟨rfl, rfl, rfl⟩ := e4
    exact ⟨[], rfl, by decide, Nat.le_refl _, ⟨[], rfl, .inl rfl, fun k u r h => by simp at h⟩, fun u hu => by cases hu⟩
  · simp only [List.cons.injEq, and_true, Value.slice.injEq] at e4
    obtain ⟨rfl, rfl, rfl⟩ := e4
    simp only [Prod.mk.injEq] at x4
    rw [x4.1] at hw
    simp only [DataW.weights, Tryz.underlying23, by_ru] at hw
    have hlen0 := hw _ (List.mem_cons_self ..)
    simp only [List.length_map] at hlen0
    obtain ⟨L, l1, l2⟩ := list_of (fun i (p : Ru × Rur) => (∀ j, j < 8 → cellH w.heap ((a'.add (i * 8)).add j) = (ruC p.2)[j]?) ∧ RuR (allH w.heap) p.1 p.2 ∧ SzX p.1.w ∧ NbU p.1) len (fun i hi => by
      have h5 := q4 i hi
      rw [ce_ru, List.getElem?_eq_getElem (by omega), Option.bind_eq_some_iff] at h5
      obtain ⟨es, h6, h7⟩ := h5
      obtain ⟨_, h8, h9⟩ := World.cells?_some h6
      obtain ⟨t, r, rfl, hr, hz⟩ := rur_of h7 fun q hq => hw q (List.mem_cons_of_mem _ (List.mem_append_left _ (wt_all _ i _ _ (by simp [List.getElem?_eq_getElem (show i < elems.length by omega)]) q hq)))
      exact ⟨(t, r), fun j hj => by rw [← h9 j hj]; rfl, hr, hz⟩)
    subst l1
    refine ⟨L.map Prod.fst, by simp, by omega, q1, ⟨L.map Prod.snd, by simp, ?_, ?_⟩, fun u hu => ?_⟩
    · refine str_all ruC (by decide) ruC_len fun i x hx => ?_
      rw [List.getElem?_map, Option.map_eq_some_iff] at hx
      obtain ⟨p, hp, rfl⟩ := hx
      exact (l2 i p hp).1
    · intro k' x r hx hr
      rw [List.getElem?_map, Option.map_eq_some_iff] at hx hr
      obtain ⟨p, hp, rfl⟩ := hx
      obtain ⟨p', hp', rfl⟩ := hr
      rw [hp] at hp'; cases hp'
      exact (l2 k' p hp).2.1
    · obtain ⟨p, hp, rfl⟩ := List.mem_map.1 hu
      obtain ⟨i, hi⟩ := List.getElem?_of_mem hp
      exact (l2 i p hi).2.2
theorem exA_trod {a : Array Value} {d : DataW H} {ps : List MemPlace} {ts : List TypeId} {ds : List (DataW H)} {i : Nat} (h : DataW.Trod enc Tryz.prog w base sp held 31 (.agg a) d ps)
    (hZ : (DataW.weightsEach Tryz.prog ts ds).all (· ≤ 140737488351232) = true) (ht : ts[i]? = some 31) (hd : ds[i]? = some d) : ExA w.heap a := by
  obtain ⟨fuel, hf⟩ := h
  have hw : ∀ q ∈ d.weights Tryz.prog 31, q ≤ 140737488351232 := fun n hn => by
    have := List.all_eq_true.1 hZ n (wt_each ts ds i _ d ht hd n hn)
    simpa using this
  have hc : (Value.agg a).cells.toList = a.toList := rfl
  rw [hc] at hf
  obtain ⟨t, r, e, hr, hz⟩ := exr_of _ _ _ hf hw
  exact ⟨t, r, by rw [← e], hr, hz⟩
end
end Go.Proofs.YtgglccpckhpocaaGreatDoor
namespace Go.Proofs.YtgglccpckhpocaaGreatDoor
open Go.Vm
set_option maxHeartbeats 4000000
set_option maxRecDepth 20000
mutual
def szX : Xs → Int → Int
  | .mk op nm tx n args, m => if 200 < nm.size ∨ 200 < tx.size then m + 1 else szL args m 1
def szL : List Xs → Int → Int → Int
  | [], m, k => k
  | x :: l, m, k => if k ≤ m then szL l m (k + szX x (m - k)) else k
end
theorem sz_rng (x : Xs) : ∀ m : Int, 0 ≤ m → 1 ≤ szX x m ∧ szX x m ≤ m + 1 := by
  induction x using Xs.ind with
  | h op nm tx n args ih =>
    intro m hm
    rw [szX]
    split
    · omega
    have : ∀ (l : List Xs) (k : Int), (∀ a ∈ l, ∀ m : Int, 0 ≤ m → 1 ≤ szX a m ∧ szX a m ≤ m + 1) → 1 ≤ k → k ≤ m + 1 → 1 ≤ szL l m k ∧ szL l m k ≤ m + 1 := by
      intro l
      induction l with
      | nil => intro k _ h1 h2; rw [szL]; exact ⟨h1, h2⟩
      | cons a l ihl =>
        intro k hall h1 h2
        rw [szL]
        split
        · obtain ⟨a1, a2⟩ := hall a (by simp) (m - k) (by omega)
          exact ihl _ (fun b hb => hall b (by simp [hb])) (by omega) (by omega)
        · exact ⟨h1, h2⟩
    exact this args 1 ih (by omega) (by omega)
theorem szL_ge (m : Int) : ∀ (l : List Xs) (k : Int), k ≤ szL l m k
  | [], k => by rw [szL]; omega
  | x :: l, k => by
    rw [szL]
    split
    · have := szL_ge m l (k + szX x (m - k))
      have := (sz_rng x (m - k) (by omega)).1
      omega
    · omega
theorem arT_len (l : List Xs) (i : Nat) (k : Int) : (arT (tL l) i k).length ≤ sumT (l.drop i |>.take 1) + 2 := by
  unfold arT
  rw [tL_map, List.getD_eq_getElem?_getD, List.getElem?_map]
  cases h : l[i]? with
  | none => 
    have : (paT k (0, [])).length ≤ 2 := pa_len k (0, [])
    simp only [Option.map_none, Option.getD_none]
    omega
  | some x =>
    have h1 := pa_len k (opO x, tX x)
    have hi := (List.getElem?_eq_some_iff.1 h).1
    have e : (l.drop i).take 1 = [x] := by
      rw [List.drop_eq_getElem_cons hi]
      have := (List.getElem?_eq_some_iff.1 h).2
      simp [this]
    rw [e]
    simp only [Option.map_some, Option.getD_some, sumT]
    simp only at h1
    omega
theorem inA_len (l : List Xs) : (inA (tL l)).length ≤ sumT l := by
  cases l with
  | nil => simp [tL, inA]
  | cons b l =>
    have h2 := pa_len 4 (opO b, tX b)
    have h3 := inR_len l
    rw [tL, inA, List.length_append, sumT]
    simp only at h2
    omega
theorem sumT_two (l : List Xs) : sumT ((l.drop 0).take 1) + sumT ((l.drop 1).take 1) ≤ sumT l := by
  match l with
  | [] => simp [sumT]
  | [a] => simp [sumT]
  | a :: b :: l => simp [sumT]
theorem tx_any {op n : Int} {nm tx : ByteArray} {args : List Xs} (h1 : nm.size ≤ 200) (h2 : tx.size ≤ 200) (h3 : -9223372036854775808 ≤ n) (h4 : n ≤ 9223372036854775807) : (tX (.mk op nm tx n args)).length ≤ sumT args + 260 := by
  have e1 := itoa_len h3 h4
  have e2 : nm.data.toList.length ≤ 200 := by rw [← ByteArray.toList_eq, size_list]; exact h1
  have e3 : tx.data.toList.length ≤ 200 := by rw [← ByteArray.toList_eq, size_list]; exact h2
  have e4 := arT_len args 0 6
  have e5 := arT_len args 0 4
  have e6 := arT_len args 0 (leO op)
  have e7 := arT_len args 1 (lvO op + 1)
  have e8 := sumT_two args
  have e9 := sy_len op
  have e10 : (inA ((tL args).drop 1)).length ≤ sumT (args.drop 1) := by
    have : (tL args).drop 1 = tL (args.drop 1) := by rw [tL_map, tL_map, List.map_drop]
    rw [this]; exact inA_len _
  have e11 := sumT_app (args.take 1) (args.drop 1)
  rw [List.take_append_drop] at e11
  rw [List.drop_zero] at e4 e5 e6 e8
  rw [tX, bareT]
  split
  · omega
  split
  · simp only [List.length_cons, List.length_append, List.length_nil]; omega
  split
  · omega
  split
  · simp only [List.length_cons, List.length_append, List.length_nil]; omega
  split
  · simp only [List.length_cons, List.length_append, List.length_nil]; omega
  split
  · simp only [List.length_cons, List.length_append, List.length_nil]; omega
  split
  · simp only [List.length_cons, List.length_append, List.length_nil]; omega
  split
  · simp only [List.length_cons, List.length_append, List.length_nil]; omega
  · simp only [List.length_cons, List.length_append, List.length_nil]; omega
theorem sz_len (x : Xs) : NbX x → ∀ m : Int, 0 ≤ m → szX x m ≤ m → ((tX x).length : Int) + 4 ≤ 270 * szX x m := by
  induction x using Xs.ind with
  | h op nm tx n args ih =>
    rintro (⟨n1, n2, n3⟩) m hm hle
    rw [szX] at hle ⊢
    split at hle
    · omega
    rename_i hs
    rw [if_neg hs]
    have hany := tx_any (op := op) (args := args) (show nm.size ≤ 200 by omega) (show tx.size ≤ 200 by omega) n1 n2
    have : ∀ (l : List Xs) (k : Int), (∀ a ∈ l, NbX a ∧ ∀ m : Int, 0 ≤ m → szX a m ≤ m → ((tX a).length : Int) + 4 ≤ 270 * szX a m) → szL l m k ≤ m → (sumT l : Int) ≤ 270 * (szL l m k - k) := by
      intro l
      induction l with
      | nil => intro k _ _; simp [sumT, szL]
      | cons a l ihl =>
        intro k hall h2
        rw [szL] at h2 ⊢
        split at h2
        · rename_i hk
          rw [if_pos hk]
          have g1 := szL_ge m l (k + szX a (m - k))
          have g2 := (hall a (by simp)).2 (m - k) (by omega) (by omega)
          have g3 := ihl _ (fun b hb => hall b (by simp [hb])) h2
          simp only [sumT]
          omega
        · omega
    have := this args 1 (fun a ha => ⟨n3 a ha, ih a ha (n3 a ha)⟩) hle
    omega
def fewL : List Ru → Int → Bool
  | [], k => decide (k ≤ 300)
  | u :: l, k => if k ≤ 300 then (if 200 < u.nm.size then false else fewL l (k + szX u.w 300)) else false
def fewU (us : List Ru) : Bool := decide (us.length ≤ 70) && fewL us 0
theorem fewL_le : ∀ (l : List Ru) (k : Int), fewL l k = true → k ≤ 300
  | [], k, h => by simpa [fewL] using h
  | u :: l, k, h => by
    rw [fewL] at h
    split at h
    · assumption
    · cases h
theorem fewL_out : ∀ (l : List Ru) (k : Int), 0 ≤ k → fewL l k = true → ∀ u ∈ l, u.nm.size ≤ 200 ∧ szX u.w 300 ≤ 300
  | [], _, _, _, u, hu => by cases hu
  | v :: l, k, h0, h, u, hu => by
    rw [fewL] at h
    split at h
    · rename_i hk
      split at h
      · cases h
      rename_i hn
      have h1 := fewL_le _ _ h
      have h2 := (sz_rng v.w 300 (by omega)).1
      rcases List.mem_cons.1 hu with e | e
      · rw [e]; exact ⟨by omega, by omega⟩
      · exact fewL_out l _ (by omega) h u e
    · cases h
theorem few_len {us : List Ru} (h : fewU us = true) (hn : ∀ u ∈ us, NbU u) : us.length ≤ 70 ∧ (fmF us).length ≤ 6000000 := by
  unfold fewU at h
  simp only [Bool.and_eq_true, decide_eq_true_eq] at h
  obtain ⟨h1, h2⟩ := h
  refine ⟨h1, ?_⟩
  have hall := fewL_out us 0 (by omega) h2
  have : ∀ l : List Ru, (∀ u ∈ l, NbU u ∧ u.nm.size ≤ 200 ∧ szX u.w 300 ≤ 300) → (fmF l).length ≤ 81300 * l.length := by
    intro l
    induction l with
    | nil => intro _; simp [fmF]
    | cons u l ih =>
      intro hu
      have g := ih fun v hv => hu v (by simp [hv])
      obtain ⟨⟨b1, b2, b3⟩, b4, b5⟩ := hu u (by simp)
      have e1 := sz_len u.w b1 300 (by omega) b5
      have e2 := actT_len u.act
      have e3 : (scT u.sc).length ≤ 27 := by
        unfold scT
        split
        · simp
        · have := itoa_len b2 b3
          simp only [List.length_append, List.length_cons, List.length_nil]; omega
      have e4 : u.nm.data.toList.length ≤ 200 := by rw [← ByteArray.toList_eq, size_list]; exact b4
      have e5 : (ruTx u).length ≤ 81300 := by
        unfold ruTx
        simp only [List.length_append, List.length_cons, List.length_nil]
        omega
      unfold fmF at g ⊢
      rw [List.flatMap_cons, List.length_append, List.length_cons]
      omega
  have := this us fun u hu => ⟨hn u hu, hall u hu⟩
  omega
end Go.Proofs.YtgglccpckhpocaaGreatDoor
namespace Go.Proofs.YtgglccpckhpocaaGreatDoor
open Go.Vm
set_option maxHeartbeats 4000000
set_option maxRecDepth 20000
theorem rszS_h (A : AH) (op n : Int) (nm tx : ByteArray) (args : List Xs) (p : Option Addr) (cap : Nat) (rs : List Xr) (hl : args.length ≤ 140737488355328) (hrs : rs.length = args.length) (hS : StR xrC 5 A p rs) (m : Int) (hm0 : 0 ≤ m) (hm : m ≤ 1000) (ih : ∀ (k : Nat) (x : Xs) (r : Xr), args[k]? = some x → rs[k]? = some r → ∀ m' : Int, 0 ≤ m' → m' ≤ 1000 → ∀ B, SubA A B → valA Tryz.prog 16 #[xrV r, .int .i64 m'] B = some (.int .i64 (szX x m'))) : CallA Tryz.prog 16 #[.agg #[.int .i64 op, .string nm, .string tx, .int .i64 n, .slice p args.length cap], .int .i64 m] A (fun u_ A_ => u_ = .int .i64 (szX (.mk op nm tx n args) m) ∧ SubA A A_) := by
  refine callA_of_denA ⟨Tryz.prog, 16, Tryz.f16, 43, [0, 1, 2, 4, 5, 6], ⟨[], none⟩, [], _⟩ rfl (args := [_, _]) Tryz.func16 rfl (by kernel_rfl) Tryz.ntmps16 (by simp) (by kernel_rfl) ?_
  intro ν fr; have nuE := fr.nu
  have f0 := fr.2 0
  have wm : IntKind.i64.wrap (m + 1) = m + 1 := w_i64 (by omega) (by omega)
  have k1 : (200 < (nm.size : Int)) = (200 < nm.size) := propext (by omega)
  have k2 : (200 < (tx.size : Int)) = (200 < tx.size) := propext (by omega)
  rw [szX]
  by_cases h1 : 200 < nm.size
  · rw [if_pos (.inl h1)]
    simp (maxDischargeDepth := 16) only [evN, ↓evP, simprocAttr, forall_const, nuE, fr.2, vbQq, ↓sA_usd, ↓sA_ust, k1, eq_true h1, wm]
  by_cases h2 : 200 < tx.size
  · rw [if_pos (.inr h2)]
    simp (maxDischargeDepth := 16) only [evN, ↓evP, simprocAttr, forall_const, nuE, fr.2, vbQq, ↓sA_usd, ↓sA_ust, k1, k2, eq_false h1, eq_true h2, wm]
  rw [if_neg (by omega)]
  simp (maxDischargeDepth := 16) only [evN, ↓evP, simprocAttr, forall_const, nuE, fr.2, vbQq, ↓sA_usd, ↓sA_ust, k1, k2, eq_false h1, eq_false h2, wm]
  have dst_ : True := (by simp [nuE]); generalize ν 0 = n1 at dst_  f0 ⊢
  clear nuE fr
  obtain ⟨e, l, k, he, hk0, hd, hle, hk, hk2, hx⟩ : ∃ (e : Nat) (l : List Xs) (k : Int), e = 0 ∧ k = 1 ∧ l = args.drop e ∧ e ≤ args.length ∧ 1 ≤ k ∧ k ≤ m + 1 ∧ szL args m 1 = szL l m k := ⟨0, _, 1, rfl, rfl, rfl, by omega, by omega, by omega, rfl⟩
  rw [hx]
  rw [show (6, some (Value.int .i64 0)) = (6, some (Value.int .i64 (e : Int))) by rw [he]; rfl, show (5, some (Value.int .i64 1)) = (5, some (Value.int .i64 k)) by rw [hk0]]
  clear he hx hk0
  induction l generalizing e k with
  | nil =>
    obtain ⟨hn1, hn2⟩ := drop_nil hd hle
    have lt : ((e : Int) < (args.length : Int)) = False := eq_false (by omega)
    refine LoopA.intro (by kernel_rfl) ?_
    intro ν fr; have nuE := And.intro (fr.mem (b := n1) (by simp)) (fr.nu)
    simp (maxDischargeDepth := 16) only [evN, ↓evP, simprocAttr, forall_const, nuE, fr.2, vbQq, ↓sA_usd, ↓sA_ust, lt]
    rw [szL]
    exact ⟨rfl, SubA.fresh f0 (SubA.refl _)⟩
  | cons x l ihl =>
    obtain ⟨ha, hlt, hd', htk⟩ := drop_some hd
    have lt : ((e : Int) < (args.length : Int)) = True := eq_true (by omega)
    have li : ((e : Int) < 0) = False := eq_false (by omega)
    have we : IntKind.i64.wrap ((e : Int) + 1) = ((e + 1 : Nat) : Int) := by rw [w_i64 (by omega) (by omega)]; omega
    rw [szL]
    by_cases hkm : k ≤ m
    rotate_left
    · rw [if_neg hkm]
      refine LoopA.intro (by kernel_rfl) ?_
      intro ν fr; have nuE := And.intro (fr.mem (b := n1) (by simp)) (fr.nu)
      simp (maxDischargeDepth := 16) only [evN, ↓evP, simprocAttr, forall_const, nuE, fr.2, vbQq, ↓sA_usd, ↓sA_ust, lt, eq_false hkm]
      exact SubA.fresh f0 (SubA.refl _)
    rw [if_pos hkm]
    obtain ⟨s, hs⟩ : ∃ s, rs[e]? = some s := ⟨_, List.getElem?_eq_getElem (by omega)⟩
    obtain ⟨bk, off, cs, ty, fr0, hp0, hbk, hcr, hcc⟩ := hS.at hs
    subst hp0
    simp only [xrC] at hcr
    obtain ⟨q1, q2⟩ := look_ne f0 hbk
    have iv := fun o => ih e x s ha hs (m - k) (by omega) (by omega) ((n1, o) :: A) (SubA.fresh f0 (SubA.refl _))
    simp only [xrV, xrC] at iv
    obtain ⟨r1, r2⟩ := sz_rng x (m - k) (by omega)
    have w1 : IntKind.i64.wrap (m - k) = m - k := w_i64 (by omega) (by omega)
    have w2 : IntKind.i64.wrap (k + szX x (m - k)) = k + szX x (m - k) := w_i64 (by omega) (by omega)
    refine LoopA.intro (by kernel_rfl) ?_
    intro ν fr; have nuE := And.intro (fr.mem (b := n1) (by simp)) (fr.nu)
    simp (maxDischargeDepth := 16) only [evN, ↓evP, simprocAttr, forall_const, nuE, fr.2, vbQq, ↓sA_usd, ↓sA_ust, lt, li, eq_true hkm, hbk, hcr, q1, q2, w1, iv, w2, we]
    exact LoopA.weak (ihl (e + 1) (k + szX x (m - k)) hd' (by omega) (by omega) (by omega)) (by simp only [subE, get_cons, Nat.reduceEqDiff, ↓reduceIte, reduceCtorEq, Nat.reduceAdd, and_self, and_true]) (SubA.refl _)
theorem rszS_w (A : AH) (op n : Int) (nm tx : ByteArray) (args : List Xs) (p : Option Addr) (cap : Nat) (rs : List Xr) (hl : args.length ≤ 140737488355328) (hrs : rs.length = args.length) (hS : StR xrC 5 A p rs) (m : Int) (hm0 : 0 ≤ m) (hm : m ≤ 1000) (ih : ∀ (k : Nat) (x : Xs) (r : Xr), args[k]? = some x → rs[k]? = some r → ∀ m' : Int, 0 ≤ m' → m' ≤ 1000 → ∀ B, SubA A B → valA Tryz.prog 16 #[xrV r, .int .i64 m'] B = some (.int .i64 (szX x m'))) (B_ : AH) (hB_ : SubA A B_) : valA Tryz.prog 16 #[.agg #[.int .i64 op, .string nm, .string tx, .int .i64 n, .slice p args.length cap], .int .i64 m] B_ = some (.int .i64 (szX (.mk op nm tx n args) m)) := valA_eq (pureA_at (by kernel_rfl) (rszS_h A op n nm tx args p cap rs hl hrs hS m hm0 hm ih) hB_)
theorem rszX {A : AH} {t : Xs} {r : Xr} (h : ExR A t r) : ∀ m : Int, 0 ≤ m → m ≤ 1000 → ∀ B, SubA A B → valA Tryz.prog 16 #[xrV r, .int .i64 m] B = some (.int .i64 (szX t m)) := by
  induction h with
  | @mk op n nm tx args p cap rs h0 h0' h1 h2 h3 ih =>
    intro m hm0 hm B hB
    exact rszS_w A op n nm tx args p cap rs h0 h1 h2 m hm0 hm (fun k x r hx hr m' a b C hC => ih k x r hx hr m' a b C hC) B hB
theorem fewV_h (A : AH) (us : List Ru) (p : Option Addr) (cap : Nat) (hl : us.length ≤ 140737488355328) (hR : RuL A us p) : CallA Tryz.prog 15 #[.slice p us.length cap] A (fun u_ A_ => u_ = .bool (fewU us) ∧ SubA A A_) := by
  refine callA_of_denA ⟨Tryz.prog, 15, Tryz.f15, 35, [0, 2, 3, 4], ⟨[], none⟩, [], _⟩ rfl (args := [_]) Tryz.func15 rfl (by kernel_rfl) Tryz.ntmps15 (by simp) (by kernel_rfl) ?_
  intro ν fr; have nuE := fr.nu
  obtain ⟨rs, hrl, hS, hall⟩ := hR
  have k70 : (70 < (us.length : Int)) = (70 < us.length) := propext (by omega)
  by_cases h70 : 70 < us.length
  · have hf : fewU us = false := by unfold fewU; simp; omega
    rw [hf]
    simp (maxDischargeDepth := 16) only [evN, ↓evP, simprocAttr, forall_const, nuE, fr.2, vbQq, ↓sA_usd, ↓sA_ust, k70, eq_true h70]
  have hf : fewU us = fewL us 0 := by unfold fewU; simp; omega
  rw [hf]
  simp (maxDischargeDepth := 16) only [evN, ↓evP, simprocAttr, forall_const, nuE, fr.2, vbQq, ↓sA_usd, ↓sA_ust, k70, eq_false h70]
  clear nuE fr hf
  obtain ⟨e, l, k, he, hk0, hd, hle, hk, hk2, hx⟩ : ∃ (e : Nat) (l : List Ru) (k : Int), e = 0 ∧ k = 0 ∧ l = us.drop e ∧ e ≤ us.length ∧ 0 ≤ k ∧ k ≤ 601 ∧ fewL us 0 = fewL l k := ⟨0, _, 0, rfl, rfl, rfl, by omega, by omega, by omega, rfl⟩
  rw [hx]
  rw [show (4, some (Value.int .i64 0)) = (4, some (Value.int .i64 (e : Int))) by rw [he]; rfl, show (3, some (Value.int .i64 0)) = (3, some (Value.int .i64 k)) by rw [hk0]]
  clear he hx hk0
  induction l generalizing e k with
  | nil =>
    obtain ⟨hn1, hn2⟩ := drop_nil hd hle
    have lt : ((e : Int) < (us.length : Int)) = False := eq_false (by omega)
    refine LoopA.intro (by kernel_rfl) ?_
    intro ν fr; have nuE := fr.nu
    simp (maxDischargeDepth := 16) only [evN, ↓evP, simprocAttr, forall_const, nuE, fr.2, vbQq, ↓sA_usd, ↓sA_ust, lt]
    rw [fewL]
  | cons u l ihl =>
    obtain ⟨ha, hlt, hd', htk⟩ := drop_some hd
    have lt : ((e : Int) < (us.length : Int)) = True := eq_true (by omega)
    have li : ((e : Int) < 0) = False := eq_false (by omega)
    have we : IntKind.i64.wrap ((e : Int) + 1) = ((e + 1 : Nat) : Int) := by rw [w_i64 (by omega) (by omega)]; omega
    rw [fewL]
    by_cases hkm : k ≤ 300
    rotate_left
    · rw [if_neg hkm]
      refine LoopA.intro (by kernel_rfl) ?_
      intro ν fr; have nuE := fr.nu
      simp (maxDischargeDepth := 16) only [evN, ↓evP, simprocAttr, forall_const, nuE, fr.2, vbQq, ↓sA_usd, ↓sA_ust, lt, eq_false hkm]
    rw [if_pos hkm]
    obtain ⟨r, hr⟩ : ∃ r, rs[e]? = some r := ⟨_, List.getElem?_eq_getElem (by omega)⟩
    obtain ⟨bk, off, cs, ty, fr0, hp0, hbk, hcr, hcc⟩ := hS.at hr
    subst hp0
    obtain ⟨hr1, hrw, hr3, hr4⟩ := hall e u r ha hr
    have c0 : cs[off + e * 8]? = some (.string u.nm) := hcc 0 _ (by simp [ruC, hr1])
    have w5 : rdCS (some (.cells cs ty fr0)) (off + e * 8 + 1) 5 = some #[.int .i64 r.w.op, .string r.w.nm, .string r.w.tx, .int .i64 r.w.n, .slice r.w.p r.w.len r.w.cap] := by
      have h := rdCS_sub hcr (k := 1) (n := 5) (by decide)
      simpa [ruC] using h
    have k2 : (200 < (u.nm.size : Int)) = (200 < u.nm.size) := propext (by omega)
    have iv := rszX hrw 300 (by omega) (by omega) A (SubA.refl _)
    simp only [xrV, xrC] at iv
    obtain ⟨r1, r2⟩ := sz_rng u.w 300 (by omega)
    have w2 : IntKind.i64.wrap (k + szX u.w 300) = k + szX u.w 300 := w_i64 (by omega) (by omega)
    refine LoopA.intro (by kernel_rfl) ?_
    intro ν fr; have nuE := fr.nu
    by_cases h2 : 200 < u.nm.size
    · rw [if_pos h2]
      simp (maxDischargeDepth := 16) only [evN, ↓evP, simprocAttr, forall_const, nuE, fr.2, vbQq, ↓sA_usd, ↓sA_ust, lt, li, eq_true hkm, hbk, c0, k2, eq_true h2]
    rw [if_neg h2]
    simp (maxDischargeDepth := 16) only [evN, ↓evP, simprocAttr, forall_const, nuE, fr.2, vbQq, ↓sA_usd, ↓sA_ust, lt, li, eq_true hkm, hbk, c0, k2, eq_false h2, w5, iv, w2, we]
    exact LoopA.weak (ihl (e + 1) (k + szX u.w 300) hd' (by omega) (by omega) (by omega)) (by simp only [subE, get_cons, Nat.reduceEqDiff, ↓reduceIte, reduceCtorEq, Nat.reduceAdd, and_self, and_true]) (SubA.refl _)
theorem fewV_w (A : AH) (us : List Ru) (p : Option Addr) (cap : Nat) (hl : us.length ≤ 140737488355328) (hR : RuL A us p) (B_ : AH) (hB_ : SubA A B_) : valA Tryz.prog 15 #[.slice p us.length cap] B_ = some (.bool (fewU us)) := valA_eq (pureA_at (by kernel_rfl) (fewV_h A us p cap hl hR) hB_)
end Go.Proofs.YtgglccpckhpocaaGreatDoor
