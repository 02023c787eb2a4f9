/-
Arguments that hold expressions and rules; their size.
Conditions: none.
-/
import Derived.Test.YtgglccpckhpocaaDoorVmRc
import Derived.Test.YtgglccpckhpocaaDoorQj
import Derived.Test.YtgglccpckhpocaaDoorQn
set_option linter.unusedSimpArgs false
set_option linter.unusedVariables false
namespace Go.Proofs.YtgglccpckhpocaaDoor
open Go.Vm
set_option maxHeartbeats 2000000
set_option maxRecDepth 20000
theorem vbQq : type_of% (An @slIndexByte_v (An @indexByte_v (An @indexRune_v (An @containsRune_v (An @slHasPrefix_v (An @hasPrefix_v (An @classOf_v (An @isWordByte_v (An @letter_v (An @digit_v (An @wordAt_v (An @rword_v (An @skip_v (An @number_v (An @literal_v (An @lexemeAt_v (An @isName_v (An @risName_v (An @resV_v (An @soft_usd (An @soft_ust (An @cnvN_pu (An @cnvN_up (An @eqS_pp (An @isNameV_v (An @isLitV_v (An @hasF_v (An @lvV_v (An @syV_v (An @wordV_v @nameV_v)))))))))))))))))))))))))))))) := ⟨@slIndexByte_v, @indexByte_v, @indexRune_v, @containsRune_v, @slHasPrefix_v, @hasPrefix_v, @classOf_v, @isWordByte_v, @letter_v, @digit_v, @wordAt_v, @rword_v, @skip_v, @number_v, @literal_v, @lexemeAt_v, @isName_v, @risName_v, @resV_v, @soft_usd, @soft_ust, @cnvN_pu, @cnvN_up, @eqS_pp, @isNameV_v, @isLitV_v, @hasF_v, @lvV_v, @syV_v, @wordV_v, @nameV_v⟩
inductive NbX : Xs → Prop
  | mk {op n : Int} {nm tx : ByteArray} {args : List Xs} : -9223372036854775808 ≤ n → n ≤ 9223372036854775807 → (∀ x ∈ args, NbX x) → NbX (.mk op nm tx n args)
theorem wf64 {n : Int} (h : (Lit.int .i64 n).wf = true) : -9223372036854775808 ≤ n ∧ n ≤ 9223372036854775807 := by
  simp only [Lit.wf, Bool.and_eq_true, decide_eq_true_eq] at h
  exact h
theorem five_of {α : Type} {l : List α} (h : l.length = 5) : ∃ a b c d e, l = [a, b, c, d, e] := by
  match l, h with
  | [a, b, c, d, e], _ => exact ⟨a, b, c, d, e, rfl⟩
theorem ce_int : Tryd.prog.cellsOf 3 = 1 := by kernel_rfl
theorem ce_i64 : Tryd.prog.cellsOf 2 = 1 := by kernel_rfl
theorem ce_str : Tryd.prog.cellsOf 9 = 1 := by kernel_rfl
theorem ce_sl : Tryd.prog.cellsOf 22 = 1 := by kernel_rfl
theorem ce_ex : Tryd.prog.cellsOf 24 = 5 := by kernel_rfl
theorem by_ex : Tryd.prog.bytesOf 24 = 72 := by kernel_rfl
section
variable {H : Type} {enc : TypeId × Value → H} {w : World} {base : Nat} {sp : Nat → Bool} {held : Bool}
theorem exr_of : ∀ (fuel : Nat) (cs : List Value) (x : DataW H × List MemPlace), DataW.trod enc Tryd.prog w base sp held fuel 24 cs = some x → (∀ q ∈ x.1.weights Tryd.prog 24, q ≤ 140737488351232) → ∃ t r, cs = xrC r ∧ ExR (allH w.heap) t r ∧ SzX t ∧ NbX t := by
  intro fuel
  induction fuel using Nat.strongRecOn with
  | ind fuel ih =>
    intro cs x h hw
    obtain ⟨xs, m, rfl, hx, h1, h2, h3⟩ := DataW.trod_struct Tryd.underlying24 h
    subst hx
    simp only [DataW.weights, Tryd.underlying24] at hw
    have hwe := fun i t d (h1 : _ = some t) (h2 : _ = some d) n hn => hw n (wt_each _ _ i t d h1 h2 n hn)
    rw [ce_ex] at h1
    obtain ⟨c0, c1, c2, c3, c4, rfl⟩ := five_of h1
    obtain ⟨y0, y1, y2, y3, y4, rfl⟩ := five_of (l := xs) h2
    have g0 : DataW.trod enc Tryd.prog w base sp held m 3 (([c0, c1, c2, c3, c4].drop 0).take (Tryd.prog.cellsOf 3)) = some y0 := h3 0 _ rfl
    have g1 : DataW.trod enc Tryd.prog w base sp held m 9 (([c0, c1, c2, c3, c4].drop 1).take (Tryd.prog.cellsOf 9)) = some y1 := h3 1 _ rfl
    have g2 : DataW.trod enc Tryd.prog w base sp held m 9 (([c0, c1, c2, c3, c4].drop 2).take (Tryd.prog.cellsOf 9)) = some y2 := h3 2 _ rfl
    have g3 : DataW.trod enc Tryd.prog w base sp held m 2 (([c0, c1, c2, c3, c4].drop 3).take (Tryd.prog.cellsOf 2)) = some y3 := h3 3 _ rfl
    have g4 : DataW.trod enc Tryd.prog w base sp held m 22 (([c0, c1, c2, c3, c4].drop 4).take (Tryd.prog.cellsOf 22)) = some y4 := h3 4 _ rfl
    have w1 := hwe 1 9 y1.1 rfl rfl
    have w2 := hwe 2 9 y2.1 rfl rfl
    have w4 := hwe 4 22 y4.1 rfl rfl
    simp only [ce_int, ce_i64, ce_str, ce_sl, List.drop_zero, List.drop_succ_cons, List.take_succ_cons, List.take_zero] at g0 g1 g2 g3 g4
    obtain ⟨op, e0, _, _⟩ := DataW.trod_int Tryd.underlying3 g0
    obtain ⟨nm, e1, x1, _⟩ := DataW.trod_string Tryd.underlying9 g1
    obtain ⟨tx, e2, x2, _⟩ := DataW.trod_string Tryd.underlying9 g2
    obtain ⟨n, e3, _, wn⟩ := DataW.trod_int Tryd.underlying2 g3
    obtain ⟨b1, b2⟩ := wf64 wn
    simp only [List.cons.injEq, and_true] at e0 e1 e2 e3
    subst e0 e1 e2 e3 x1 x2
    have z1 : nm.size ≤ 140737488351232 := w1 nm.size (by rw [DataW.weights, List.mem_singleton, Array.length_toList]; rfl)
    have z2 : tx.size ≤ 140737488351232 := w2 tx.size (by rw [DataW.weights, List.mem_singleton, Array.length_toList]; rfl)
    rcases DataW.trod_slice Tryd.underlying22 g4 with ⟨e4, _⟩ | ⟨a, len, cap, elems, rest, k, rfl, e4, x4, _, q1, q2, q3, q4, _⟩
    · simp only [List.cons.injEq, and_true] at e4
      subst e4
      exact ⟨.mk op nm tx n [], ⟨op, nm, tx, n, none, 0, 0⟩, rfl, ExR.leaf _ _ _ _ _ _ _, .mk (by omega) (by omega) (fun x hx => by cases hx), .mk b1 b2 (fun x hx => by cases hx)⟩
    · simp only [List.cons.injEq, and_true] at e4
      subst e4 x4
      simp only [DataW.weights, Tryd.underlying22, by_ex] at w4
      have hlen0 := w4 _ (List.mem_cons_self ..)
      simp only [List.length_map] at hlen0
      obtain ⟨L, l1, l2⟩ := list_of (fun i (p : Xs × Xr) => (∀ j, j < 5 → cellH w.heap ((a.add (i * 5)).add j) = (xrC p.2)[j]?) ∧ ExR (allH w.heap) p.1 p.2 ∧ SzX p.1 ∧ NbX p.1) len (fun i hi => by
        have h5 := q4 i hi
        rw [ce_ex, List.getElem?_eq_getElem (by omega), Option.bind_eq_some_iff] at h5
        obtain ⟨es, h6, h7⟩ := h5
        obtain ⟨_, h8, h9⟩ := World.cells?_some h6
        obtain ⟨t, r, rfl, hr, hz⟩ := ih k (by omega) es _ h7 fun q hq => w4 q (List.mem_cons_of_mem _ (List.mem_append_left _ (wt_all _ i _ _ (by simp [List.getElem?_eq_getElem (show i < elems.length by omega)]) q hq)))
        exact ⟨(t, r), fun j hj => by rw [← h9 j hj]; rfl, hr, hz⟩)
      subst l1
      have hlen : (L.map Prod.fst).length = L.length := by simp
      refine ⟨.mk op nm tx n (L.map Prod.fst), ⟨op, nm, tx, n, some a, L.length, cap⟩, rfl, ?_, .mk (by omega) (by omega) fun x hx => ?_, .mk b1 b2 fun x hx => ?_⟩
      · have := ExR.mk (A := allH w.heap) (op := op) (n := n) (nm := nm) (tx := tx) (args := L.map Prod.fst) (p := some a) (cap := cap) (rs := L.map Prod.snd) (by rw [hlen]; omega) (by rw [hlen]; exact q1) (by simp) ?_ ?_
        · rw [hlen] at this; exact this
        · refine str_all xrC (by decide) xrC_len fun i x hx => ?_
          rw [List.getElem?_map, Option.map_eq_some_iff] at hx
          obtain ⟨p, hp, rfl⟩ := hx
          exact (l2 i p hp).1
        · intro k' x r hx hr
          rw [List.getElem?_map, Option.map_eq_some_iff] at hx hr
          obtain ⟨p, hp, rfl⟩ := hx
          obtain ⟨p', hp', rfl⟩ := hr
          rw [hp] at hp'; cases hp'
          exact (l2 k' p hp).2.1
      · obtain ⟨p, hp, rfl⟩ := List.mem_map.1 hx
        obtain ⟨i, hi⟩ := List.getElem?_of_mem hp
        exact (l2 i p hi).2.2.1
      · obtain ⟨p, hp, rfl⟩ := List.mem_map.1 hx
        obtain ⟨i, hi⟩ := List.getElem?_of_mem hp
        exact (l2 i p hi).2.2.2
def ExA (h : Heap) (a : Array Value) : Prop := ∃ t r, a = (xrC r).toArray ∧ ExR (allH h) t r ∧ SzX t ∧ NbX t
theorem exA_trod {a : Array Value} {d : DataW H} {ps : List MemPlace} {ts : List TypeId} {ds : List (DataW H)} {i : Nat} (h : DataW.Trod enc Tryd.prog w base sp held 24 (.agg a) d ps)
    (hZ : (DataW.weightsEach Tryd.prog ts ds).all (· ≤ 140737488351232) = true) (ht : ts[i]? = some 24) (hd : ds[i]? = some d) : ExA w.heap a := by
  obtain ⟨fuel, hf⟩ := h
  have hw : ∀ q ∈ d.weights Tryd.prog 24, q ≤ 140737488351232 := fun n hn => by
    have := List.all_eq_true.1 hZ n (wt_each ts ds i _ d ht hd n hn)
    simpa using this
  have hc : (Value.agg a).cells.toList = a.toList := rfl
  rw [hc] at hf
  obtain ⟨t, r, e, hr, hz⟩ := exr_of _ _ _ hf hw
  exact ⟨t, r, by rw [← e], hr, hz⟩
end
end Go.Proofs.YtgglccpckhpocaaDoor
namespace Go.Proofs.YtgglccpckhpocaaDoor
open Go.Vm
set_option maxHeartbeats 4000000
set_option maxRecDepth 20000
mutual
def szX : Xs → Int → Int
  | .mk op nm tx n args, m => if 200 < nm.size ∨ 200 < tx.size then m + 1 else szL args m 1
def szL : List Xs → Int → Int → Int
  | [], m, k => k
  | x :: l, m, k => if k ≤ m then szL l m (k + szX x (m - k)) else k
end
theorem sz_rng (x : Xs) : ∀ m : Int, 0 ≤ m → 1 ≤ szX x m ∧ szX x m ≤ m + 1 := by
  induction x using Xs.ind with
  | h op nm tx n args ih =>
    intro m hm
    rw [szX]
    split
    · omega
    have : ∀ (l : List Xs) (k : Int), (∀ a ∈ l, ∀ m : Int, 0 ≤ m → 1 ≤ szX a m ∧ szX a m ≤ m + 1) → 1 ≤ k → k ≤ m + 1 → 1 ≤ szL l m k ∧ szL l m k ≤ m + 1 := by
      intro l
      induction l with
      | nil => intro k _ h1 h2; rw [szL]; exact ⟨h1, h2⟩
      | cons a l ihl =>
        intro k hall h1 h2
        rw [szL]
        split
        · obtain ⟨a1, a2⟩ := hall a (by simp) (m - k) (by omega)
          exact ihl _ (fun b hb => hall b (by simp [hb])) (by omega) (by omega)
        · exact ⟨h1, h2⟩
    exact this args 1 ih (by omega) (by omega)
theorem szL_ge (m : Int) : ∀ (l : List Xs) (k : Int), k ≤ szL l m k
  | [], k => by rw [szL]; omega
  | x :: l, k => by
    rw [szL]
    split
    · have := szL_ge m l (k + szX x (m - k))
      have := (sz_rng x (m - k) (by omega)).1
      omega
    · omega
theorem arT_len (l : List Xs) (i : Nat) (k : Int) : (arT (tL l) i k).length ≤ sumT (l.drop i |>.take 1) + 2 := by
  unfold arT
  rw [tL_map, List.getD_eq_getElem?_getD, List.getElem?_map]
  cases h : l[i]? with
  | none => 
    have : (paT k (0, [])).length ≤ 2 := pa_len k (0, [])
    simp only [Option.map_none, Option.getD_none]
    omega
  | some x =>
    have h1 := pa_len k (opO x, tX x)
    have hi := (List.getElem?_eq_some_iff.1 h).1
    have e : (l.drop i).take 1 = [x] := by
      rw [List.drop_eq_getElem_cons hi]
      have := (List.getElem?_eq_some_iff.1 h).2
      simp [this]
    rw [e]
    simp only [Option.map_some, Option.getD_some, sumT]
    simp only at h1
    omega
theorem inA_len (l : List Xs) : (inA (tL l)).length ≤ sumT l := by
  cases l with
  | nil => simp [tL, inA]
  | cons b l =>
    have h2 := pa_len 4 (opO b, tX b)
    have h3 := inR_len l
    rw [tL, inA, List.length_append, sumT]
    simp only at h2
    omega
theorem sumT_two (l : List Xs) : sumT ((l.drop 0).take 1) + sumT ((l.drop 1).take 1) ≤ sumT l := by
  match l with
  | [] => simp [sumT]
  | [a] => simp [sumT]
  | a :: b :: l => simp [sumT]
theorem tx_any {op n : Int} {nm tx : ByteArray} {args : List Xs} (h1 : nm.size ≤ 200) (h2 : tx.size ≤ 200) (h3 : -9223372036854775808 ≤ n) (h4 : n ≤ 9223372036854775807) : (tX (.mk op nm tx n args)).length ≤ sumT args + 260 := by
  have e1 := itoa_len h3 h4
  have e2 : nm.data.toList.length ≤ 200 := by rw [← ByteArray.toList_eq, size_list]; exact h1
  have e3 : tx.data.toList.length ≤ 200 := by rw [← ByteArray.toList_eq, size_list]; exact h2
  have e4 := arT_len args 0 6
  have e5 := arT_len args 0 4
  have e6 := arT_len args 0 (leO op)
  have e7 := arT_len args 1 (lvO op + 1)
  have e8 := sumT_two args
  have e9 := sy_len op
  have e10 : (inA ((tL args).drop 1)).length ≤ sumT (args.drop 1) := by
    have : (tL args).drop 1 = tL (args.drop 1) := by rw [tL_map, tL_map, List.map_drop]
    rw [this]; exact inA_len _
  have e11 := sumT_app (args.take 1) (args.drop 1)
  rw [List.take_append_drop] at e11
  rw [List.drop_zero] at e4 e5 e6 e8
  rw [tX, bareT]
  split
  · omega
  split
  · simp only [List.length_cons, List.length_append, List.length_nil]; omega
  split
  · omega
  split
  · simp only [List.length_cons, List.length_append, List.length_nil]; omega
  split
  · simp only [List.length_cons, List.length_append, List.length_nil]; omega
  split
  · simp only [List.length_cons, List.length_append, List.length_nil]; omega
  split
  · simp only [List.length_cons, List.length_append, List.length_nil]; omega
  split
  · simp only [List.length_cons, List.length_append, List.length_nil]; omega
  · simp only [List.length_cons, List.length_append, List.length_nil]; omega
theorem sz_len (x : Xs) : NbX x → ∀ m : Int, 0 ≤ m → szX x m ≤ m → ((tX x).length : Int) + 4 ≤ 270 * szX x m := by
  induction x using Xs.ind with
  | h op nm tx n args ih =>
    rintro (⟨n1, n2, n3⟩) m hm hle
    rw [szX] at hle ⊢
    split at hle
    · omega
    rename_i hs
    rw [if_neg hs]
    have hany := tx_any (op := op) (args := args) (show nm.size ≤ 200 by omega) (show tx.size ≤ 200 by omega) n1 n2
    have : ∀ (l : List Xs) (k : Int), (∀ a ∈ l, NbX a ∧ ∀ m : Int, 0 ≤ m → szX a m ≤ m → ((tX a).length : Int) + 4 ≤ 270 * szX a m) → szL l m k ≤ m → (sumT l : Int) ≤ 270 * (szL l m k - k) := by
      intro l
      induction l with
      | nil => intro k _ _; simp [sumT, szL]
      | cons a l ihl =>
        intro k hall h2
        rw [szL] at h2 ⊢
        split at h2
        · rename_i hk
          rw [if_pos hk]
          have g1 := szL_ge m l (k + szX a (m - k))
          have g2 := (hall a (by simp)).2 (m - k) (by omega) (by omega)
          have g3 := ihl _ (fun b hb => hall b (by simp [hb])) h2
          simp only [sumT]
          omega
        · omega
    have := this args 1 (fun a ha => ⟨n3 a ha, ih a ha (n3 a ha)⟩) hle
    omega
end Go.Proofs.YtgglccpckhpocaaDoor
namespace Go.Proofs.YtgglccpckhpocaaDoor
open Go.Vm
set_option maxHeartbeats 4000000
set_option maxRecDepth 20000
theorem rszS_h (A : AH) (op n : Int) (nm tx : ByteArray) (args : List Xs) (p : Option Addr) (cap : Nat) (rs : List Xr) (hl : args.length ≤ 140737488355328) (hrs : rs.length = args.length) (hS : StR xrC 5 A p rs) (m : Int) (hm0 : 0 ≤ m) (hm : m ≤ 1000) (ih : ∀ (k : Nat) (x : Xs) (r : Xr), args[k]? = some x → rs[k]? = some r → ∀ m' : Int, 0 ≤ m' → m' ≤ 1000 → ∀ B, SubA A B → valA Tryd.prog 5 #[xrV r, .int .i64 m'] B = some (.int .i64 (szX x m'))) : CallA Tryd.prog 5 #[.agg #[.int .i64 op, .string nm, .string tx, .int .i64 n, .slice p args.length cap], .int .i64 m] A (fun u_ A_ => u_ = .int .i64 (szX (.mk op nm tx n args) m) ∧ SubA A A_) := by
  refine callA_of_denA ⟨Tryd.prog, 5, Tryd.f5, 43, [0, 1, 2, 4, 5, 6], ⟨[], none⟩, [], _⟩ rfl (args := [_, _]) Tryd.func5 rfl (by kernel_rfl) Tryd.ntmps5 (by simp) (by kernel_rfl) ?_
  intro ν fr; have nuE := fr.nu
  have f0 := fr.2 0
  have wm : IntKind.i64.wrap (m + 1) = m + 1 := w_i64 (by omega) (by omega)
  have k1 : (200 < (nm.size : Int)) = (200 < nm.size) := propext (by omega)
  have k2 : (200 < (tx.size : Int)) = (200 < tx.size) := propext (by omega)
  rw [szX]
  by_cases h1 : 200 < nm.size
  · rw [if_pos (.inl h1)]
    simp (maxDischargeDepth := 16) only [evN, ↓evP, simprocAttr, forall_const, nuE, fr.2, vbQq, ↓sA_usd, ↓sA_ust, k1, eq_true h1, wm]
  by_cases h2 : 200 < tx.size
  · rw [if_pos (.inr h2)]
    simp (maxDischargeDepth := 16) only [evN, ↓evP, simprocAttr, forall_const, nuE, fr.2, vbQq, ↓sA_usd, ↓sA_ust, k1, k2, eq_false h1, eq_true h2, wm]
  rw [if_neg (by omega)]
  simp (maxDischargeDepth := 16) only [evN, ↓evP, simprocAttr, forall_const, nuE, fr.2, vbQq, ↓sA_usd, ↓sA_ust, k1, k2, eq_false h1, eq_false h2, wm]
  have dst_ : True := (by simp [nuE]); generalize ν 0 = n1 at dst_  f0 ⊢
  clear nuE fr
  obtain ⟨e, l, k, he, hk0, hd, hle, hk, hk2, hx⟩ : ∃ (e : Nat) (l : List Xs) (k : Int), e = 0 ∧ k = 1 ∧ l = args.drop e ∧ e ≤ args.length ∧ 1 ≤ k ∧ k ≤ m + 1 ∧ szL args m 1 = szL l m k := ⟨0, _, 1, rfl, rfl, rfl, by omega, by omega, by omega, rfl⟩
  rw [hx]
  rw [show (6, some (Value.int .i64 0)) = (6, some (Value.int .i64 (e : Int))) by rw [he]; rfl, show (5, some (Value.int .i64 1)) = (5, some (Value.int .i64 k)) by rw [hk0]]
  clear he hx hk0
  induction l generalizing e k with
  | nil =>
    obtain ⟨hn1, hn2⟩ := drop_nil hd hle
    have lt : ((e : Int) < (args.length : Int)) = False := eq_false (by omega)
    refine LoopA.intro (by kernel_rfl) ?_
    intro ν fr; have nuE := And.intro (fr.mem (b := n1) (by simp)) (fr.nu)
    simp (maxDischargeDepth := 16) only [evN, ↓evP, simprocAttr, forall_const, nuE, fr.2, vbQq, ↓sA_usd, ↓sA_ust, lt]
    rw [szL]
    exact ⟨rfl, SubA.fresh f0 (SubA.refl _)⟩
  | cons x l ihl =>
    obtain ⟨ha, hlt, hd', htk⟩ := drop_some hd
    have lt : ((e : Int) < (args.length : Int)) = True := eq_true (by omega)
    have li : ((e : Int) < 0) = False := eq_false (by omega)
    have we : IntKind.i64.wrap ((e : Int) + 1) = ((e + 1 : Nat) : Int) := by rw [w_i64 (by omega) (by omega)]; omega
    rw [szL]
    by_cases hkm : k ≤ m
    rotate_left
    · rw [if_neg hkm]
      refine LoopA.intro (by kernel_rfl) ?_
      intro ν fr; have nuE := And.intro (fr.mem (b := n1) (by simp)) (fr.nu)
      simp (maxDischargeDepth := 16) only [evN, ↓evP, simprocAttr, forall_const, nuE, fr.2, vbQq, ↓sA_usd, ↓sA_ust, lt, eq_false hkm]
      exact SubA.fresh f0 (SubA.refl _)
    rw [if_pos hkm]
    obtain ⟨s, hs⟩ : ∃ s, rs[e]? = some s := ⟨_, List.getElem?_eq_getElem (by omega)⟩
    obtain ⟨bk, off, cs, ty, fr0, hp0, hbk, hcr, hcc⟩ := hS.at hs
    subst hp0
    simp only [xrC] at hcr
    obtain ⟨q1, q2⟩ := look_ne f0 hbk
    have iv := fun o => ih e x s ha hs (m - k) (by omega) (by omega) ((n1, o) :: A) (SubA.fresh f0 (SubA.refl _))
    simp only [xrV, xrC] at iv
    obtain ⟨r1, r2⟩ := sz_rng x (m - k) (by omega)
    have w1 : IntKind.i64.wrap (m - k) = m - k := w_i64 (by omega) (by omega)
    have w2 : IntKind.i64.wrap (k + szX x (m - k)) = k + szX x (m - k) := w_i64 (by omega) (by omega)
    refine LoopA.intro (by kernel_rfl) ?_
    intro ν fr; have nuE := And.intro (fr.mem (b := n1) (by simp)) (fr.nu)
    simp (maxDischargeDepth := 16) only [evN, ↓evP, simprocAttr, forall_const, nuE, fr.2, vbQq, ↓sA_usd, ↓sA_ust, lt, li, eq_true hkm, hbk, hcr, q1, q2, w1, iv, w2, we]
    exact LoopA.weak (ihl (e + 1) (k + szX x (m - k)) hd' (by omega) (by omega) (by omega)) (by simp only [subE, get_cons, Nat.reduceEqDiff, ↓reduceIte, reduceCtorEq, Nat.reduceAdd, and_self, and_true]) (SubA.refl _)
theorem rszS_w (A : AH) (op n : Int) (nm tx : ByteArray) (args : List Xs) (p : Option Addr) (cap : Nat) (rs : List Xr) (hl : args.length ≤ 140737488355328) (hrs : rs.length = args.length) (hS : StR xrC 5 A p rs) (m : Int) (hm0 : 0 ≤ m) (hm : m ≤ 1000) (ih : ∀ (k : Nat) (x : Xs) (r : Xr), args[k]? = some x → rs[k]? = some r → ∀ m' : Int, 0 ≤ m' → m' ≤ 1000 → ∀ B, SubA A B → valA Tryd.prog 5 #[xrV r, .int .i64 m'] B = some (.int .i64 (szX x m'))) (B_ : AH) (hB_ : SubA A B_) : valA Tryd.prog 5 #[.agg #[.int .i64 op, .string nm, .string tx, .int .i64 n, .slice p args.length cap], .int .i64 m] B_ = some (.int .i64 (szX (.mk op nm tx n args) m)) := valA_eq (pureA_at (by kernel_rfl) (rszS_h A op n nm tx args p cap rs hl hrs hS m hm0 hm ih) hB_)
theorem rszX {A : AH} {t : Xs} {r : Xr} (h : ExR A t r) : ∀ m : Int, 0 ≤ m → m ≤ 1000 → ∀ B, SubA A B → valA Tryd.prog 5 #[xrV r, .int .i64 m] B = some (.int .i64 (szX t m)) := by
  induction h with
  | @mk op n nm tx args p cap rs h0 h0' h1 h2 h3 ih =>
    intro m hm0 hm B hB
    exact rszS_w A op n nm tx args p cap rs h0 h1 h2 m hm0 hm (fun k x r hx hr m' a b C hC => ih k x r hx hr m' a b C hC) B hB
end Go.Proofs.YtgglccpckhpocaaDoor
