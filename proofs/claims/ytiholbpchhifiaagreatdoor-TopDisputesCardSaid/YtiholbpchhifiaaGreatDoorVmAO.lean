/-
Append at a slice that begins within its row.
Conditions: none. Generic: it speaks of no program.
-/
import Derived.Test.YtiholbpchhifiaaGreatDoorVmAM
namespace Go.Vm
set_option linter.unusedSimpArgs false
set_option linter.unusedVariables false

theorem rdCS_sub {o : Option Obj} {i N n k : Nat} {xs : List Value} (h : rdCS o i N = some xs.toArray) (hk : k + n ≤ N) : rdCS o (i + k) n = some ((xs.drop k).take n).toArray := by
  obtain ⟨cs, e, fr, rfl⟩ := rdCS_some h
  unfold rdCS at h ⊢
  simp only at h ⊢
  split at h
  · rename_i hle
    rw [if_pos (by omega)]
    congr 1
    apply Array.ext'
    have h1 := congrArg Array.toList (Option.some.inj h)
    simp only [Array.toList_extract, List.extract_eq_take_drop] at h1 ⊢
    rw [← h1, List.drop_take, List.take_take, List.drop_drop]
    congr 1
    omega
  · cases h
theorem StR.of_row {α : Type} {f : α → List Value} {n : Nat} (hf : ∀ x, (f x).length = n) {B : AH} {g off : Nat} {L : List α} (h : rdCS (look B g) off (L.length * n) = some (L.flatMap f).toArray) : StR f n B (some ⟨g, off, none⟩) L := by
  obtain ⟨cs, e, fr, hl⟩ := rdCS_some h
  refine .inr ⟨g, off, cs, e, fr, rfl, hl, fun i a hi => ?_⟩
  have hlt := (List.getElem?_eq_some_iff.1 hi).1
  rw [hl] at h
  have := rdCS_sub (k := i * n) (n := n) h (by rw [← Nat.succ_mul]; exact Nat.mul_le_mul_right _ hlt)
  rw [flat_at f n hf L i a hi] at this
  exact this
theorem append_off {P : Program} {t ty e : TypeId} {size bytes : Nat} {z : Value} {A : AH} {K : Value → AH → Prop} {n m c cap g off g1 off1 : Nat} {cur : Array Value} {xs news : List Value}
    (hs : slc P t = some (e, size, bytes)) (hz : zro P e = some z) (hzs : z.cells.size = size) (hsz : 0 < size)
    (hg : look A g = some (.cells cur e)) (hcap : off + cap * size ≤ cur.size) (hx : rdCS (some (.cells cur e)) off (n * size) = some xs.toArray)
    (hr : rdCS (look A g1) off1 (m * size) = some news.toArray) (h1 : ∀ u ∈ news, u.oneCell' = true) (hm : 0 < m)
    (h63 : n + m ≤ maxLen) (hbytes : (n + m) * bytes ≤ 140737488355328)
    (hK : ∀ g' off' cap' cs, rdCS (some (.cells cs e)) off' ((n + m) * size) = some (xs ++ news).toArray → (g' = g ∨ look A g' = none) → K (.slice (some ⟨g', off', none⟩) (n + m) cap') ([(g', .cells cs e)] ++ A)) :
    RunA P (Builtin.append_ #[t, t] ty #[.slice (some ⟨g, off, none⟩) n cap, .slice (some ⟨g1, off1, none⟩) m c]) A K := by
  have hxl := (rdCS_cell hx).1
  have hxe : (cur.toList.drop off).take (n * size) = xs := by
    have h2 := hx
    rw [rdCS_cells] at h2
    split at h2
    · have := congrArg Array.toList (Option.some.inj h2)
      simp only [Array.toList_extract, List.extract_eq_take_drop] at this
      rw [← this]
      congr 1
      omega
    · cases h2
  by_cases hroom : n + m ≤ cap
  · have hfit : off + (n + m) * size ≤ cur.size := Nat.le_trans (Nat.add_le_add_left (Nat.mul_le_mul_right _ hroom) _) hcap
    refine append_room hs hg hroom hfit (.inr ⟨g1, off1, rfl, hr⟩) h1 ?_
    refine hK g off cap _ ?_ (.inl rfl)
    obtain ⟨cc, ce, cfr, hlook⟩ := rdCS_some hr
    rw [hlook] at hr
    have hnl := (rdCS_cell hr).1
    have hcl : cur.toList.length = cur.size := by simp
    have hmul : (n + m) * size = n * size + m * size := Nat.add_mul ..
    rw [rdCS_cells, if_pos (by simp only [List.size_toArray, List.length_append, List.length_take, List.length_drop, hnl, hcl]; omega)]
    congr 1
    apply Array.ext'
    simp only [Array.toList_extract, List.extract_eq_take_drop]
    have e1 : (cur.toList.take (off + n * size)).drop off = xs := by rw [List.drop_take, ← hxe]; congr 1; omega
    have l1 : (cur.toList.take (off + n * size)).length = off + n * size := by rw [List.length_take, hcl]; omega
    rw [List.append_assoc, List.drop_append_of_le_length (by omega), e1, show off + (n + m) * size - off = (xs ++ news).length by rw [List.length_append, hxl, hnl]; omega, ← List.append_assoc, List.take_left]
  · intro h hA w hw
    subst hw
    obtain ⟨ht, i, hi, e1, e2⟩ := slc_out hs
    have hz' : i.zero = some z := by unfold zro at hz; rw [hi] at hz; exact hz
    simp only at e1 e2
    subst e1
    subst e2
    obtain ⟨cc, ce, cfr, hlook⟩ := rdCS_some hr
    rw [hlook] at hr
    obtain ⟨hl, hcell⟩ := rdCS_cell hr
    have hnews : ∀ j u, news[j]? = some u → w.cell? ((⟨g1, off1, none⟩ : Addr).add j) = some u := by
      intro j u hj
      rw [addr_add]
      have := hA _ _ hlook
      simp only [World.cell?, this]
      simpa using hcell j u hj
    have holds : ∀ j u, xs[j]? = some u → w.cell? ((⟨g, off, none⟩ : Addr).add j) = some u := by
      intro j u hj
      rw [addr_add]
      have := hA _ _ hg
      simp only [World.cell?, this]
      simpa using (rdCS_cell hx).2 j u hj
    have h63' : n + m ≤ 9223372036854775807 := by simp only [maxLen] at h63; omega
    have hr2 := run_append_grow (P := P) w t ty e i z ht hi hz' ⟨g, off, none⟩ n cap xs hxl holds ⟨g1, off1, none⟩ m c news hl hnews (by omega) (by omega) (growslice_fits (by omega) hbytes)
    refine ⟨_, _, hr2, ⟨rfl, rfl, rfl⟩, _, hA.push, Keep.push, ?_⟩
    refine hK _ 0 _ _ ?_ (.inr (hA.none_of_size (Nat.le_refl _)))
    have hge := grownCap_ge w (n + m) cap e
    have hmul : (n + m) * i.size = n * i.size + m * i.size := Nat.add_mul ..
    have hlen : (xs ++ news).length = (n + m) * i.size := by rw [List.length_append, hxl, hl, hmul]
    rw [rdCS_cells, if_pos (by simp only [Array.size_append, List.size_toArray, hxl, hl]; omega)]
    congr 1
    apply Array.ext'
    simp only [Array.toList_extract, List.extract_eq_take_drop, Array.toList_append, List.drop_zero, Nat.zero_add, Nat.sub_zero]
    rw [← hlen]
    exact List.take_left
end Go.Vm
