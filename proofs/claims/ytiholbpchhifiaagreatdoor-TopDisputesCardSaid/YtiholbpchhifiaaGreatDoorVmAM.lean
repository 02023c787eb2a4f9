/-
Maps with string keys over known blocks; writing at a block that is known somewhere.
Conditions: none. Generic: it speaks of no program.
-/
import Derived.Test.YtiholbpchhifiaaGreatDoorVmAL
namespace Go.Vm
set_option linter.unusedSimpArgs false
set_option linter.unusedVariables false

theorem put_sat {A : AH} {h : Heap} {r : Nat} {o u : Obj} (hA : Sat A h) (hr : look A r = some o) : Sat (putB A r u) (h.setIfInBounds r u) ∧ Keep A h (putB A r u) (h.setIfInBounds r u) := by
  have hlt := hA.lt hr
  refine ⟨fun b w hl => ?_, ⟨by simp, fun b hb hn => ?_⟩⟩
  · rw [look_putB] at hl
    split at hl
    · rename_i e
      subst e
      rw [hr] at hl
      cases hl
      simp [hlt]
    · rename_i e
      rw [Array.getElem?_setIfInBounds, if_neg (fun x => e x.symm)]
      exact hA b w hl
  · have hbr : ¬ b = r := fun e => by rw [e, hr] at hn; cases hn
    refine ⟨by rw [Array.getElem?_setIfInBounds, if_neg (fun x => hbr x.symm)], ?_⟩
    rw [look_putB, if_neg hbr]
    exact hn
/-- What lies elsewhere stays known. -/
theorem SubA.put {X A : AH} {r : Nat} {u : Obj} (h : SubA X A) (hr : look X r = Option.none) : SubA X (putB A r u) := fun b o hl => by
  rw [look_putB]
  rw [if_neg (fun e => by rw [e, hr] at hl; cases hl)]
  exact h b o hl
theorem look_put_ne {A : AH} {r b : Nat} {u : Obj} (h : ¬ b = r) : look (putB A r u) b = look A b := by rw [look_putB, if_neg h]
theorem look_put {A : AH} {r : Nat} {o u : Obj} (h : look A r = some o) : look (putB A r u) r = some u := by rw [look_putB, if_pos rfl, h]; rfl
theorem put_none {A : AH} {r b : Nat} {u : Obj} (h : look A b = none) : look (putB A r u) b = none := by rw [look_putB]; split <;> simp [h]
section
variable {P : Program} {t kt et : TypeId} {r cl : Nat} {es : Array MapEntry} {m : SMap} {s : ByteArray} {A : AH}
theorem rdA_lookup {ok : Bool} {z : Value} (ht : P.underlying t = some (.map kt et)) (hk : P.underlying kt = some .string) (hz : zro P et = some z) (hr : look A r = some (.map es cl)) (hm : MapIs es m) :
    readA P (Instr.lookup t (.map (some r)) (.string s) ok) A = some (if ok then .tuple #[(lookM m s).getD z, .bool (lookM m s).isSome] else (lookM m s).getD z) := by
  refine readA_eq fun w hw => ?_
  have hr := hw _ _ hr
  have hc : ∀ b, (Instr.checkKey b 10000 kt (.string s)).run P w = .ok () w := fun b => MapKept.run_checkKey (k := .string s) hk (by simp [MapKept.IsKey]) b 9999
  have hf := MapKept.run_findKey (w := w) hk (findNow_posM s es.toList m 0 hm)
  have hzv : (zeroValue et).run P w = .ok z w := zro_run hz
  cases hp : posM m s with
  | none =>
    rw [hp] at hf
    cases ok <;> simp [Instr.lookup, run_underlying ht, MapKept.run_getObj_map hr, hc, hf, lookM, hp, hzv, Result.andThen]
  | some p =>
    rw [hp] at hf
    cases ok <;> simp [Instr.lookup, run_underlying ht, MapKept.run_getObj_map hr, hc, hf, lookM, hp, Result.andThen]
theorem rdA_lookup_nil {ok : Bool} {z : Value} (ht : P.underlying t = some (.map kt et)) (hk : P.underlying kt = some .string) (hz : zro P et = some z) :
    readA P (Instr.lookup t (.map none) (.string s) ok) A = some (if ok then .tuple #[z, .bool false] else z) := by
  refine readA_eq fun w hw => ?_
  have hc : ∀ b, (Instr.checkKey b 10000 kt (.string s)).run P w = .ok () w := fun b => MapKept.run_checkKey (k := .string s) hk (by simp [MapKept.IsKey]) b 9999
  have hzv : (zeroValue et).run P w = .ok z w := zro_run hz
  have hf := MapKept.run_findKey (w := w) hk (findNow_posM s [] [] 0 rfl)
  simp only [posM, Option.map_none] at hf
  cases ok <;> simp [Instr.lookup, run_underlying ht, hc, hf, hzv, Result.andThen]
variable {K : Value → AH → Prop}
theorem runA_of {sm : Sem Value} (H : ∀ h, Sat A h → RunW P sm h fun v h' => ∃ A', Sat A' h' ∧ Keep A h A' h' ∧ K v A') : RunA P sm A K := H
theorem rA_update {v : Value} (ht : P.underlying t = some (.map kt et)) (hk : P.underlying kt = some .string) (hr : look A r = some (.map es cl)) (hm : MapIs es m)
    (hK : ∀ es' cl', MapIs es' (updM m s v) → K undef (putB A r (.map es' cl'))) : RunA P (do Instr.mapUpdate t (.map (some r)) (.string s) v; Pure.pure undef) A K := fun h hA =>
  rw_update ht hk (hA _ _ hr) hm fun es' cl' h1 => ⟨_, (put_sat hA hr).1, (put_sat hA hr).2, hK es' cl' h1⟩
theorem rA_delete {ty : TypeId} {ts : Array TypeId} (hts : ts[0]? = some t) (ht : P.underlying t = some (.map kt et)) (hk : P.underlying kt = some .string) (hr : look A r = some (.map es cl)) (hm : MapIs es m)
    (hK : ∀ es' cl', MapIs es' (delM m s) → K (.tuple #[]) (putB A r (.map es' cl'))) : RunA P (Builtin.delete_ ts ty #[.map (some r), .string s]) A K := fun h hA =>
  rw_delete hts ht hk (hA _ _ hr) hm fun es' cl' h1 => ⟨_, (put_sat hA hr).1, (put_sat hA hr).2, hK es' cl' h1⟩
end
/-! ### What is known behind a call, chosen anew -/
/-- A call that changes what it knows: what lies elsewhere stays; of what it leaves the wanted part is kept. -/
theorem CallA.use {P : Program} {g : FuncId} {args : Array Value} {A A0 : AH} {K0 K : Value → AH → Prop} (hc : CallA P g args A0 K0) (hs : SubA A0 A) (h0 : ∀ v D, K0 v D → ∀ b, look A0 b ≠ none → look D b ≠ none)
    (X : AH) (hX : SubA X A) (hd : Dis A0 X) (hk : ∀ v D, K0 v D → Dis D X → ∃ E, SubA E D ∧ K v (E ++ X)) : CallA P g args A K := by
  have hf : CallA P g args A fun v A' => ∃ A'', SubA A'' A' ∧ K v A'' := by
    refine CallA.frame hc hs fun v D hv => ⟨h0 v D hv, fun hx => ?_⟩
    have dD : Dis D X := fun x hx1 => by
      cases hd1 : look D x with
      | none => rfl
      | some o =>
        have := hx x (by rw [hd1]; simp) (hd x hx1)
        exact absurd (hX.none this) hx1
    obtain ⟨E, h1, h2⟩ := hk v D hv dD
    exact ⟨E ++ X, SubA.both (fun b o hl => SubA.left _ _ b o (h1 b o hl)) (dD.sub hX), h2⟩
  intro h hA
  have := hf h hA
  unfold RunC at this ⊢
  have mono : ∀ e h', ResA A h (fun v A' => ∃ A'', SubA A'' A' ∧ K v A'') e h' → ResA A h K e h' := by
    rintro e h' ⟨v, A', h1, h2, h3, A'', h4, h5⟩
    exact ⟨v, A'', h1, h2.sub h4, h3.sub h4, h5⟩
  split
  · rename_i hcal
    rw [if_pos hcal] at this
    exact this.mono0 mono
  · rename_i hcal
    rw [if_neg hcal] at this
    intro w hw
    obtain ⟨v, w', r1, r2, r3⟩ := this w hw
    exact ⟨v, w', r1, r2, mono _ _ r3⟩
theorem RunA.use {P : Program} {s : Sem Value} {A : AH} {K : Value → AH → Prop} (hr : RunA P s A fun v A' => ∃ A'', SubA A'' A' ∧ K v A'') : RunA P s A K := fun h hA w hw => by
  obtain ⟨v, w', r1, r2, A', h1, h2, A'', h3, h4⟩ := hr h hA w hw
  exact ⟨v, w', r1, r2, A'', h1.sub h3, h2.sub h3, h4⟩
theorem Dis.subl {D E X : AH} (d : Dis D X) (h : SubA E D) : Dis E X := fun x hx => h.none (d x hx)
/-! ### Rows -/
theorem row_sat {w : World} {A : AH} {g : Nat} {cur cs : Array Value} {e : TypeId} (hA : Sat A w.heap) (hg : look A g = some (.cells cur e)) :
    Sat ([(g, .cells cs e)] ++ A) (w.setRow g cs).heap ∧ Keep A w.heap ([(g, .cells cs e)] ++ A) (w.setRow g cs).heap := by
  have hgb := hA g _ hg
  refine ⟨fun b o hl2 => ?_, ⟨by simp [World.setRow], fun b hb hl2 => ?_⟩⟩
  · simp only [List.cons_append, List.nil_append, look] at hl2
    split at hl2
    · rename_i e1
      subst e1
      rw [← hl2]
      exact setRow_heap w g cur _ e _ hgb
    · rename_i e1
      rw [setRow_other w g b _ (fun h => e1 h.symm)]
      exact hA b o hl2
  · have hne : b ≠ g := fun h => by rw [h, hg] at hl2; cases hl2
    refine ⟨setRow_other w g b _ hne, ?_⟩
    simp only [List.cons_append, List.nil_append, look]
    rw [if_neg (fun h => hne h.symm), hl2]
/-- Append where there is room: in place. -/
theorem append_room {P : Program} {t ty e : TypeId} {size bytes : Nat} {A : AH} {K : Value → AH → Prop} {n m c cap g off : Nat} {q : Option Addr} {cur : Array Value} {news : List Value}
    (hs : slc P t = some (e, size, bytes)) (hg : look A g = some (.cells cur e)) (hroom : n + m ≤ cap) (hfit : off + (n + m) * size ≤ cur.size)
    (hr : (m = 0 ∧ news = []) ∨ ∃ g' off', q = some ⟨g', off', none⟩ ∧ rdCS (look A g') off' (m * size) = some news.toArray) (h1 : ∀ u ∈ news, u.oneCell' = true)
    (hK : K (.slice (some ⟨g, off, none⟩) (n + m) cap) ([(g, .cells (cur.toList.take (off + n * size) ++ news ++ cur.toList.drop (off + n * size + news.length)).toArray e)] ++ A)) :
    RunA P (Builtin.append_ #[t, t] ty #[.slice (some ⟨g, off, none⟩) n cap, .slice q m c]) A K := by
  intro h hA w hw
  subst hw
  obtain ⟨ht, i, hi, e1, e2⟩ := slc_out hs
  simp only at e1 e2
  subst e1
  subst e2
  have hgb := hA g _ hg
  by_cases hm : m = 0
  · have hn : news = [] := by
      rcases hr with hr | ⟨g', off', _, hr⟩
      · exact hr.2
      · obtain ⟨cc, ce, cfr, hlook⟩ := rdCS_some hr
        rw [hlook] at hr
        obtain ⟨hl, _⟩ := rdCS_cell hr
        exact List.eq_nil_of_length_eq_zero (by rw [hl, hm]; simp)
    subst hm
    subst hn
    have hk : n ≤ cap := by omega
    have e3 : (cur.toList.take (off + n * i.size) ++ [] ++ cur.toList.drop (off + n * i.size + 0)).toArray = cur := by simp
    refine ⟨_, w, ?_, ⟨rfl, rfl, rfl⟩, _, ?_, ?_, hK⟩
    · cases q <;> simp [Builtin.append_, run_underlying ht, sizeOf, typeInfo, hi, Builtin.lenOf, Builtin.firstCells, loadCells, loadCellsFrom, hk, storeCells]
    · simp only [List.length_nil]
      rw [e3]
      exact Sat.both (fun b o hl => by
        simp only [look] at hl
        split at hl
        · rename_i e4; subst e4; cases hl; exact hgb
        · cases hl) hA
    · refine ⟨Nat.le_refl _, fun b hb hl => ⟨rfl, ?_⟩⟩
      simp only [List.cons_append, List.nil_append, look]
      rw [if_neg (fun e4 => by rw [← e4, hg] at hl; cases hl), hl]
  · obtain ⟨g', off', rfl, hr2⟩ : ∃ g' off', q = some ⟨g', off', none⟩ ∧ rdCS (look A g') off' (m * i.size) = some news.toArray := by
      rcases hr with hr | hr
      · exact absurd hr.1 hm
      · exact hr
    clear hr
    have hr := hr2
    clear hr2
    obtain ⟨cc, ce, cfr, hlook⟩ := rdCS_some hr
    rw [hlook] at hr
    obtain ⟨hl, hcell⟩ := rdCS_cell hr
    have hnews : ∀ j u, news[j]? = some u → w.cell? ((⟨g', off', none⟩ : Addr).add j) = some u := by
      intro j u hj
      rw [addr_add]
      have := hA _ _ hlook
      simp only [World.cell?, this]
      simpa using hcell j u hj
    have hf := run_firstCells_some (P := P) w i.size m ⟨g', off', none⟩ m c news hl hnews
    have hst := run_storeCells_at P g (off + n * i.size) e news 0 cur w hgb (by rw [Nat.add_mul] at hfit; rw [hl]; omega) h1
    simp only [Nat.add_zero] at hst
    refine ⟨_, (w.setRow g (cur.toList.take (off + n * i.size) ++ news ++ cur.toList.drop (off + n * i.size + news.length)).toArray), ?_, ⟨rfl, rfl, rfl⟩, _, (row_sat hA hg).1, (row_sat hA hg).2, hK⟩
    simp [Builtin.append_, run_underlying ht, sizeOf, typeInfo, hi, Builtin.lenOf, hroom, hf, Addr.add_lit, hst]
theorem rA_clear {P : Program} {t ty e ce : TypeId} {size bytes : Nat} {z : Value} {A : AH} {K : Value → AH → Prop} {n c g off : Nat} {cur : Array Value}
    (hs : slc P t = some (e, size, bytes)) (hz : zro P e = some z) (hz1 : ∀ u ∈ z.cells.toList, u.oneCell' = true) (hg : look A g = some (.cells cur ce)) (hfit : off + n * z.cells.size ≤ cur.size)
    (hK : K (.tuple #[]) ([(g, .cells (cur.toList.take off ++ (Builtin.zeroCells z.cells n).toList ++ cur.toList.drop (off + n * z.cells.size)).toArray ce)] ++ A)) :
    RunA P (Builtin.clear_ #[t] ty #[.slice (some ⟨g, off, none⟩) n c]) A K := by
  intro h hA w hw
  subst hw
  obtain ⟨ht, i, hi, e1, e2⟩ := slc_out hs
  simp only at e1 e2
  have hgb := hA g _ hg
  have hzv : (zeroValue e).run P w = .ok z w := zro_run hz
  have hl : (Builtin.zeroCells z.cells n).toList.length = n * z.cells.size := by simp [Builtin.zeroCells]
  have h1 : ∀ u ∈ (Builtin.zeroCells z.cells n).toList, u.oneCell' = true := by
    intro u hu
    simp only [Builtin.zeroCells, Array.mem_toList_iff, Array.mem_map, Array.mem_range] at hu
    obtain ⟨j, hj, rfl⟩ := hu
    have hp : 0 < z.cells.size := by
      cases hz0 : z.cells.size with
      | zero => rw [hz0] at hj; simp at hj
      | succ k => omega
    have hlt : j % z.cells.size < z.cells.size := Nat.mod_lt _ hp
    rw [getElem!_pos z.cells (j % z.cells.size) hlt]
    exact hz1 _ (by simp)
  have hst := run_storeCells_at P g off ce (Builtin.zeroCells z.cells n).toList 0 cur w hgb (by rw [hl]; simpa using hfit) h1
  simp only [Nat.add_zero, hl] at hst
  refine ⟨_, (w.setRow g (cur.toList.take off ++ (Builtin.zeroCells z.cells n).toList ++ cur.toList.drop (off + n * z.cells.size)).toArray), ?_, ⟨rfl, rfl, rfl⟩, _, (row_sat hA hg).1, (row_sat hA hg).2, hK⟩
  cases n with
  | zero =>
    have e3 : (cur.toList.take off ++ (Builtin.zeroCells z.cells 0).toList ++ cur.toList.drop (off + 0 * z.cells.size)).toArray = cur := by simp [Builtin.zeroCells]
    rw [e3, setRow_self w g cur ce (0, 0) hgb]
    simp [Builtin.clear_, run_underlying ht]
  | succ n =>
    simp [Builtin.clear_, run_underlying ht, hzv, hst]
theorem mapIs_size {es : Array MapEntry} {m : SMap} (h : MapIs es m) : es.size = m.length := by
  have := congrArg List.length h
  simpa using this
end Go.Vm
