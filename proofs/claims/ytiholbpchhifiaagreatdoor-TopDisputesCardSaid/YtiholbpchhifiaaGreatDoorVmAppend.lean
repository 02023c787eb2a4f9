/-
Append, at a slice that the call owns; and what owning means over heaps.
Conditions: none. Generic: it speaks of no program.
-/
import Derived.Laws.AppendOwn
import Derived.Laws.OwnMore
import Derived.Test.YtiholbpchhifiaaGreatDoorVmOpen
namespace Go.Vm
set_option linter.unusedSimpArgs false
set_option linter.unusedVariables false

/-- The slice v has n elements, whose cells are xs; it is nil, or its row is one of the call's own: from block base on. -/
def OwnH (h : Heap) (base : Nat) (e : TypeId) (size : Nat) (v : Value) (n : Nat) (xs : List Value) : Prop :=
  World.ownsRow { (default : World) with heap := h } base e size v n xs
theorem ownH_world {w : World} {base : Nat} {e : TypeId} {size : Nat} {v : Value} {n : Nat} {xs : List Value} : OwnH w.heap base e size v n xs ↔ w.ownsRow base e size v n xs := Iff.rfl
/-- But for one row, every block that stood is as it was. -/
structure GrewB (h h' : Heap) (row : Option Nat) : Prop where
  le : h.size ≤ h'.size
  old : ∀ k, k < h.size → some k ≠ row → h'[k]? = h[k]?
theorem rw_append {P : Program} {t ty e : TypeId} {size bytes : Nat} {z : Value} {h : Heap} {K : Value → Heap → Prop} {base n m c : Nat} {v : Value} {xs news : List Value} {a : Addr}
    (hs : slc P t = some (e, size, bytes)) (hz : zro P e = some z) (hzs : z.cells.size = size) (hsz : 0 < size)
    (hown : OwnH h base e size v n xs) (hl : news.length = m * size) (hnews : ∀ j u, news[j]? = some u → cellH h (a.add j) = some u) (h1 : ∀ u ∈ news, u.oneCell' = true)
    (h63 : n + m ≤ maxLen) (hbytes : (n + m) * bytes ≤ 140737488355328) (hbase : base ≤ h.size)
    (hK : ∀ v' h', OwnH h' base e size v' (n + m) (xs ++ news) → GrewB h h' v.ownBlock → (v' = .slice none 0 0 ↔ v = .slice none 0 0 ∧ m = 0) → K v' h') :
    RunW P (Builtin.append_ #[t, t] ty #[v, .slice (some a) m c]) h K := by
  intro w hw
  subst hw
  obtain ⟨ht, i, hi, e1, e2⟩ := slc_out hs
  have hz' : i.zero = some z := by unfold zro at hz; rw [hi] at hz; exact hz
  obtain ⟨v', w', hr, h2, h3, h4⟩ := run_append_own w base t ty e i z size bytes ht hi hz' e1 e2 hzs hsz v n xs (ownH_world.1 hown) a m c news hl hnews h1 h63 hbytes hbase
  exact ⟨v', w', hr, ⟨h3.os, h3.tape, h3.output⟩, hK v' w'.heap (ownH_world.2 h2) ⟨h3.size, fun k hk hne => h3.block k hk hne⟩ h4⟩
theorem OwnH.nil (h : Heap) (base : Nat) (e : TypeId) (size : Nat) : OwnH h base e size (.slice none 0 0) 0 [] := World.ownsRow_nil _ base e size
/-- What an owned slice is. -/
theorem OwnH.out {h : Heap} {base : Nat} {e : TypeId} {size : Nat} {v : Value} {n : Nat} {xs : List Value} (o : OwnH h base e size v n xs) :
    xs.length = n * size ∧ ((v = .slice none 0 0 ∧ n = 0) ∨ ∃ g cap cur, v = .slice (some ⟨g, 0, none⟩) n cap ∧ base ≤ g ∧ h[g]? = some (.cells cur e) ∧ n ≤ cap ∧ cap ≤ maxLen ∧ cur.size = cap * size ∧ cur.toList.take (n * size) = xs) := o
theorem OwnH.of {h : Heap} {base : Nat} {e : TypeId} {size g n cap : Nat} {cur : Array Value} {xs : List Value} (hb : base ≤ g) (hg : h[g]? = some (.cells cur e)) (h1 : n ≤ cap) (h2 : cap ≤ maxLen) (h3 : cur.size = cap * size) (h4 : cur.toList.take (n * size) = xs) (h5 : xs.length = n * size) :
    OwnH h base e size (.slice (some ⟨g, 0, none⟩) n cap) n xs := ⟨h5, .inr ⟨g, cap, cur, rfl, hb, hg, h1, h2, h3, h4⟩⟩
theorem OwnH.row {h : Heap} {base : Nat} {e : TypeId} {size : Nat} {v : Value} {n : Nat} {xs : List Value} (o : OwnH h base e size v n xs) : ∀ k, v.ownBlock = some k → base ≤ k := fun k hk => (World.ownsRow.lt o k hk).1
theorem GrewB.grew {h0 h h' : Heap} {row : Option Nat} (g : Grew h0 h) (b : GrewB h h' row) (hr : ∀ k, row = some k → h0.size ≤ k) : Grew h0 h' :=
  ⟨Nat.le_trans g.le b.le, fun k hk => by
    rw [b.old k (Nat.lt_of_lt_of_le hk g.le) (fun e => by have := hr k e.symm; omega)]
    exact g.old k hk⟩
/-- Owned from block base on, and nothing from there on was touched. -/
theorem OwnH.grew {h h' : Heap} {base : Nat} {e : TypeId} {size : Nat} {v : Value} {n : Nat} {xs : List Value} (o : OwnH h base e size v n xs) (g : Grew h h') : OwnH h' base e size v n xs := by
  rcases o with ⟨h1, h2 | ⟨r, cap, cur, h3, h4, h5, h6⟩⟩
  · exact ⟨h1, .inl h2⟩
  · exact ⟨h1, .inr ⟨r, cap, cur, h3, h4, g.get h5, h6⟩⟩
theorem OwnH.mono {h : Heap} {base base' : Nat} {e : TypeId} {size : Nat} {v : Value} {n : Nat} {xs : List Value} (o : OwnH h base e size v n xs) (hb : base' ≤ base) : OwnH h base' e size v n xs := by
  rcases o with ⟨h1, h2 | ⟨r, cap, cur, h3, h4, h5⟩⟩
  · exact ⟨h1, .inl h2⟩
  · exact ⟨h1, .inr ⟨r, cap, cur, h3, Nat.le_trans hb h4, h5⟩⟩
theorem news_push (h : Heap) (xs : List Value) (e : TypeId) (fr : Nat × Nat) : ∀ (j : Nat) (u : Value), xs[j]? = some u → cellH (h.push (.cells xs.toArray e fr)) (Addr.add ⟨h.size, 0, none⟩ j) = some u := by
  intro j u hj
  rw [addr_add]
  simp [cellH, hj]
theorem news_at (h : Heap) (b : Nat) (hb : b = h.size) (xs : List Value) (e : TypeId) (fr : Nat × Nat) : ∀ (j : Nat) (u : Value), xs[j]? = some u → cellH (h.push (.cells xs.toArray e fr)) (Addr.add ⟨b, 0, none⟩ j) = some u := by
  subst hb
  exact news_push h xs e fr
theorem OwnH.slice {h : Heap} {base : Nat} {e : TypeId} {size : Nat} {v : Value} {n : Nat} {xs : List Value} (o : OwnH h base e size v n xs) : ∃ p cap, v = .slice p n cap := by
  rcases o with ⟨h1, ⟨rfl, rfl⟩ | ⟨r, cap, cur, rfl, h4⟩⟩
  · exact ⟨_, _, rfl⟩
  · exact ⟨_, _, rfl⟩
/-- The elements of an owned slice, to be read one by one. -/
theorem OwnH.read {h : Heap} {base : Nat} {e : TypeId} {size : Nat} {v : Value} {n : Nat} {xs : List Value} (o : OwnH h base e size v n xs) (hn : 0 < n) :
    ∃ g cap cur, v = .slice (some ⟨g, 0, none⟩) n cap ∧ base ≤ g ∧ h[g]? = some (.cells cur e) ∧ ∀ i, i < n → rdCS (some (.cells cur e)) (i * size) size = some ((xs.drop (i * size)).take size).toArray := by
  obtain ⟨h1, h2⟩ := o.out
  rcases h2 with ⟨_, h3⟩ | ⟨g, cap, cur, rfl, h3, h4, h5, h6, h7, h8⟩
  · omega
  · refine ⟨g, cap, cur, rfl, h3, h4, fun i hi => ?_⟩
    have e1 : i * size + size ≤ n * size := by rw [← Nat.succ_mul]; exact Nat.mul_le_mul_right _ hi
    have e2 : n * size ≤ cap * size := Nat.mul_le_mul_right _ h5
    rw [rdCS_cells, if_pos (by omega)]
    congr 1
    apply Array.ext'
    simp only [Array.toList_extract]
    rw [← h8]
    simp only [List.extract_eq_take_drop, List.drop_take, List.take_take]
    congr 1
    omega
theorem flat_at {α β : Type} (f : α → List β) (sz : Nat) (hf : ∀ x, (f x).length = sz) : ∀ (l : List α) (i : Nat) (x : α), l[i]? = some x → ((l.flatMap f).drop (i * sz)).take sz = f x
  | [], i, x, h => by simp at h
  | y :: l, 0, x, h => by
    simp only [List.getElem?_cons_zero, Option.some.injEq] at h
    subst h
    simp [List.take_left' (hf y)]
  | y :: l, i + 1, x, h => by
    have := flat_at f sz hf l i x (by simpa using h)
    rw [List.flatMap_cons, Nat.succ_mul, Nat.add_comm, ← List.drop_drop, List.drop_left' (hf y)]
    exact this
theorem flat_len {α β : Type} (f : α → List β) (sz : Nat) (hf : ∀ x, (f x).length = sz) : ∀ (l : List α), (l.flatMap f).length = l.length * sz
  | [] => by simp
  | y :: l => by simp [flat_len f sz hf l, hf, Nat.succ_mul, Nat.add_comm]
theorem same_nil (h h' : Heap) : Same [] h h' = True := eq_true (fun b hb => by cases hb)
theorem same_cons (b : Nat) (bl : List Nat) (h h' : Heap) : Same (b :: bl) h h' = (h'[b]? = h[b]? ∧ Same bl h h') := by
  apply propext
  exact ⟨fun hs => ⟨hs b (List.mem_cons_self ..), fun x hx => hs x (List.mem_cons_of_mem _ hx)⟩, fun ⟨h1, h2⟩ x hx => by
    rcases List.mem_cons.1 hx with rfl | hx
    · exact h1
    · exact h2 x hx⟩
theorem beq0 (a b : Int) : ((a == 0) = (b == 0)) = (a = 0 ↔ b = 0) := by
  apply propext
  rw [Bool.eq_iff_iff]
  simp only [beq_iff_eq]
theorem ups {b n : Nat} (h : b < n) : ((b = n) = False) ∧ ((n = b) = False) ∧ ((b < n) = True) ∧ ((b = n + 1) = False) ∧ ((n + 1 = b) = False) ∧ ((b < n + 1) = True) ∧ ((b = n + 1 + 1) = False) ∧ ((n + 1 + 1 = b) = False) ∧ ((b < n + 1 + 1) = True) ∧ ((b = n + 1 + 1 + 1) = False) ∧ ((n + 1 + 1 + 1 = b) = False) ∧ ((b < n + 1 + 1 + 1) = True) ∧ ((b = n + 1 + 1 + 1 + 1) = False) ∧ ((n + 1 + 1 + 1 + 1 = b) = False) ∧ ((b < n + 1 + 1 + 1 + 1) = True) ∧ ((b = n + 1 + 1 + 1 + 1 + 1) = False) ∧ ((n + 1 + 1 + 1 + 1 + 1 = b) = False) ∧ ((b < n + 1 + 1 + 1 + 1 + 1) = True) ∧ ((b = n + 1 + 1 + 1 + 1 + 1 + 1) = False) ∧ ((n + 1 + 1 + 1 + 1 + 1 + 1 = b) = False) ∧ ((b < n + 1 + 1 + 1 + 1 + 1 + 1) = True) ∧ ((b = n + 1 + 1 + 1 + 1 + 1 + 1 + 1) = False) ∧ ((n + 1 + 1 + 1 + 1 + 1 + 1 + 1 = b) = False) ∧ ((b < n + 1 + 1 + 1 + 1 + 1 + 1 + 1) = True) := ⟨eq_false (by omega), eq_false (by omega), eq_true (by omega), eq_false (by omega), eq_false (by omega), eq_true (by omega), eq_false (by omega), eq_false (by omega), eq_true (by omega), eq_false (by omega), eq_false (by omega), eq_true (by omega), eq_false (by omega), eq_false (by omega), eq_true (by omega), eq_false (by omega), eq_false (by omega), eq_true (by omega), eq_false (by omega), eq_false (by omega), eq_true (by omega), eq_false (by omega), eq_false (by omega), eq_true (by omega)⟩
theorem szE2 (a : Nat) : (a = a + 1 + 1) = False := by exact eq_false (by omega)
theorem szF2 (a : Nat) : (a + 1 + 1 = a) = False := by exact eq_false (by omega)
theorem szL2 (a : Nat) : (a < a + 1 + 1) = True := by exact eq_true (by omega)
theorem szE3 (a : Nat) : (a = a + 1 + 1 + 1) = False := by exact eq_false (by omega)
theorem szF3 (a : Nat) : (a + 1 + 1 + 1 = a) = False := by exact eq_false (by omega)
theorem szL3 (a : Nat) : (a < a + 1 + 1 + 1) = True := by exact eq_true (by omega)
theorem szE4 (a : Nat) : (a = a + 1 + 1 + 1 + 1) = False := by exact eq_false (by omega)
theorem szF4 (a : Nat) : (a + 1 + 1 + 1 + 1 = a) = False := by exact eq_false (by omega)
theorem szL4 (a : Nat) : (a < a + 1 + 1 + 1 + 1) = True := by exact eq_true (by omega)
theorem szE5 (a : Nat) : (a = a + 1 + 1 + 1 + 1 + 1) = False := by exact eq_false (by omega)
theorem szF5 (a : Nat) : (a + 1 + 1 + 1 + 1 + 1 = a) = False := by exact eq_false (by omega)
theorem szL5 (a : Nat) : (a < a + 1 + 1 + 1 + 1 + 1) = True := by exact eq_true (by omega)
theorem szE6 (a : Nat) : (a = a + 1 + 1 + 1 + 1 + 1 + 1) = False := by exact eq_false (by omega)
theorem szF6 (a : Nat) : (a + 1 + 1 + 1 + 1 + 1 + 1 = a) = False := by exact eq_false (by omega)
theorem szL6 (a : Nat) : (a < a + 1 + 1 + 1 + 1 + 1 + 1) = True := by exact eq_true (by omega)
theorem szE7 (a : Nat) : (a = a + 1 + 1 + 1 + 1 + 1 + 1 + 1) = False := by exact eq_false (by omega)
theorem szF7 (a : Nat) : (a + 1 + 1 + 1 + 1 + 1 + 1 + 1 = a) = False := by exact eq_false (by omega)
theorem szL7 (a : Nat) : (a < a + 1 + 1 + 1 + 1 + 1 + 1 + 1) = True := by exact eq_true (by omega)
theorem szE8 (a : Nat) : (a = a + 1 + 1 + 1 + 1 + 1 + 1 + 1 + 1) = False := by exact eq_false (by omega)
theorem szF8 (a : Nat) : (a + 1 + 1 + 1 + 1 + 1 + 1 + 1 + 1 = a) = False := by exact eq_false (by omega)
theorem szL8 (a : Nat) : (a < a + 1 + 1 + 1 + 1 + 1 + 1 + 1 + 1) = True := by exact eq_true (by omega)
theorem szE9 (a : Nat) : (a = a + 1 + 1 + 1 + 1 + 1 + 1 + 1 + 1 + 1) = False := by exact eq_false (by omega)
theorem szF9 (a : Nat) : (a + 1 + 1 + 1 + 1 + 1 + 1 + 1 + 1 + 1 = a) = False := by exact eq_false (by omega)
theorem szL9 (a : Nat) : (a < a + 1 + 1 + 1 + 1 + 1 + 1 + 1 + 1 + 1) = True := by exact eq_true (by omega)
theorem szE10 (a : Nat) : (a = a + 1 + 1 + 1 + 1 + 1 + 1 + 1 + 1 + 1 + 1) = False := by exact eq_false (by omega)
theorem szF10 (a : Nat) : (a + 1 + 1 + 1 + 1 + 1 + 1 + 1 + 1 + 1 + 1 = a) = False := by exact eq_false (by omega)
theorem szL10 (a : Nat) : (a < a + 1 + 1 + 1 + 1 + 1 + 1 + 1 + 1 + 1 + 1) = True := by exact eq_true (by omega)
theorem szS : type_of% (And.intro @szE2 (And.intro @szF2 (And.intro @szL2 (And.intro @szE3 (And.intro @szF3 (And.intro @szL3 (And.intro @szE4 (And.intro @szF4 (And.intro @szL4 (And.intro @szE5 (And.intro @szF5 (And.intro @szL5 (And.intro @szE6 (And.intro @szF6 (And.intro @szL6 (And.intro @szE7 (And.intro @szF7 (And.intro @szL7 (And.intro @szE8 (And.intro @szF8 (And.intro @szL8 (And.intro @szE9 (And.intro @szF9 (And.intro @szL9 (And.intro @szE10 (And.intro @szF10 (@szL10))))))))))))))))))))))))))) := And.intro @szE2 (And.intro @szF2 (And.intro @szL2 (And.intro @szE3 (And.intro @szF3 (And.intro @szL3 (And.intro @szE4 (And.intro @szF4 (And.intro @szL4 (And.intro @szE5 (And.intro @szF5 (And.intro @szL5 (And.intro @szE6 (And.intro @szF6 (And.intro @szL6 (And.intro @szE7 (And.intro @szF7 (And.intro @szL7 (And.intro @szE8 (And.intro @szF8 (And.intro @szL8 (And.intro @szE9 (And.intro @szF9 (And.intro @szL9 (And.intro @szE10 (And.intro @szF10 (@szL10))))))))))))))))))))))))))
theorem vmStd : type_of% (And.intro @List.append_eq.{0} (And.intro @szS (And.intro @Nat.zero_mul (And.intro @List.toList_toArray.{0} (And.intro @Option.some.injEq.{0} (And.intro @Prod.mk.injEq.{0,0} (And.intro @Bool.false_eq_true (And.intro @Bool.true_eq_false (And.intro @and_self (And.intro @and_true (And.intro @true_and (And.intro @and_false (And.intro @false_and (And.intro @or_false (And.intro @or_true (And.intro @false_or (And.intro @true_or (And.intro @Bool.and_self (And.intro @Bool.and_true (And.intro @Bool.true_and (And.intro @Bool.false_and (And.intro @Bool.and_false (And.intro @Bool.false_or (And.intro @Bool.or_false (And.intro @Bool.true_or (And.intro @Bool.or_true (And.intro @Bool.not_true (And.intro @Bool.not_false (And.intro @not_false_eq_true (And.intro @not_true_eq_false (And.intro @ne_eq.{1} (And.intro @decide_true (And.intro @decide_false (And.intro @decide_eq_true_eq (And.intro @List.cons_append.{0} (And.intro @List.nil_append.{0} (And.intro @List.length_cons.{0} (And.intro @List.length_nil.{0} (And.intro @List.size_toArray.{0} (And.intro @List.setIfInBounds_toArray.{0} (And.intro @List.set_cons_zero.{0} (And.intro @List.set_cons_succ.{0} (And.intro @List.getElem?_toArray.{0} (And.intro @List.getElem?_cons_zero.{0} (And.intro @List.getElem?_cons_succ.{0} (And.intro @List.extract_toArray.{0} (And.intro @List.extract_eq_take_drop.{0} (And.intro @List.drop_zero.{0} (And.intro @List.drop_succ_cons.{0} (And.intro @List.drop_nil.{0} (And.intro @List.take_zero.{0} (And.intro @List.take_succ_cons.{0} (And.intro @List.take_nil.{0} (And.intro @Nat.zero_add (And.intro @Nat.add_zero (And.intro @Array.size_push.{0} (And.intro @Int.natCast_nonneg (And.intro @Int.toNat_natCast (And.intro @Int.cast_ofNat_Int (And.intro @Option.map_some.{0,0} (And.intro @Option.map_none.{0,0} (And.intro @Int.le_refl (And.intro @Int.toNat_zero (And.intro @beq_false (And.intro @beq_true (And.intro @bne_self_eq_false.{0} (And.intro @beq_self_eq_true.{0} (And.intro @Bool.not_eq_false' (And.intro @beq_eq_false_iff_ne.{0} (And.intro @Int.lt_irrefl (And.intro @Nat.lt_irrefl (And.intro @getP (And.intro @getS (And.intro @setP (And.intro @setS (And.intro @sizeS (And.intro @Nat.left_eq_add (And.intro @Nat.add_eq_left (And.intro @Nat.add_right_cancel_iff (And.intro @Nat.add_left_cancel_iff (And.intro @Nat.lt_add_one (And.intro @Nat.succ_ne_self (And.intro @Nat.one_ne_zero (And.intro @nil_str (And.intro @Option.isNone_some.{0} (And.intro @Option.isNone_none.{0} (And.intro @Option.isSome_some.{0} (And.intro @Option.isSome_none.{0} (And.intro @Bool.not_eq_true' (And.intro @decide_eq_false_iff_not (And.intro @Bool.or_eq_true (And.intro @Bool.and_eq_true (And.intro @beq_iff_eq.{0} (@bne_iff_ne.{0})))))))))))))))))))))))))))))))))))))))))))))))))))))))))))))))))))))))))))))))))))))))))))))) := And.intro @List.append_eq.{0} (And.intro @szS (And.intro @Nat.zero_mul (And.intro @List.toList_toArray.{0} (And.intro @Option.some.injEq.{0} (And.intro @Prod.mk.injEq.{0,0} (And.intro @Bool.false_eq_true (And.intro @Bool.true_eq_false (And.intro @and_self (And.intro @and_true (And.intro @true_and (And.intro @and_false (And.intro @false_and (And.intro @or_false (And.intro @or_true (And.intro @false_or (And.intro @true_or (And.intro @Bool.and_self (And.intro @Bool.and_true (And.intro @Bool.true_and (And.intro @Bool.false_and (And.intro @Bool.and_false (And.intro @Bool.false_or (And.intro @Bool.or_false (And.intro @Bool.true_or (And.intro @Bool.or_true (And.intro @Bool.not_true (And.intro @Bool.not_false (And.intro @not_false_eq_true (And.intro @not_true_eq_false (And.intro @ne_eq.{1} (And.intro @decide_true (And.intro @decide_false (And.intro @decide_eq_true_eq (And.intro @List.cons_append.{0} (And.intro @List.nil_append.{0} (And.intro @List.length_cons.{0} (And.intro @List.length_nil.{0} (And.intro @List.size_toArray.{0} (And.intro @List.setIfInBounds_toArray.{0} (And.intro @List.set_cons_zero.{0} (And.intro @List.set_cons_succ.{0} (And.intro @List.getElem?_toArray.{0} (And.intro @List.getElem?_cons_zero.{0} (And.intro @List.getElem?_cons_succ.{0} (And.intro @List.extract_toArray.{0} (And.intro @List.extract_eq_take_drop.{0} (And.intro @List.drop_zero.{0} (And.intro @List.drop_succ_cons.{0} (And.intro @List.drop_nil.{0} (And.intro @List.take_zero.{0} (And.intro @List.take_succ_cons.{0} (And.intro @List.take_nil.{0} (And.intro @Nat.zero_add (And.intro @Nat.add_zero (And.intro @Array.size_push.{0} (And.intro @Int.natCast_nonneg (And.intro @Int.toNat_natCast (And.intro @Int.cast_ofNat_Int (And.intro @Option.map_some.{0,0} (And.intro @Option.map_none.{0,0} (And.intro @Int.le_refl (And.intro @Int.toNat_zero (And.intro @beq_false (And.intro @beq_true (And.intro @bne_self_eq_false.{0} (And.intro @beq_self_eq_true.{0} (And.intro @Bool.not_eq_false' (And.intro @beq_eq_false_iff_ne.{0} (And.intro @Int.lt_irrefl (And.intro @Nat.lt_irrefl (And.intro @getP (And.intro @getS (And.intro @setP (And.intro @setS (And.intro @sizeS (And.intro @Nat.left_eq_add (And.intro @Nat.add_eq_left (And.intro @Nat.add_right_cancel_iff (And.intro @Nat.add_left_cancel_iff (And.intro @Nat.lt_add_one (And.intro @Nat.succ_ne_self (And.intro @Nat.one_ne_zero (And.intro @nil_str (And.intro @Option.isNone_some.{0} (And.intro @Option.isNone_none.{0} (And.intro @Option.isSome_some.{0} (And.intro @Option.isSome_none.{0} (And.intro @Bool.not_eq_true' (And.intro @decide_eq_false_iff_not (And.intro @Bool.or_eq_true (And.intro @Bool.and_eq_true (And.intro @beq_iff_eq.{0} (@bne_iff_ne.{0})))))))))))))))))))))))))))))))))))))))))))))))))))))))))))))))))))))))))))))))))))))))))))))
end Go.Vm
