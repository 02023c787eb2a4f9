/-
Rules for the operations whose meaning stands in the model's own terms (ranges over strings), and how heaps grow.
Conditions: none. Generic: it speaks of no program.
-/
import Derived.Laws.RangeAny
import Derived.Laws.Externs
import Derived.Below
import Derived.Test.YtiholbpchhifiaaGreatDoorVmHeld
namespace Go.Vm
set_option linter.unusedSimpArgs false
set_option linter.unusedVariables false

/-- Every block that stood is as it was. -/
structure Grew (h h' : Heap) : Prop where
  le : h.size ≤ h'.size
  old : ∀ k, k < h.size → h'[k]? = h[k]?
theorem Grew.refl (h : Heap) : Grew h h := ⟨Nat.le_refl _, fun _ _ => rfl⟩
theorem Grew.trans {a b c : Heap} (h : Grew a b) (k : Grew b c) : Grew a c := ⟨Nat.le_trans h.le k.le, fun i hi => (k.old i (Nat.lt_of_lt_of_le hi h.le)).trans (h.old i hi)⟩
theorem Grew.push (h : Heap) (o : Obj) : Grew h (h.push o) := ⟨by simp, fun k hk => by simp [Array.getElem?_push, Nat.ne_of_lt hk]⟩
theorem Grew.pushed {h h' : Heap} (e : Grew h h') (o : Obj) : Grew h (h'.push o) := e.trans (.push h' o)
theorem Grew.set {h h' : Heap} (e : Grew h h') {k : Nat} (hk : h.size ≤ k) (o : Obj) : Grew h (h'.setIfInBounds k o) := ⟨by simpa using e.le, fun i hi => by
  rw [Array.getElem?_setIfInBounds_ne (by omega)]; exact e.old i hi⟩
theorem Grew.get {h h' : Heap} (e : Grew h h') {k : Nat} {o : Obj} (hk : h[k]? = some o) : h'[k]? = some o := by
  rw [e.old k (Array.getElem?_eq_some_iff.1 hk).1, hk]
theorem lt_of_get {h : Heap} {k : Nat} {o : Obj} (hk : h[k]? = some o) : k < h.size := (Array.getElem?_eq_some_iff.1 hk).1
theorem set_get {h : Heap} {k : Nat} {o : Obj} (hk : h[k]? = some o) : h.setIfInBounds k o = h := by
  apply Array.ext'
  simp only [Array.toList_setIfInBounds]
  apply List.ext_getElem?
  intro i
  rw [List.getElem?_set]
  split
  · rename_i e; subst e
    have h1 := lt_of_get hk
    rw [if_pos (by simpa using h1)]
    simpa using hk.symm
  · rfl
theorem below_of_grew {w w' : World} (e : Grew w.heap w'.heap) (r : Rest w w') : RowKit.Below w.heap.size w w' := ⟨r.1, r.2.1, r.2.2, e.le, e.old⟩

theorem rw_range_string {P : Program} {t : TypeId} {s : ByteArray} {h : Heap} {K : Value → Heap → Prop} (ht : P.underlying t = some .string)
    (hK : K (.pointer (some ⟨h.size, 0, none⟩)) (h.push (.stringIter s 0))) : RunW P (Instr.range t (.string s)) h K := by
  intro w hw
  subst hw
  refine ⟨_, { w with heap := w.heap.push (.stringIter s 0) }, ?_, ⟨rfl, rfl, rfl⟩, hK⟩
  simp [Instr.range, underlying, ht, newObj, Sem.run, Result.andThen]
theorem rw_next_string {P : Program} {ty : TypeId} {s : ByteArray} {h : Heap} {K : Value → Heap → Prop} {r pos : Nat} (hr : h[r]? = some (.stringIter s pos))
    (hK : if pos < s.size then K (.tuple #[.bool true, .int .i64 pos, .int .i32 (Utf8.decode s pos).1]) (h.setIfInBounds r (.stringIter s (pos + (Utf8.decode s pos).2))) else K (.tuple #[.bool false]) h) : RunW P (Instr.next (.pointer (some ⟨r, 0, none⟩)) true ty) h K := by
  intro w hw
  subst hw
  split at hK
  · rename_i hp
    refine ⟨_, { w with heap := w.heap.setIfInBounds r (.stringIter s (pos + (Utf8.decode s pos).2)) }, ?_, ⟨rfl, rfl, rfl⟩, hK⟩
    simp only [Instr.next, getObj, setObj, Sem.run_bind, Sem.run, Result.andThen, hr, hp, if_true]
    simp [goInt, Sem.run, Result.andThen]
  · rename_i hp
    refine ⟨_, w, ?_, ⟨rfl, rfl, rfl⟩, hK⟩
    simp only [Instr.next, getObj, setObj, Sem.run_bind, Sem.run, Result.andThen, hr, hp, if_false]
    simp [goInt]
theorem get_mem : ∀ (ρ : Env) (t : Nat) (v : Value), get ρ t = some v → (t, some v) ∈ ρ
  | [], _, _, h => by cases h
  | (s, u) :: ρ, t, v, h => by
    unfold get at h
    split at h
    · rename_i e; subst e; subst h; exact List.mem_cons_self ..
    · exact List.mem_cons_of_mem _ (get_mem ρ t v h)
def subE : Env → Env → Prop
  | [], _ => True
  | (s, v) :: ρ, ρ' => get ρ' s = v ∧ subE ρ ρ'
theorem subE_mem {ρ' : Env} : ∀ {ρ : Env}, subE ρ ρ' → ∀ p ∈ ρ, get ρ' p.1 = p.2
  | [], _, _, h => by cases h
  | (s, v) :: ρ, hs, p, h => by
    rcases List.mem_cons.1 h with rfl | h
    · exact hs.1
    · exact subE_mem hs.2 p h
theorem LoopAt.weak {c : Cx} {body : Code} {k : List It} {ρ ρ' : Env} {h : Heap} (hl : @LoopAt c body k ρ h ()) (hs : subE ρ ρ') : @LoopAt c body k ρ' h () :=
  fun hf b a w h1 h2 hk hw => hl hf b a w h1 h2 ⟨hk.1, hk.2.1, fun t v ht => hk.2.2 t v (subE_mem hs _ (get_mem ρ t v ht))⟩ hw
theorem w_i64 {n : Int} (h1 : -9223372036854775808 ≤ n) (h2 : n < 9223372036854775808) : IntKind.i64.wrap n = n := by
  simp only [IntKind.wrap, IntKind.bits, IntKind.signed, Bool.true_and, Nat.reduceSub]
  split <;> rename_i h <;> simp at h <;> omega
theorem wd_i64 (n : Int) : IntKind.i64.wrap n = if n % 18446744073709551616 ≥ 9223372036854775808 then n % 18446744073709551616 - 18446744073709551616 else n % 18446744073709551616 := by
  simp only [IntKind.wrap, IntKind.bits, IntKind.signed, Bool.true_and, Nat.reduceSub]
  split <;> rename_i h <;> simp at h <;> split <;> omega
theorem w_i32 {n : Int} (h1 : -2147483648 ≤ n) (h2 : n < 2147483648) : IntKind.i32.wrap n = n := by
  simp only [IntKind.wrap, IntKind.bits, IntKind.signed, Bool.true_and, Nat.reduceSub]
  split <;> rename_i h <;> simp at h <;> omega
theorem wd_i32 (n : Int) : IntKind.i32.wrap n = if n % 4294967296 ≥ 2147483648 then n % 4294967296 - 4294967296 else n % 4294967296 := by
  simp only [IntKind.wrap, IntKind.bits, IntKind.signed, Bool.true_and, Nat.reduceSub]
  split <;> rename_i h <;> simp at h <;> split <;> omega
theorem w_u8 {n : Int} (h1 : 0 ≤ n) (h2 : n < 256) : IntKind.u8.wrap n = n := by
  simp only [IntKind.wrap, IntKind.bits, IntKind.signed, Bool.false_and, Bool.false_eq_true, if_false]
  omega
theorem wd_u8 (n : Int) : IntKind.u8.wrap n = n % 256 := by
  simp only [IntKind.wrap, IntKind.bits, IntKind.signed, Bool.false_and, Bool.false_eq_true, if_false]
  rfl
theorem w_u64 {n : Int} (h1 : 0 ≤ n) (h2 : n < 18446744073709551616) : IntKind.u64.wrap n = n := by
  simp only [IntKind.wrap, IntKind.bits, IntKind.signed, Bool.false_and, Bool.false_eq_true, if_false]
  omega
theorem wd_u64 (n : Int) : IntKind.u64.wrap n = n % 18446744073709551616 := by
  simp only [IntKind.wrap, IntKind.bits, IntKind.signed, Bool.false_and, Bool.false_eq_true, if_false]
  rfl
theorem w_u32 {n : Int} (h1 : 0 ≤ n) (h2 : n < 4294967296) : IntKind.u32.wrap n = n := by
  simp only [IntKind.wrap, IntKind.bits, IntKind.signed, Bool.false_and, Bool.false_eq_true, if_false]
  omega
theorem wd_u32 (n : Int) : IntKind.u32.wrap n = n % 4294967296 := by
  simp only [IntKind.wrap, IntKind.bits, IntKind.signed, Bool.false_and, Bool.false_eq_true, if_false]
  rfl
theorem w_u16 {n : Int} (h1 : 0 ≤ n) (h2 : n < 65536) : IntKind.u16.wrap n = n := by
  simp only [IntKind.wrap, IntKind.bits, IntKind.signed, Bool.false_and, Bool.false_eq_true, if_false]
  omega
theorem wd_u16 (n : Int) : IntKind.u16.wrap n = n % 65536 := by
  simp only [IntKind.wrap, IntKind.bits, IntKind.signed, Bool.false_and, Bool.false_eq_true, if_false]
  rfl
theorem w_i16 {n : Int} (h1 : -32768 ≤ n) (h2 : n < 32768) : IntKind.i16.wrap n = n := by
  simp only [IntKind.wrap, IntKind.bits, IntKind.signed, Bool.true_and, Nat.reduceSub]
  split <;> rename_i h <;> simp at h <;> omega
theorem wd_i16 (n : Int) : IntKind.i16.wrap n = if n % 65536 ≥ 32768 then n % 65536 - 65536 else n % 65536 := by
  simp only [IntKind.wrap, IntKind.bits, IntKind.signed, Bool.true_and, Nat.reduceSub]
  split <;> rename_i h <;> simp at h <;> split <;> omega
theorem w_i8 {n : Int} (h1 : -128 ≤ n) (h2 : n < 128) : IntKind.i8.wrap n = n := by
  simp only [IntKind.wrap, IntKind.bits, IntKind.signed, Bool.true_and, Nat.reduceSub]
  split <;> rename_i h <;> simp at h <;> omega
theorem wd_i8 (n : Int) : IntKind.i8.wrap n = if n % 256 ≥ 128 then n % 256 - 256 else n % 256 := by
  simp only [IntKind.wrap, IntKind.bits, IntKind.signed, Bool.true_and, Nat.reduceSub]
  split <;> rename_i h <;> simp at h <;> split <;> omega
theorem nil_str : (ByteArray.mk #[]).toList = [] := by rw [ByteArray.toList_eq]
/-! memory: reading and writing behind new blocks -/
theorem getP (h : Heap) (o : Obj) (k : Nat) : (Array.push h o)[k]? = if k = Array.size h then some o else h[k]? := Array.getElem?_push
theorem getS (h : Heap) (i j : Nat) (o : Obj) : (Array.setIfInBounds h i o)[j]? = if i = j then (if i < Array.size h then some o else none) else h[j]? := Array.getElem?_setIfInBounds
theorem setP (h : Heap) (o o' : Obj) (k : Nat) : Array.setIfInBounds (Array.push h o) k o' = if k = Array.size h then Array.push h o' else Array.push (Array.setIfInBounds h k o') o := by
  apply Array.ext_getElem?
  intro i
  by_cases hk : k = Array.size h
  · rw [if_pos hk, getS, getP, getP]
    simp only [Array.size_push]
    grind
  · rw [if_neg hk, getS, getP, getP]
    simp only [Array.size_push, getS, Array.size_setIfInBounds]
    grind
theorem setS (h : Heap) (i : Nat) (o o' : Obj) : Array.setIfInBounds (Array.setIfInBounds h i o) i o' = Array.setIfInBounds h i o' := by simp
theorem sizeS (h : Heap) (i : Nat) (o : Obj) : Array.size (Array.setIfInBounds h i o) = Array.size h := by simp
theorem Grew.sets {h h' : Heap} {k : Nat} {o : Obj} (hk : h[k]? = some o) (g : Grew h h') (o' : Obj) : Grew (Array.setIfInBounds h k o') (Array.setIfInBounds h' k o') := ⟨by simpa using g.le, fun i hi => by
  have h1 := lt_of_get hk
  have h2 := g.le
  simp only [sizeS] at hi
  rw [getS, getS]
  split
  · simp only [show k < Array.size h' by omega, show k < Array.size h by omega, if_true]
  · exact g.old i hi⟩
theorem got {h : Heap} {b : Nat} (hb : b < Array.size h) (o' : Obj) : (Array.setIfInBounds h b o')[b]? = some o' := by
  rw [getS, if_pos rfl, if_pos hb]
theorem ext_of {P : Program} {f : FuncId} {fn : Func} {e : Array Value → Sem Value} {args : Array Value} {h : Heap} {Q : Ending → Heap → Prop} {v : Value} (hf : P.funcs[f]? = some fn) (hname : (fn.name == "runtime.NumGoroutine") = false)
    (hb : fn.body.isNone = true) (hn : Extern.findNext fn = none) (he : Extern.find fn = some e) (hr : ∀ w : World, (e args).run P w = .ok v w) (hQ : Q (.returned v) h) : ExtW P f args h Q := by
  intro w hw
  subst hw
  refine ⟨v, w, ?_, ⟨rfl, rfl, rfl⟩, hQ⟩
  rw [run_callFunc_extern hf hname hb hn he, hr]
  rfl
theorem calls_same {P : Program} {f : FuncId} {args : Array Value} {v : Value} (hc : ∀ w, Calls P f args w fun e w' => e = .returned v ∧ w' = w) (h : Heap) : CallsH P f args h fun e h' => e = .returned v ∧ h' = h := fun w hw =>
  (hc w).mono fun e w' ⟨h1, h2⟩ => ⟨⟨h1, by rw [h2, hw]⟩, by rw [h2]; exact Rest.refl w⟩
end Go.Vm
