/-
Builders of texts over known blocks: unsafe.String, unsafe.SliceData, the way of a pointer through unsafe.Pointer, bytes read as a text.
Conditions: none. Generic: it speaks of no program.
-/
import Derived.Test.YtgglccpckhpocaaDoorVmAR
import Derived.Lib.UnsafeStr
import Derived.Lib.Builder
import Derived.Laws.BytesArg
set_option linter.unusedSimpArgs false
set_option linter.unusedVariables false
namespace Go.Vm
section
variable (P : Program) (imp : Imp) (nt : Nat) (ν : Nu) (n : Nat) (ρ : Env) (A : AH) (K : Nu → Nat → Env → AH → Prop) (K1 : Nu → Nat → Value → AH → Prop)
variable (dst : Option Nat) (ty : TypeId) (pos : String) (aft : Array Edge) (gd : Option (Nat × Bool))
theorem sA_usd (xs : List Operand) (ts : Array TypeId) : stepA P imp nt ⟨dst, .call ⟨.builtin .unsafeSliceData, xs.toArray, ts⟩, ty, pos, aft, gd⟩ ν n ρ A K = bnd (evL ρ xs) fun vs => SemR P (Builtin.unsafeSliceData_ ts ty vs.toArray) A ν n fun ν n u A => putK nt dst u ρ fun ρ' => K ν n ρ' A := rfl
theorem sA_ust (xs : List Operand) (ts : Array TypeId) : stepA P imp nt ⟨dst, .call ⟨.builtin .unsafeString, xs.toArray, ts⟩, ty, pos, aft, gd⟩ ν n ρ A K = bnd (evL ρ xs) fun vs => SemN P (Builtin.unsafeString_ ts ty vs.toArray) A ν n fun ν n u A => putK nt dst u ρ fun ρ' => K ν n ρ' A := rfl
theorem soft_usd (xs : Array Operand) (ts : Array TypeId) : softOp imp (.call ⟨.builtin .unsafeSliceData, xs, ts⟩) = false := rfl
theorem soft_ust (xs : Array Operand) (ts : Array TypeId) : softOp imp (.call ⟨.builtin .unsafeString, xs, ts⟩) = false := rfl
theorem cnvN_pu (s d t : TypeId) (x : Value) : cnvN P s d (some (.pointer t)) (some .unsafePointer) x A ν n K1 = SemN P (convert s d x) A ν n K1 := rfl
theorem cnvN_up (s d t : TypeId) (x : Value) : cnvN P s d (some .unsafePointer) (some (.pointer t)) x A ν n K1 = SemN P (convert s d x) A ν n K1 := rfl
end
theorem rd_sliceData {P : Program} {ts : Array TypeId} {ty : TypeId} {A : AH} {a : Addr} {n c : Nat} (hc : c ≠ 0) : readA P (Builtin.unsafeSliceData_ ts ty #[.slice (some a) n c]) A = some (.pointer (some a)) :=
  readA_eq fun w _ => Lib.run_unsafeSliceData_row (P := P) (w := w) _ _ _ _ _ hc
theorem rd_sliceData0 {P : Program} {ts : Array TypeId} {ty : TypeId} {A : AH} : readA P (Builtin.unsafeSliceData_ ts ty #[.slice none 0 0]) A = some (.pointer none) :=
  readA_eq fun w _ => Lib.run_unsafeSliceData_nil (P := P) (w := w) _ _ _ _
def bcL (l : List UInt8) : List Value := l.map fun c => .int .u8 (c.toNat : Int)
theorem bcL_len (l : List UInt8) : (bcL l).length = l.length := by simp [bcL]
theorem bcL_app (a b : List UInt8) : bcL (a ++ b) = bcL a ++ bcL b := by simp [bcL]
theorem rA_ustr0 {P : Program} {pt it ty : TypeId} {A : AH} {K : Value → AH → Prop} (hK : K (.string ⟨#[]⟩) A) : RunA P (Builtin.unsafeString_ #[pt, it] ty #[.pointer none, .int .i64 0]) A K := fun h hA w hw =>
  ⟨_, w, Lib.run_unsafeString_none (P := P) (w := w) pt it ty none, ⟨rfl, rfl, rfl⟩, A, by rw [hw]; exact hA, by rw [hw]; exact Keep.refl _ _, hK⟩
theorem modify_set (h : Heap) (g : Nat) (f : Obj → Obj) (o : Obj) (hg : h[g]? = some o) : h.modify g f = h.setIfInBounds g (f o) := by
  apply Array.ext_getElem?
  intro i
  rw [Array.getElem?_modify, Array.getElem?_setIfInBounds]
  split
  · rename_i e
    subst e
    rw [hg, if_pos (Array.getElem?_eq_some_iff.1 hg).1]
    rfl
  · rfl
theorem rA_ustr {P : Program} {pt it ty e : TypeId} {A : AH} {K : Value → AH → Prop} {g : Nat} {cur : Array Value} {l : List UInt8} (hp : P.underlying pt = some (.pointer e)) (hc : P.cellsOf e = 1) (hg : look A g = some (.cells cur e)) (h0 : l ≠ [])
    (hr : cur.toList.take l.length = bcL l) (h63 : l.length ≤ 9223372036854775807) (hK : K (.string ⟨l.toArray⟩) (putB A g (.cells cur e (0, l.length)))) : RunA P (Builtin.unsafeString_ #[pt, it] ty #[.pointer (some ⟨g, 0, none⟩), .int .i64 (l.length : Int)]) A K := by
  intro h hA w hw
  subst hw
  have hgw := hA _ _ hg
  have hn : l.length ≤ cur.size := by
    have := congrArg List.length hr
    have h2 : cur.toList.length = cur.size := by simp
    rw [bcL_len, List.length_take] at this
    omega
  have hrun := Lib.run_unsafeString_row (P := P) (w := w) pt it ty e hp hc g cur.size (by simp [World.shape?, hgw]) l h0 hn h63 (fun j x hx => by
    rw [addr_add]
    simp only [World.cell?, hgw]
    have hj := (List.getElem?_eq_some_iff.1 hx).1
    have h1 : (cur.toList.take l.length)[j]? = some (.int .u8 x.toNat) := by rw [hr]; simp [bcL, hx]
    rw [List.getElem?_take, if_pos hj] at h1
    simpa using h1)
  have hl : l.length ≠ 0 := fun e => h0 (List.eq_nil_of_length_eq_zero e)
  have hh : (w.freeze ⟨g, 0, none⟩ l.length).heap = w.heap.setIfInBounds g (.cells cur e (0, l.length)) := by
    unfold World.freeze
    rw [if_neg hl]
    simp only
    rw [modify_set _ _ _ _ hgw]
    simp
  have ps := put_sat (u := .cells cur e (0, l.length)) hA hg
  refine ⟨_, _, hrun, ?_, putB A g (.cells cur e (0, l.length)), by rw [hh]; exact ps.1, by rw [hh]; exact ps.2, hK⟩
  unfold World.freeze
  rw [if_neg hl]
  exact ⟨rfl, rfl, rfl⟩
theorem rA_toU {P : Program} {src dst t e : TypeId} {j : TypeInfo} {A : AH} {K : Value → AH → Prop} {b : Nat} {cs : Array Value} {fr : Nat × Nat} (hs : P.underlying src = some (.pointer t)) (hd : P.underlying dst = some .unsafePointer) (ht : P.info? t = some j) (hj : j.size ≠ 0)
    (hb : look A b = some (.cells cs e fr)) (hc : 0 < cs.size) (hK : K (.pointer (some ⟨b, 0, none⟩)) A) : RunA P (convert src dst (.pointer (some ⟨b, 0, none⟩))) A K := fun h hA w hw => by
  subst hw
  have hbw := hA _ _ hb
  exact ⟨_, w, Lib.run_to_unsafe (w := w) (e := e) (cells := cs.size) ⟨b, 0, none⟩ hs hd ht hj (by simp [World.shape?, hbw]) hc, ⟨rfl, rfl, rfl⟩, A, hA, Keep.refl _ _, hK⟩
theorem rA_fromU {P : Program} {src dst u e : TypeId} {j : TypeInfo} {A : AH} {K : Value → AH → Prop} {b : Nat} {cs : Array Value} {fr : Nat × Nat} (hs : P.underlying src = some .unsafePointer) (hd : P.underlying dst = some (.pointer u)) (hu : P.info? u = some j)
    (hb : look A b = some (.cells cs e fr)) (hl : liesAt P P.depth e (cs.size / P.cellsOf e) 0 u 1 = true) (hK : K (.pointer (some ⟨b, 0, none⟩)) A) : RunA P (convert src dst (.pointer (some ⟨b, 0, none⟩))) A K := fun h hA w hw => by
  subst hw
  have hbw := hA _ _ hb
  exact ⟨_, w, Lib.run_from_unsafe (w := w) (e := e) (cells := cs.size) ⟨b, 0, none⟩ hs hd hu (by simp [World.shape?, hbw]) hl, ⟨rfl, rfl, rfl⟩, A, hA, Keep.refl _ _, hK⟩
end Go.Vm
