/-
Stand-in: a stand-in of the program in memory.
Conditions: none.
-/
import Derived.Test.YtmjkjpjjckcihaaStM
import Derived.Test.YtmjkjpjjckcihaaPnL
namespace Go.Proofs.Ytmjkjpjjckcihaa
open Go.Vm
set_option linter.unusedSimpArgs false
set_option linter.unusedVariables false
set_option maxHeartbeats 2000000
set_option maxRecDepth 20000
def ptrC (b : Nat) : List Value := [.pointer (some ⟨b, 0, none⟩)]
theorem ptrC_len (b : Nat) : (ptrC b).length = 1 := rfl
def decO (d : Dec) : Obj := Obj.cells (decC d).toArray 85
def decB (D : List (Nat × Dec)) : AH := D.map fun p => (p.1, decO p.2)
def mapK (D : List (Nat × Dec)) : SMap := D.map fun p => (bs p.2.key, .pointer (some ⟨p.1, 0, none⟩))
def mapLm (lm : List Lim) : SMap := lm.map fun l => (bs l.iss, .agg (limC l).toArray)
/-- What holds of the decisions of every stand-in. -/
def DecOk (L : List Dec) : Prop := KeyU L ∧ AmtOk L ∧ L.length ≤ 256 ∧ ∀ d ∈ L, d.wai = true → d.app = true ∧ d.rev = false
/-- A stand-in of the program. -/
def StP (E : AH) (sb : Nat) (lm : List Lim) (D : List (Nat × Dec)) : Prop := ∃ (lr kr wr : Nat) (v : Value) (es1 : Array MapEntry) (cl1 : Nat) (es2 : Array MapEntry) (cl2 : Nat) (es3 : Array MapEntry) (cl3 : Nat) (W : SMap) (Bk : AH),
  E = cat [[(sb, (Obj.cells #[.map (some lr), v, .map (some kr), .map (some wr)] 72))], [(lr, .map es1 cl1)], [(kr, .map es2 cl2)], [(wr, .map es3 cl3)], Bk, decB D] ∧ Sep [[(sb, (Obj.cells #[.map (some lr), v, .map (some kr), .map (some wr)] 72))], [(lr, .map es1 cl1)], [(kr, .map es2 cl2)], [(wr, .map es3 cl3)], Bk, decB D] ∧
  MapIs es1 (mapLm lm) ∧ MapIs es2 (mapK D) ∧ MapIs es3 W ∧ WaitOk W (D.map Prod.snd) ∧ OwnL ptrC 1 82 v Bk (D.map Prod.fst) ∧ (D.map Prod.fst).Nodup ∧ DecOk (D.map Prod.snd)
theorem look_decB : ∀ {D : List (Nat × Dec)} {i b : Nat} {d : Dec}, (D.map Prod.fst).Nodup → D[i]? = some (b, d) → Vm.look (decB D) b = some (decO d)
  | [], _, _, _, _, h => by simp at h
  | (c, e) :: l, 0, b, d, _, h => by
    simp at h
    obtain ⟨rfl, rfl⟩ := h
    simp [decB, Vm.look]
  | (c, e) :: l, i + 1, b, d, hn, h => by
    simp only [List.map_cons, List.nodup_cons] at hn
    simp only [List.getElem?_cons_succ] at h
    have hm : b ∈ l.map Prod.fst := List.mem_map_of_mem (f := Prod.fst) (List.mem_of_getElem? h)
    have ih := look_decB (D := l) hn.2 h
    simp only [decB, List.map_cons, Vm.look]
    rw [if_neg (fun e => hn.1 (by rw [e]; exact hm))]
    exact ih
theorem look_decB_none : ∀ {D : List (Nat × Dec)} {b : Nat}, b ∉ D.map Prod.fst → Vm.look (decB D) b = none
  | [], _, _ => rfl
  | (c, e) :: l, b, h => by
    simp only [List.map_cons, List.mem_cons, not_or] at h
    simp only [decB, List.map_cons, Vm.look]
    rw [if_neg (fun e => h.1 e.symm)]
    exact look_decB_none (D := l) h.2
theorem look_mapK (k : List UInt8) : ∀ (D : List (Nat × Dec)), lookM (mapK D) (bs k) = match posD k (D.map Prod.snd) with | some i => (D[i]?).map fun p => Value.pointer (some ⟨p.1, 0, none⟩) | none => none
  | [] => rfl
  | (b, d) :: l => by
    have ih := look_mapK k l
    simp only [mapK, List.map_cons, posD]
    rw [lookM_cons]
    by_cases h : d.key = k
    · subst h; simp
    · rw [if_neg (fun e => h (bs_inj e).symm), if_neg h]
      unfold mapK at ih
      rw [ih]
      cases posD k (l.map Prod.snd) <;> rfl
theorem upd_mapK {k : List UInt8} {b : Nat} {d : Dec} (hd : d.key = k) : ∀ {D : List (Nat × Dec)}, posD k (D.map Prod.snd) = none → updM (mapK D) (bs k) (.pointer (some ⟨b, 0, none⟩)) = mapK (D ++ [(b, d)])
  | [], _ => by subst hd; rfl
  | (c, e) :: l, h => by
    simp only [List.map_cons, posD] at h
    split at h
    · cases h
    · rename_i hne
      have ih := upd_mapK (b := b) hd (D := l) (by simpa using h)
      simp only [mapK, List.map_cons, List.cons_append] at ih ⊢
      rw [updM_cons, if_neg (fun e => hne (bs_inj e).symm), ih]
theorem look_mapLm (k : List UInt8) : ∀ (L : List Lim), lookM (mapLm L) (bs k) = (limF k L).map fun l => Value.agg (limC l).toArray
  | [] => rfl
  | x :: l => by
    have ih := look_mapLm k l
    simp only [mapLm, List.map_cons, limF]
    rw [lookM_cons]
    by_cases h : x.iss = k
    · subst h; simp
    · rw [if_neg (fun e => h (bs_inj e).symm), if_neg h]; exact ih
theorem upd_mapLm {x : Lim} : ∀ {L : List Lim}, limF x.iss L = none → updM (mapLm L) (bs x.iss) (.agg (limC x).toArray) = mapLm (L ++ [x])
  | [], _ => rfl
  | y :: l, h => by
    simp only [limF] at h
    split at h
    · cases h
    · rename_i hne
      have ih := upd_mapLm (L := l) h
      simp only [mapLm, List.map_cons, List.cons_append] at ih ⊢
      rw [updM_cons, if_neg (fun e => hne (bs_inj e).symm), ih]
/-- Setting a decision. -/
def setD (D : List (Nat × Dec)) (i : Nat) (b : Nat) (d : Dec) : List (Nat × Dec) := D.set i (b, d)
theorem decB_set : ∀ {D : List (Nat × Dec)} {i b : Nat} {x d : Dec}, (D.map Prod.fst).Nodup → D[i]? = some (b, x) → decB (D.set i (b, d)) = putB (decB D) b (decO d)
  | [], _, _, _, _, _, h => by simp at h
  | (c, e) :: l, 0, b, x, d, _, h => by
    simp at h
    obtain ⟨rfl, rfl⟩ := h
    simp [decB, putB]
  | (c, e) :: l, i + 1, b, x, d, hn, h => by
    simp only [List.map_cons, List.nodup_cons] at hn
    simp only [List.getElem?_cons_succ] at h
    have hm : b ∈ l.map Prod.fst := List.mem_map_of_mem (f := Prod.fst) (List.mem_of_getElem? h)
    have ih := decB_set (D := l) (d := d) hn.2 h
    simp only [decB, List.set_cons_succ, List.map_cons, putB] at ih ⊢
    rw [if_neg (fun e => hn.1 (by rw [e]; exact hm)), ih]
theorem fst_set : ∀ {D : List (Nat × Dec)} {i b : Nat} {x d : Dec}, D[i]? = some (b, x) → (D.set i (b, d)).map Prod.fst = D.map Prod.fst
  | [], _, _, _, _, h => by simp at h
  | (c, e) :: l, 0, b, x, d, h => by
    simp at h
    obtain ⟨rfl, rfl⟩ := h
    simp
  | (c, e) :: l, i + 1, b, x, d, h => by
    simp only [List.getElem?_cons_succ] at h
    simp only [List.set_cons_succ, List.map_cons]
    rw [fst_set (D := l) h]
theorem snd_set (D : List (Nat × Dec)) (i b : Nat) (d : Dec) : (D.set i (b, d)).map Prod.snd = (D.map Prod.snd).set i d := by rw [List.map_set]
theorem mapK_set : ∀ {D : List (Nat × Dec)} {i b : Nat} {x d : Dec}, D[i]? = some (b, x) → d.key = x.key → mapK (D.set i (b, d)) = mapK D
  | [], _, _, _, _, h, _ => by simp at h
  | (c, e) :: l, 0, b, x, d, h, hk => by
    simp at h
    obtain ⟨rfl, rfl⟩ := h
    simp [mapK, hk]
  | (c, e) :: l, i + 1, b, x, d, h, hk => by
    simp only [List.getElem?_cons_succ] at h
    have ih := mapK_set (D := l) h hk
    simp only [mapK, List.set_cons_succ, List.map_cons] at ih ⊢
    rw [ih]
end Go.Proofs.Ytmjkjpjjckcihaa
