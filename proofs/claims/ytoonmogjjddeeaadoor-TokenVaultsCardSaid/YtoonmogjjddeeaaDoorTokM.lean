/-
Tokens: the lists that vaults hold, and what the calls answer.
Conditions: none.
-/
import Derived.Test.YtoonmogjjddeeaaDoorPnY
namespace Go.Proofs.YtoonmogjjddeeaaDoor
open Go.Vm
set_option linter.unusedSimpArgs false
set_option linter.unusedVariables false
set_option maxRecDepth 20000
theorem chk_beq (l : List UInt8) : (chk l == 0) = decide (chk l = 0) := by
  by_cases h : chk l = 0
  · rw [h]; rfl
  · simp [h]
theorem chk_bne (l : List UInt8) : (chk l != 0) = !decide (chk l = 0) := by rw [bne, chk_beq]
theorem drop_some {α : Type} {L l : List α} {e : Nat} {a : α} (h3 : a :: l = L.drop e) : L[e]? = some a ∧ e < L.length ∧ l = L.drop (e + 1) := by
  have ha : L[e]? = some a := by
    have := congrArg (fun x => x[0]?) h3
    simpa using this.symm
  refine ⟨ha, (List.getElem?_eq_some_iff.1 ha).1, ?_⟩
  have := congrArg (fun x => x.drop 1) h3
  simpa [List.drop_drop, Nat.add_comm] using this
theorem drop_nil {α : Type} {L : List α} {e : Nat} (h3 : [] = L.drop e) : L.length ≤ e := by
  rcases Nat.lt_or_ge e L.length with h | h
  · rw [List.drop_eq_getElem_cons h] at h3; cases h3
  · exact h
/-- A token of a vault; texts as lists of bytes. -/
structure Tok where
  tok : List UInt8
  pan : List UInt8
  req : List UInt8
  mer : List UInt8
  unt : Int
  st : Int
  cr : Int
def tokC (x : Tok) : List Value := [.string (bs x.tok), .string (bs x.pan), .string (bs x.req), .string (bs x.mer), .int .i64 x.unt, .int .i64 x.st, .int .i64 x.cr]
theorem tok_len (x : Tok) : (tokC x).length = 7 := rfl
theorem tok_agg (x : Tok) : Value.agg (tokC x).toArray = .agg #[.string (bs x.tok), .string (bs x.pan), .string (bs x.req), .string (bs x.mer), .int .i64 x.unt, .int .i64 x.st, .int .i64 x.cr] := rfl
def posT (s : List UInt8) : List Tok → Option Nat
  | [] => none
  | x :: l => if x.tok = s then some 0 else (posT s l).map (· + 1)
def mapT : Nat → List Tok → SMap
  | _, [] => []
  | i, x :: l => (bs x.tok, .int .i64 (i : Int)) :: mapT (i + 1) l
theorem bs_eq {a b : List UInt8} : bs a = bs b ↔ a = b := ⟨bs_inj, fun h => by rw [h]⟩
theorem posM_mapT (s : List UInt8) : ∀ (L : List Tok) (i : Nat), posM (mapT i L) (bs s) = (posT s L).map fun j => (j, .int .i64 ((i + j : Nat) : Int))
  | [], i => rfl
  | x :: l, i => by
    simp only [mapT, posM, posT]
    by_cases h : x.tok = s
    · rw [if_pos (by rw [h]), if_pos h]; simp
    · rw [if_neg (fun e => h (bs_inj e).symm), if_neg h, posM_mapT s l (i + 1)]
      cases posT s l with
      | none => rfl
      | some j => simp; omega
theorem look_mapT (s : List UInt8) (L : List Tok) : lookM (mapT 0 L) (bs s) = (posT s L).map fun j => .int .i64 (j : Int) := by
  unfold lookM
  rw [posM_mapT]
  cases posT s L with
  | none => rfl
  | some j => simp
theorem mapT_app : ∀ (L : List Tok) (i : Nat) (x : Tok), mapT i (L ++ [x]) = mapT i L ++ [(bs x.tok, .int .i64 ((i + L.length : Nat) : Int))]
  | [], i, x => by simp [mapT]
  | y :: l, i, x => by
    simp only [List.cons_append, mapT, mapT_app l (i + 1) x, List.length_cons]
    rw [show i + 1 + l.length = i + (l.length + 1) by omega]
theorem upd_mapT {s : List UInt8} {L : List Tok} {x : Tok} (h : posT s L = none) (hx : x.tok = s) : updM (mapT 0 L) (bs s) (.int .i64 (L.length : Int)) = mapT 0 (L ++ [x]) := by
  unfold updM
  rw [posM_mapT, h, mapT_app, hx]
  simp
theorem mapT_set : ∀ (L : List Tok) (i j : Nat) (x y : Tok), L[j]? = some y → x.tok = y.tok → mapT i (L.set j x) = mapT i L
  | [], _, _, _, _, h, _ => by simp at h
  | z :: l, i, 0, x, y, h, e => by
    simp at h
    subst h
    simp [mapT, e]
  | z :: l, i, j + 1, x, y, h, e => by
    simp only [List.set_cons_succ, mapT]
    rw [mapT_set l (i + 1) j x y (by simpa using h) e]
theorem posT_some {s : List UInt8} : ∀ {L : List Tok} {i : Nat}, posT s L = some i → ∃ x, L[i]? = some x ∧ x.tok = s
  | [], _, h => by simp [posT] at h
  | x :: l, i, h => by
    simp only [posT] at h
    split at h
    · rename_i e
      cases h
      exact ⟨x, rfl, e⟩
    · cases hp : posT s l with
      | none => rw [hp] at h; cases h
      | some j =>
        rw [hp] at h
        simp at h
        subst h
        simpa using posT_some hp
theorem posT_none {s : List UInt8} : ∀ {L : List Tok}, (∀ x ∈ L, x.tok ≠ s) → posT s L = none
  | [], _ => rfl
  | x :: l, h => by
    simp only [posT]
    rw [if_neg (h x (by simp)), posT_none fun y hy => h y (by simp [hy])]
    rfl
/-- The first place of a token, from a place on. -/
theorem posT_drop {s : List UInt8} {L : List Tok} {e : Nat} {x : Tok} {l : List Tok} (h3 : x :: l = L.drop e) (hn : ∀ y ∈ L.take e, y.tok ≠ s) (hx : x.tok = s) : posT s L = some e := by
  obtain ⟨ha, hlt, _⟩ := drop_some h3
  have : ∀ (A B : List Tok), (∀ y ∈ A, y.tok ≠ s) → posT s (A ++ x :: B) = some A.length := by
    intro A
    induction A with
    | nil => intro B _; simp [posT, hx]
    | cons a A ih =>
      intro B h
      simp only [List.cons_append, posT]
      rw [if_neg (h a (by simp)), ih B fun y hy => h y (by simp [hy])]
      rfl
  have h2 := this (L.take e) l hn
  rw [h3, List.take_append_drop, List.length_take] at h2
  rw [h2]
  congr 1
  omega
/-- The tokens of a vault: made one after the other. -/
def TokOk (p : List UInt8) (len : Nat) (L : List Tok) : Prop := 12 ≤ len ∧ len ≤ 19 ∧ 1 ≤ p.length ∧ p.length ≤ 10 ∧ p.all digB = true ∧ L.length ≤ 64 ∧ ∀ (i : Nat) (x : Tok), L[i]? = some x → mkO p (i : Int) (len : Int) = true ∧ x.tok = mkL p (len - 1 - p.length) i
theorem digs_inj {w m n : Nat} (hm : m < 10 ^ w) (hn : n < 10 ^ w) (h : digs w m = digs w n) : m = n := by
  have := congrArg dval h
  rwa [dval_digs w m hm, dval_digs w n hn] at this
theorem mkO_lt {p : List UInt8} {a b : Nat} (h : mkO p (a : Int) (b : Int) = true) : a < 10 ^ (b - 1 - p.length) := by
  obtain ⟨a', b', h1, h2, _, _, _, _, _, h3⟩ := mkO_out h
  have e1 : a' = a := by omega
  have e2 : b' = b := by omega
  rw [← e1, ← e2]; exact h3
theorem mkL_inj {p : List UInt8} {w m n : Nat} (hm : m < 10 ^ w) (hn : n < 10 ^ w) (h : mkL p w m = mkL p w n) : m = n := by
  unfold mkL at h
  rw [List.append_assoc, List.append_assoc] at h
  have h1 := List.append_cancel_left h
  have h2 := List.append_inj h1 (by simp [digs_len])
  exact digs_inj hm hn h2.1
theorem tok_new {p : List UInt8} {len : Nat} {L : List Tok} (h : TokOk p len L) (hO : mkO p (L.length : Int) (len : Int) = true) : posT (mkL p (len - 1 - p.length) L.length) L = none := by
  refine posT_none fun x hx e => ?_
  obtain ⟨i, hi, hxi⟩ := List.getElem_of_mem hx
  have h1 := h.2.2.2.2.2.2 i x (by rw [List.getElem?_eq_getElem hi, hxi])
  rw [h1.2] at e
  have := mkL_inj (mkO_lt h1.1) (mkO_lt hO) e
  omega
/-! ### Names -/
def letN (c : Nat) : Bool := (decide (97 ≤ c) && decide (c ≤ 122)) || (decide (65 ≤ c) && decide (c ≤ 90))
def idN (c : Nat) : Bool := letN c || (decide (48 ≤ c) && decide (c ≤ 57)) || decide (c = 95) || decide (c = 45)
def idB (l : List UInt8) : Bool := l.all (fun c => idN c.toNat) && (decide (1 ≤ l.length) && decide (l.length ≤ 16))
def nmB (l : List UInt8) : Bool := idB l && ((match l with | c :: _ => letN c.toNat | [] => false) && !decide (0 ≤ Lib.indexByte l 45))
def isV (p : List UInt8) (len : Nat) (s : List UInt8) : Bool := decide (chk s = 0) && (decide (s.length = len) && decide (s.take p.length = p))
def domN (req mer : List UInt8) : Bool := nmB req && (decide (mer = []) || idB mer)
def domT (unt at_ : Int) : Bool := decide (0 ≤ at_) && (decide (at_ ≤ 1099511627776) && (decide (unt = 0) || (decide (at_ < unt) && decide (unt ≤ 1099511627776))))
/-- What providing a token does: the errors, or the token made. -/
def provE (p : List UInt8) (len : Nat) (L : List Tok) (num req mer : List UInt8) (unt at_ : Int) : Int :=
  if chk num ≠ 0 then chk num else if isV p len num = true then 4 else if domN req mer = false then 5 else if domT unt at_ = false then 14 else if 64 ≤ L.length then 12 else if mkO p (L.length : Int) (len : Int) = false then 12 else 0
end Go.Proofs.YtoonmogjjddeeaaDoor
