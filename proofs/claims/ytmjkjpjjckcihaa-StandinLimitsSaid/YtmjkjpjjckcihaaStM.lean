/-
Stand-in: the decisions of a stand-in as a list, maps looked up, and what the calls answer.
Conditions: none.
-/
import Derived.Test.YtmjkjpjjckcihaaVmAR
import Derived.Test.YtmjkjpjjckcihaaBs
namespace Go.Proofs.Ytmjkjpjjckcihaa
open Go.Vm
set_option linter.unusedSimpArgs false
set_option linter.unusedVariables false
set_option maxRecDepth 20000
/-! ### Maps -/
theorem lookM_nil (s : ByteArray) : lookM [] s = none := rfl
theorem lookM_cons (k : ByteArray) (v : Value) (m : SMap) (s : ByteArray) : lookM ((k, v) :: m) s = if s = k then some v else lookM m s := by
  unfold lookM
  simp only [posM]
  by_cases h : s = k
  · rw [if_pos h, if_pos h]; rfl
  · rw [if_neg h, if_neg h]; cases posM m s <;> rfl
theorem updM_nil (s : ByteArray) (v : Value) : updM [] s v = [(s, v)] := rfl
theorem updM_cons (k : ByteArray) (u : Value) (m : SMap) (s : ByteArray) (v : Value) : updM ((k, u) :: m) s v = if s = k then (s, v) :: m else (k, u) :: updM m s v := by
  unfold updM
  simp only [posM]
  by_cases h : s = k
  · rw [if_pos h, if_pos h]; rfl
  · rw [if_neg h, if_neg h]; cases posM m s <;> rfl
theorem delM_nil (s : ByteArray) : delM [] s = [] := rfl
theorem delM_cons (k : ByteArray) (u : Value) (m : SMap) (s : ByteArray) : delM ((k, u) :: m) s = if s = k then m else (k, u) :: delM m s := by
  unfold delM
  simp only [posM]
  by_cases h : s = k
  · rw [if_pos h, if_pos h]; rfl
  · rw [if_neg h, if_neg h]; cases posM m s <;> rfl
/-- No key stands twice. -/
def KeysN (m : SMap) : Prop := (m.map Prod.fst).Nodup
theorem lookM_none {m : SMap} {s : ByteArray} (h : s ∉ m.map Prod.fst) : lookM m s = none := by
  induction m with
  | nil => rfl
  | cons p m ih =>
    obtain ⟨k, u⟩ := p
    rw [lookM_cons, if_neg (fun e => h (by simp [e])), ih (fun hm => h (by simp only [List.map_cons, List.mem_cons]; exact .inr hm))]
theorem lookM_upd (m : SMap) (s t : ByteArray) (v : Value) : lookM (updM m s v) t = if t = s then some v else lookM m t := by
  induction m with
  | nil => rw [updM_nil, lookM_cons]
  | cons p m ih =>
    obtain ⟨k, u⟩ := p
    rw [updM_cons]
    by_cases h : s = k
    · subst h; rw [if_pos rfl, lookM_cons, lookM_cons]; split <;> rfl
    · rw [if_neg h, lookM_cons, lookM_cons, ih]
      by_cases h1 : t = k
      · rw [if_pos h1, if_pos h1, if_neg (fun e => h (by rw [← e, h1]))]
      · rw [if_neg h1, if_neg h1]
theorem mem_upd {m : SMap} {s t : ByteArray} {v : Value} (h : t ∈ (updM m s v).map Prod.fst) : t = s ∨ t ∈ m.map Prod.fst := by
  induction m with
  | nil => rw [updM_nil] at h; simp at h; exact .inl h
  | cons p m ih =>
    obtain ⟨k, u⟩ := p
    rw [updM_cons] at h
    by_cases hs : s = k
    · rw [if_pos hs] at h
      simp only [List.map_cons, List.mem_cons] at h ⊢
      rcases h with h | h
      · exact .inl h
      · exact .inr (.inr h)
    · rw [if_neg hs] at h
      simp only [List.map_cons, List.mem_cons] at h ⊢
      rcases h with h | h
      · exact .inr (.inl h)
      · rcases ih h with h | h
        · exact .inl h
        · exact .inr (.inr h)
theorem KeysN.upd {m : SMap} (h : KeysN m) (s : ByteArray) (v : Value) : KeysN (updM m s v) := by
  unfold KeysN at *
  induction m with
  | nil => rw [updM_nil]; simp
  | cons p m ih =>
    obtain ⟨k, u⟩ := p
    simp only [List.map_cons, List.nodup_cons] at h
    rw [updM_cons]
    by_cases hs : s = k
    · subst hs; rw [if_pos rfl]; simpa using h
    · rw [if_neg hs]
      simp only [List.map_cons, List.nodup_cons]
      refine ⟨fun hm => ?_, ih h.2⟩
      rcases mem_upd hm with e | e
      · exact hs e.symm
      · exact h.1 e
theorem mem_del {m : SMap} {s t : ByteArray} (h : t ∈ (delM m s).map Prod.fst) : t ∈ m.map Prod.fst := by
  induction m with
  | nil => exact h
  | cons p m ih =>
    obtain ⟨k, u⟩ := p
    rw [delM_cons] at h
    by_cases hs : s = k
    · rw [if_pos hs] at h; simp only [List.map_cons, List.mem_cons]; exact .inr h
    · rw [if_neg hs] at h
      simp only [List.map_cons, List.mem_cons] at h ⊢
      exact h.imp id ih
theorem KeysN.del {m : SMap} (h : KeysN m) (s : ByteArray) : KeysN (delM m s) := by
  unfold KeysN at *
  induction m with
  | nil => exact h
  | cons p m ih =>
    obtain ⟨k, u⟩ := p
    simp only [List.map_cons, List.nodup_cons] at h
    rw [delM_cons]
    by_cases hs : s = k
    · rw [if_pos hs]; exact h.2
    · rw [if_neg hs]
      simp only [List.map_cons, List.nodup_cons]
      exact ⟨fun hm => h.1 (mem_del hm), ih h.2⟩
theorem lookM_del {m : SMap} (h : KeysN m) (s t : ByteArray) : lookM (delM m s) t = if t = s then none else lookM m t := by
  unfold KeysN at h
  induction m with
  | nil => rw [delM_nil, lookM_nil]; split <;> rfl
  | cons p m ih =>
    obtain ⟨k, u⟩ := p
    simp only [List.map_cons, List.nodup_cons] at h
    rw [delM_cons]
    by_cases hs : s = k
    · subst hs
      rw [if_pos rfl, lookM_cons]
      by_cases ht : t = s
      · subst ht; rw [if_pos rfl, lookM_none h.1]
      · rw [if_neg ht, if_neg ht]
    · rw [if_neg hs, lookM_cons, lookM_cons, ih h.2]
      by_cases ht : t = k
      · rw [if_pos ht, if_pos ht, if_neg (fun e => hs (by rw [← e, ht]))]
      · rw [if_neg ht, if_neg ht]
/-! ### Decisions -/
structure Dec where
  key : List UInt8
  iss : List UInt8
  card : List UInt8
  amt : Int
  at_ : Int
  date : Int
  app : Bool
  rev : Bool
  wai : Bool
structure Lim where
  iss : List UInt8
  each : Int
  day : Int
  cnt : Int
/-- A decision's cells in the program. -/
def decC (d : Dec) : List Value := [.string (bs d.key), .string (bs d.iss), .string (bs d.card), .int .i64 d.amt, .int .i64 d.at_, .int .i64 d.date, .bool d.app, .bool d.rev]
/-- A decision's cells in the reference. -/
def choC (d : Dec) : List Value := [.string (bs d.key), .string (bs d.iss), .string (bs d.card), .int .i64 d.amt, .int .i64 d.at_, .int .i64 d.date, .bool d.app, .bool d.rev, .bool d.wai]
def advC (d : Dec) : List Value := [.string (bs d.key), .string (bs d.iss), .string (bs d.card), .int .i64 d.amt, .int .i64 d.at_]
def limC (l : Lim) : List Value := [.string (bs l.iss), .int .i64 l.each, .int .i64 l.day, .int .i64 l.cnt]
theorem decC_len (d : Dec) : (decC d).length = 8 := rfl
theorem choC_len (d : Dec) : (choC d).length = 9 := rfl
theorem advC_len (d : Dec) : (advC d).length = 5 := rfl
theorem limC_len (d : Lim) : (limC d).length = 4 := rfl
/-- The place of a key. -/
def posD (k : List UInt8) : List Dec → Option Nat
  | [] => none
  | d :: l => if d.key = k then some 0 else (posD k l).map (· + 1)
theorem posD_some {k : List UInt8} : ∀ {L : List Dec} {i : Nat}, posD k L = some i → ∃ d, L[i]? = some d ∧ d.key = k
  | [], _, h => by simp [posD] at h
  | x :: l, i, h => by
    simp only [posD] at h
    split at h
    · rename_i e
      cases h
      exact ⟨x, rfl, e⟩
    · cases hp : posD k l with
      | none => rw [hp] at h; cases h
      | some j =>
        rw [hp] at h
        simp at h
        subst h
        simpa using posD_some hp
theorem posD_none {k : List UInt8} : ∀ {L : List Dec}, posD k L = none → ∀ d ∈ L, d.key ≠ k
  | [], _, _, h => by cases h
  | x :: l, h, d, hd => by
    simp only [posD] at h
    split at h
    · cases h
    · rename_i hne
      rcases List.mem_cons.1 hd with e | e
      · rw [e]; exact hne
      · exact posD_none (by simpa using h) d e
theorem posD_of_none {k : List UInt8} : ∀ {L : List Dec}, (∀ d ∈ L, d.key ≠ k) → posD k L = none
  | [], _ => rfl
  | x :: l, h => by
    simp only [posD]
    rw [if_neg (h x (by simp)), posD_of_none fun y hy => h y (by simp [hy])]
    rfl
/-- The keys differ. -/
def KeyU (L : List Dec) : Prop := (L.map Dec.key).Nodup
theorem posD_at : ∀ {L : List Dec} {i : Nat} {d : Dec}, KeyU L → L[i]? = some d → posD d.key L = some i
  | [], _, _, _, h => by simp at h
  | x :: l, 0, d, _, h => by
    simp at h; subst h; simp [posD]
  | x :: l, i + 1, d, hu, h => by
    unfold KeyU at hu
    simp only [List.map_cons, List.nodup_cons] at hu
    simp only [List.getElem?_cons_succ] at h
    have hm : d ∈ l := List.mem_of_getElem? h
    simp only [posD]
    rw [if_neg (fun e => hu.1 (by rw [e]; exact List.mem_map_of_mem hm)), posD_at (L := l) hu.2 h]
    rfl
theorem keyU_app {L : List Dec} {d : Dec} (h : KeyU L) (hn : posD d.key L = none) : KeyU (L ++ [d]) := by
  unfold KeyU at *
  rw [List.map_append, List.nodup_append]
  refine ⟨h, by simp, fun a ha b hb => ?_⟩
  obtain ⟨x, hx, rfl⟩ := List.mem_map.1 ha
  simp at hb
  subst hb
  exact posD_none hn x hx
theorem keyU_set {L : List Dec} {i : Nat} {x y : Dec} (h : KeyU L) (hx : L[i]? = some x) (hy : y.key = x.key) : KeyU (L.set i y) := by
  have : (L.set i y).map Dec.key = L.map Dec.key := by
    apply List.ext_getElem?
    intro j
    rw [List.getElem?_map, List.getElem?_map]
    have hi := (List.getElem?_eq_some_iff.1 hx).1
    by_cases h : i = j
    · subst h; rw [List.getElem?_set_self hi, hx]; simp [hy]
    · rw [List.getElem?_set_ne h]
  unfold KeyU
  rw [this]; exact h
theorem posD_set {k : List UInt8} : ∀ {L : List Dec} {i : Nat} {x y : Dec}, L[i]? = some x → y.key = x.key → posD k (L.set i y) = posD k L
  | [], _, _, _, h, _ => by simp at h
  | z :: l, 0, x, y, h, e => by
    simp at h
    subst h
    simp [posD, e]
  | z :: l, i + 1, x, y, h, e => by
    simp only [List.set_cons_succ, posD]
    rw [posD_set (L := l) (by simpa using h) e]
theorem posD_app {k : List UInt8} : ∀ {L : List Dec} {d : Dec}, posD k (L ++ [d]) = match posD k L with | some i => some i | none => if d.key = k then some L.length else none
  | [], d => by simp only [List.nil_append, posD]; split <;> rfl
  | x :: l, d => by
    simp only [List.cons_append, posD]
    by_cases h : x.key = k
    · rw [if_pos h, if_pos h]
    · rw [if_neg h, if_neg h, posD_app (L := l)]
      cases posD k l with
      | some i => rfl
      | none => simp only [Option.map_none]; split <;> simp
/-- Whether the advice of a key waits. -/
def waitD (k : List UInt8) (L : List Dec) : Bool := match posD k L with | some i => (match L[i]? with | some d => d.wai | none => false) | none => false
theorem waitD_at {L : List Dec} {i : Nat} {d : Dec} (hu : KeyU L) (h : L[i]? = some d) : waitD d.key L = d.wai := by
  unfold waitD
  rw [posD_at hu h]
  simp [h]
/-- What the map of waiting advices holds. -/
def WaitOk (W : SMap) (L : List Dec) : Prop := KeysN W ∧ ∀ k, lookM W (bs k) = if waitD k L = true then some (.bool true) else none
theorem WaitOk.nil : WaitOk [] [] := ⟨List.nodup_nil, fun k => by rw [lookM_nil]; rfl⟩
theorem waitD_app {L : List Dec} {d : Dec} (hn : posD d.key L = none) (k : List UInt8) : waitD k (L ++ [d]) = if k = d.key then d.wai else waitD k L := by
  unfold waitD
  rw [posD_app]
  by_cases hk : k = d.key
  · subst hk
    rw [hn, if_pos rfl]
    simp
  · rw [if_neg hk]
    cases hp : posD k L with
    | none => simp only; rw [if_neg (fun e => hk e.symm)]
    | some i =>
      simp only
      obtain ⟨x, hx, _⟩ := posD_some hp
      rw [List.getElem?_append_left (List.getElem?_eq_some_iff.1 hx).1]
theorem waitD_set {L : List Dec} {i : Nat} {x y : Dec} (hu : KeyU L) (hx : L[i]? = some x) (hy : y.key = x.key) (k : List UInt8) : waitD k (L.set i y) = if k = x.key then y.wai else waitD k L := by
  unfold waitD
  rw [posD_set hx hy]
  have hi := (List.getElem?_eq_some_iff.1 hx).1
  by_cases hk : k = x.key
  · subst hk
    rw [posD_at hu hx, if_pos rfl]
    simp [List.getElem?_set_self hi]
  · rw [if_neg hk]
    cases hp : posD k L with
    | none => rfl
    | some j =>
      simp only
      obtain ⟨z, hz, hzk⟩ := posD_some hp
      rw [List.getElem?_set_ne]
      intro e
      subst e
      rw [hx] at hz
      cases hz
      exact hk hzk.symm
theorem WaitOk.app_no {W : SMap} {L : List Dec} {d : Dec} (h : WaitOk W L) (hn : posD d.key L = none) (hw : d.wai = false) : WaitOk W (L ++ [d]) := by
  refine ⟨h.1, fun k => ?_⟩
  rw [h.2 k, waitD_app hn]
  by_cases hk : k = d.key
  · subst hk
    rw [if_pos rfl, hw]
    unfold waitD
    rw [hn]
  · rw [if_neg hk]
theorem WaitOk.app_yes {W : SMap} {L : List Dec} {d : Dec} (h : WaitOk W L) (hn : posD d.key L = none) (hw : d.wai = true) : WaitOk (updM W (bs d.key) (.bool true)) (L ++ [d]) := by
  refine ⟨h.1.upd _ _, fun k => ?_⟩
  rw [lookM_upd, h.2 k, waitD_app hn]
  by_cases hk : k = d.key
  · subst hk
    rw [if_pos rfl, if_pos rfl, hw, if_pos rfl]
  · rw [if_neg hk, if_neg (fun e => hk (bs_inj e))]
theorem WaitOk.set_no {W : SMap} {L : List Dec} {i : Nat} {x y : Dec} (h : WaitOk W L) (hu : KeyU L) (hx : L[i]? = some x) (hy : y.key = x.key) (hw : y.wai = false) : WaitOk (delM W (bs x.key)) (L.set i y) := by
  refine ⟨h.1.del _, fun k => ?_⟩
  rw [lookM_del h.1, h.2 k, waitD_set hu hx hy]
  by_cases hk : k = x.key
  · subst hk
    rw [if_pos rfl, if_pos rfl, hw]
    rfl
  · rw [if_neg hk, if_neg (fun e => hk (bs_inj e))]
/-- What was approved for a card on a date. -/
def usedB (card : List UInt8) (date : Int) (d : Dec) : Bool := decide (d.card = card) && (decide (d.date = date) && (d.app && !d.rev))
def sumD (card : List UInt8) (date : Int) : List Dec → Int
  | [] => 0
  | d :: l => (if usedB card date d = true then d.amt else 0) + sumD card date l
def cntD (card : List UInt8) (date : Int) : List Dec → Nat
  | [] => 0
  | d :: l => (if usedB card date d = true then 1 else 0) + cntD card date l
theorem sumD_app (card : List UInt8) (date : Int) : ∀ (a b : List Dec), sumD card date (a ++ b) = sumD card date a + sumD card date b
  | [], b => by simp [sumD]
  | d :: l, b => by simp only [List.cons_append, sumD, sumD_app card date l b]; omega
theorem cntD_app (card : List UInt8) (date : Int) : ∀ (a b : List Dec), cntD card date (a ++ b) = cntD card date a + cntD card date b
  | [], b => by simp [cntD]
  | d :: l, b => by simp only [List.cons_append, cntD, cntD_app card date l b]; omega
def AmtOk (L : List Dec) : Prop := ∀ d ∈ L, 1 ≤ d.amt ∧ d.amt ≤ 999999999999
theorem sumD_le (card : List UInt8) (date : Int) : ∀ (L : List Dec), AmtOk L → 0 ≤ sumD card date L ∧ sumD card date L ≤ 999999999999 * (L.length : Int)
  | [], _ => by simp [sumD]
  | d :: l, h => by
    have h1 := h d (by simp)
    have h2 := sumD_le card date l fun x hx => h x (by simp [hx])
    simp only [sumD, List.length_cons]
    split <;> omega
theorem cntD_le (card : List UInt8) (date : Int) : ∀ (L : List Dec), cntD card date L ≤ L.length
  | [] => by simp [cntD]
  | d :: l => by
    have := cntD_le card date l
    simp only [cntD, List.length_cons]
    split <;> omega
def limF (iss : List UInt8) : List Lim → Option Lim
  | [] => none
  | l :: r => if l.iss = iss then some l else limF iss r
def permD (lm : List Lim) (L : List Dec) (iss card : List UInt8) (amt date : Int) : Bool := match limF iss lm with
  | none => false
  | some l => decide (amt ≤ l.each) && (decide (sumD card date L + amt ≤ l.day) && decide ((cntD card date L : Int) + 1 ≤ l.cnt))
def dayD (at_ : Int) : Int := if 0 ≤ at_ ∧ at_ ≤ 8639999999 + 0 then at_ / 86400 else -1
def waitL (iss : List UInt8) (L : List Dec) : List Dec := L.filter fun d => d.wai && decide (d.iss = iss)
end Go.Proofs.Ytmjkjpjjckcihaa
