/-
Stand-in: what the law StandinLimits counts beside the stand-in.
Conditions: none.
-/
import Derived.Test.YtmjkjpjjckcihaaStF
namespace Go.Proofs.Ytmjkjpjjckcihaa
open Go.Vm
set_option linter.unusedSimpArgs false
set_option linter.unusedVariables false
set_option maxHeartbeats 2000000
set_option maxRecDepth 20000
def numL (c : Nat) : List UInt8 := if c = 1 then [52, 48, 48, 48, 48, 48, 48, 48, 48, 48, 48, 48, 48, 48, 48, 50] else if c = 2 then [52, 49, 49, 49, 49, 49, 49, 49, 49, 49, 49, 49, 49, 49, 49, 49] else if c = 3 then [48, 48, 48, 48, 48, 48, 48, 48, 48, 48, 48, 48] else CARD
def keyK (k : Nat) : List UInt8 := [107, UInt8.ofNat (97 + k / 16), UInt8.ofNat (97 + k % 16)]
theorem numL_inj : ∀ c, c < 4 → ∀ d, d < 4 → numL c = numL d → c = d := by decide
theorem numL_chk : ∀ c, c < 4 → chk (numL c) = 0 := by decide
theorem keyK_inj {a b : Nat} (ha : a < 256) (hb : b < 256) (h : keyK a = keyK b) : a = b := by
  unfold keyK at h
  simp only [List.cons.injEq, true_and, and_true] at h
  have h1 := congrArg UInt8.toNat h.1
  have h2 := congrArg UInt8.toNat h.2
  rw [UInt8.toNat_ofNat', UInt8.toNat_ofNat'] at h1 h2
  omega
theorem place_inj {i j : Nat} (hi : i < 16) (hj : j < 16) (h1 : numL (i % 4) = numL (j % 4)) (h2 : ((i / 4 : Nat) : Int) = ((j / 4 : Nat) : Int)) : i = j := by
  have := numL_inj (i % 4) (by omega) (j % 4) (by omega) h1
  omega
theorem sumD_set (c : List UInt8) (t : Int) : ∀ {L : List Dec} {i : Nat} {x y : Dec}, L[i]? = some x → sumD c t (L.set i y) = sumD c t L - (if usedB c t x = true then x.amt else 0) + (if usedB c t y = true then y.amt else 0)
  | [], _, _, _, h => by simp at h
  | z :: l, 0, x, y, h => by
    simp at h
    subst h
    simp only [List.set_cons_zero, sumD]
    omega
  | z :: l, i + 1, x, y, h => by
    simp only [List.getElem?_cons_succ] at h
    simp only [List.set_cons_succ, sumD, sumD_set c t (L := l) (y := y) h]
    omega
theorem cntD_set (c : List UInt8) (t : Int) : ∀ {L : List Dec} {i : Nat} {x y : Dec}, L[i]? = some x → (cntD c t (L.set i y) : Int) = (cntD c t L : Int) - (if usedB c t x = true then 1 else 0) + (if usedB c t y = true then 1 else 0)
  | [], _, _, _, h => by simp at h
  | z :: l, 0, x, y, h => by
    simp at h
    subst h
    simp only [List.set_cons_zero, cntD]
    split <;> split <;> omega
  | z :: l, i + 1, x, y, h => by
    simp only [List.getElem?_cons_succ] at h
    have ih := cntD_set c t (L := l) (y := y) h
    simp only [List.set_cons_succ, cntD]
    omega
def KeyI (Ls : List Dec) (kn ap rv : Nat → Bool) (pl : Nat → Nat) (am : Nat → Int) (k : Nat) : Prop :=
  (posD (keyK k) Ls = none ∧ kn k = false ∧ ap k = false ∧ rv k = false) ∨
  ∃ i d, posD (keyK k) Ls = some i ∧ Ls[i]? = some d ∧ kn k = true ∧ ap k = d.app ∧ rv k = d.rev ∧ (d.app = true → pl k < 16 ∧ d.card = numL (pl k % 4) ∧ d.date = ((pl k / 4 : Nat) : Int) ∧ am k = d.amt)
/-- What the law keeps, as it is of the decisions. -/
def LimI (Ls : List Dec) (S N : Nat → Int) (kn ap rv : Nat → Bool) (pl : Nat → Nat) (am : Nat → Int) : Prop :=
  (∀ j, j < 16 → S j = sumD (numL (j % 4)) ((j / 4 : Nat) : Int) Ls ∧ N j = (cntD (numL (j % 4)) ((j / 4 : Nat) : Int) Ls : Int)) ∧ ∀ k, k < 256 → KeyI Ls kn ap rv pl am k
def upF {α : Type} (f : Nat → α) (k : Nat) (v : α) : Nat → α := fun m => if m = k then v else f m
theorem upF_self {α : Type} (f : Nat → α) (k : Nat) (v : α) : upF f k v k = v := if_pos rfl
theorem upF_ne {α : Type} (f : Nat → α) {k m : Nat} (v : α) (h : m ≠ k) : upF f k v m = f m := if_neg h
theorem lim_rev {Ls : List Dec} {S N : Nat → Int} {kn ap rv : Nat → Bool} {pl : Nat → Nat} {am : Nat → Int} (hu : KeyU Ls) (h : LimI Ls S N kn ap rv pl am) {k i : Nat} {d : Dec} (hk : k < 256) (hp : posD (keyK k) Ls = some i) (hd : Ls[i]? = some d) (ha : d.app = true) (hr : d.rev = false) :
    pl k < 16 ∧ LimI (Ls.set i { d with rev := true, wai := false }) (upF S (pl k) (S (pl k) - am k)) (upF N (pl k) (N (pl k) - 1)) kn ap (upF rv k true) pl am := by
  have hkk := h.2 k hk
  rcases hkk with ⟨hn, _⟩ | ⟨i', d', hp', hd', k1, k2, k3, k4⟩
  · rw [hn] at hp; cases hp
  rw [hp] at hp'
  cases hp'
  rw [hd] at hd'
  cases hd'
  obtain ⟨p1, p2, p3, p4⟩ := k4 ha
  refine ⟨p1, fun j hj => ?_, fun m hm => ?_⟩
  · obtain ⟨s1, s2⟩ := h.1 j hj
    rw [sumD_set _ _ hd, cntD_set _ _ hd]
    have hy : usedB (numL (j % 4)) ((j / 4 : Nat) : Int) { d with rev := true, wai := false } = false := by simp [usedB]
    rw [hy]
    by_cases e : j = pl k
    · subst e
      have hx : usedB (numL (pl k % 4)) ((pl k / 4 : Nat) : Int) d = true := by simp [usedB, p2, p3, ha, hr]
      rw [hx, upF_self, upF_self, s1, s2, p4]
      simp
    · have hx : usedB (numL (j % 4)) ((j / 4 : Nat) : Int) d = false := by
        rw [← Bool.not_eq_true]
        intro hx
        simp only [usedB, Bool.and_eq_true, decide_eq_true_eq] at hx
        exact e (place_inj hj p1 (by rw [← hx.1, p2]) (by rw [← hx.2.1, p3]))
      rw [hx, upF_ne _ _ e, upF_ne _ _ e, s1, s2]
      simp
  · unfold KeyI
    rw [posD_set (y := { d with rev := true, wai := false }) hd rfl]
    rcases h.2 m hm with ⟨q1, q2, q3, q4⟩ | ⟨i2, d2, q1, q2, q3, q4, q5, q6⟩
    · refine .inl ⟨q1, q2, q3, ?_⟩
      rw [upF_ne _ _ (fun e => by rw [e, hp] at q1; cases q1)]; exact q4
    · refine .inr ⟨i2, ?_⟩
      by_cases e : m = k
      · subst e
        rw [hp] at q1
        cases q1
        rw [hd] at q2
        cases q2
        exact ⟨{ d with rev := true, wai := false }, hp, List.getElem?_set_self (List.getElem?_eq_some_iff.1 hd).1, q3, q4, upF_self _ _ _, q6⟩
      · refine ⟨d2, q1, ?_, q3, q4, by rw [upF_ne _ _ e]; exact q5, q6⟩
        rw [List.getElem?_set_ne]
        · exact q2
        · intro e2
          subst e2
          obtain ⟨x1, y1, z1⟩ := posD_some hp
          obtain ⟨x2, y2, z2⟩ := posD_some q1
          rw [y1] at y2
          cases y2
          exact e (keyK_inj hm hk (by rw [← z1, ← z2]))
theorem lim_add {Ls : List Dec} {S N : Nat → Int} {kn ap rv : Nat → Bool} {pl : Nat → Nat} {am : Nat → Int} (h : LimI Ls S N kn ap rv pl am) {k p : Nat} {d : Dec} (hk : k < 256) (hp16 : p < 16) (hp : posD (keyK k) Ls = none) (k1 : d.key = keyK k) (k2 : d.card = numL (p % 4)) (k3 : d.date = ((p / 4 : Nat) : Int)) (k4 : d.rev = false) :
    (d.app = true → LimI (Ls ++ [d]) (upF S p (S p + d.amt)) (upF N p (N p + 1)) (upF kn k true) (upF ap k true) rv (upF pl k p) (upF am k d.amt)) ∧ (d.app = false → LimI (Ls ++ [d]) S N (upF kn k true) (upF ap k false) rv pl am) := by
  have hrv : rv k = false := by
    rcases h.2 k hk with ⟨_, _, _, q⟩ | ⟨i, d, q, _⟩
    · exact q
    · rw [hp] at q; cases q
  have kk : posD (keyK k) (Ls ++ [d]) = some Ls.length := by rw [posD_app, hp]; simp [k1]
  have other : ∀ m, m < 256 → m ≠ k → posD (keyK m) (Ls ++ [d]) = posD (keyK m) Ls := fun m hm e => by
    rw [posD_app]
    cases posD (keyK m) Ls with
    | some i => rfl
    | none => simp only; rw [if_neg (fun e2 => e (keyK_inj hm hk (by rw [← e2, k1])))]
  have keep : ∀ (m i : Nat) (x : Dec), posD (keyK m) Ls = some i → Ls[i]? = some x → (Ls ++ [d])[i]? = some x := fun m i x _ h2 => by
    rw [List.getElem?_append_left (List.getElem?_eq_some_iff.1 h2).1]; exact h2
  refine ⟨fun ha => ⟨fun j hj => ?_, fun m hm => ?_⟩, fun ha => ⟨fun j hj => ?_, fun m hm => ?_⟩⟩
  · obtain ⟨s1, s2⟩ := h.1 j hj
    rw [sumD_app, cntD_app]
    by_cases e : j = p
    · subst e
      have hx : usedB (numL (j % 4)) ((j / 4 : Nat) : Int) d = true := by simp [usedB, k2, k3, ha, k4]
      rw [upF_self, upF_self, s1, s2]
      simp only [sumD, cntD, hx, if_true, Bool.false_eq_true, if_false]
      constructor <;> omega
    · have hx : usedB (numL (j % 4)) ((j / 4 : Nat) : Int) d = false := by
        rw [← Bool.not_eq_true]
        intro hx
        simp only [usedB, Bool.and_eq_true, decide_eq_true_eq] at hx
        exact e (place_inj hj hp16 (by rw [← hx.1, k2]) (by rw [← hx.2.1, k3]))
      rw [upF_ne _ _ e, upF_ne _ _ e, s1, s2]
      simp only [sumD, cntD, hx, if_true, Bool.false_eq_true, if_false]
      constructor <;> omega
  · by_cases e : m = k
    · subst e
      exact .inr ⟨Ls.length, d, kk, by simp, upF_self _ _ _, by rw [upF_self, ha], by rw [hrv, k4], fun _ => by rw [upF_self, upF_self]; exact ⟨hp16, k2, k3, rfl⟩⟩
    · unfold KeyI
      rw [other m hm e, upF_ne _ _ e, upF_ne _ _ e, upF_ne _ _ e, upF_ne _ _ e]
      rcases h.2 m hm with q | ⟨i, x, q1, q2, q3⟩
      · exact .inl q
      · exact .inr ⟨i, x, q1, keep m i x q1 q2, q3⟩
  · obtain ⟨s1, s2⟩ := h.1 j hj
    rw [sumD_app, cntD_app, s1, s2]
    have hx : usedB (numL (j % 4)) ((j / 4 : Nat) : Int) d = false := by simp [usedB, ha]
    simp only [sumD, cntD, hx, if_true, Bool.false_eq_true, if_false]
    constructor <;> omega
  · by_cases e : m = k
    · subst e
      exact .inr ⟨Ls.length, d, kk, by simp, upF_self _ _ _, by rw [upF_self, ha], by rw [hrv, k4], fun h => by rw [ha] at h; cases h⟩
    · unfold KeyI
      rw [other m hm e, upF_ne _ _ e, upF_ne _ _ e]
      rcases h.2 m hm with q | ⟨i, x, q1, q2, q3⟩
      · exact .inl q
      · exact .inr ⟨i, x, q1, keep m i x q1 q2, q3⟩
theorem lim_init : LimI [] (fun _ => 0) (fun _ => 0) (fun _ => false) (fun _ => false) (fun _ => false) (fun _ => 0) (fun _ => 0) :=
  ⟨fun j hj => ⟨rfl, rfl⟩, fun k hk => .inl ⟨rfl, rfl, rfl, rfl⟩⟩
/-! ### Arrays -/
def ArrI (cs : Array Value) (n : Nat) (f : Nat → Int) : Prop := cs.size = n ∧ ∀ k, k < n → cs[k]? = some (.int .i64 (f k))
def ArrB (cs : Array Value) (n : Nat) (f : Nat → Bool) : Prop := cs.size = n ∧ ∀ k, k < n → cs[k]? = some (.bool (f k))
theorem ArrI.set {cs : Array Value} {n : Nat} {f : Nat → Int} (h : ArrI cs n f) {k : Nat} (hk : k < n) (v : Int) : ArrI (cs.setIfInBounds k (.int .i64 v)) n (upF f k v) := by
  refine ⟨by simpa using h.1, fun m hm => ?_⟩
  rw [Array.getElem?_setIfInBounds]
  by_cases e : k = m
  · subst e
    rw [if_pos rfl, upF_self]
    have : k < cs.size := by rw [h.1]; exact hk
    simp [this]
  · rw [if_neg e, upF_ne _ _ (fun e2 => e e2.symm)]
    exact h.2 m hm
theorem ArrB.set {cs : Array Value} {n : Nat} {f : Nat → Bool} (h : ArrB cs n f) {k : Nat} (hk : k < n) (v : Bool) : ArrB (cs.setIfInBounds k (.bool v)) n (upF f k v) := by
  refine ⟨by simpa using h.1, fun m hm => ?_⟩
  rw [Array.getElem?_setIfInBounds]
  by_cases e : k = m
  · subst e
    rw [if_pos rfl, upF_self]
    have : k < cs.size := by rw [h.1]; exact hk
    simp [this]
  · rw [if_neg e, upF_ne _ _ (fun e2 => e e2.symm)]
    exact h.2 m hm
theorem ArrI.zero (n : Nat) : ArrI (List.replicate n (Value.int .i64 0)).toArray n (fun _ => 0) := ⟨by simp, fun k hk => by simp [hk]⟩
theorem ArrB.zero (n : Nat) : ArrB (List.replicate n (Value.bool false)).toArray n (fun _ => false) := ⟨by simp, fun k hk => by simp [hk]⟩
end Go.Proofs.Ytmjkjpjjckcihaa
