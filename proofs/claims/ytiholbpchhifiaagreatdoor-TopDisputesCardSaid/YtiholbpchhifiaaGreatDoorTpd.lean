/-
The course of a dispute with one reason, as data: what a round leads to.
Conditions: none.
-/
import Derived.Test.YtiholbpchhifiaaGreatDoorDsr
import Derived.Test.YtiholbpchhifiaaGreatDoorAdjN
namespace Go.Proofs.YtiholbpchhifiaaGreatDoor
open Go.Vm
set_option linter.unusedSimpArgs false
set_option linter.unusedVariables false
set_option maxHeartbeats 1000000
set_option maxRecDepth 20000
def fraudT : Txt := [102, 114, 97, 117, 100]
def dT : Txt := [100]
def pT : Txt := [112]
def homeT : Txt := [104, 111, 109, 101, 98, 97, 110, 107]
def shopT : Txt := [115, 104, 111, 112, 98, 97, 110, 107]
def mT : Txt := [109, 49]
def cardT : Txt := [52, 48, 48, 48, 48, 48, 48, 48, 48, 48, 48, 48, 48, 48, 48, 50]
def eurT : Txt := [69, 85, 82]
def rTop : Rd := ⟨1, pT, [], shopT, homeT, mT, cardT, 1000, eurT, 10, 5411, true⟩
def rnTop : Rn := ⟨fraudT, 120, 45, 30, 20, [], []⟩
def caTop (a st du : Int) : Ca := ⟨dT, pT, fraudT, homeT, shopT, a, eurT, st, 20, du⟩
theorem topOpen (a : Int) : openE [rnTop] [] dT rTop fraudT a 20 [] = if a < 1 ∨ 1000 < a then 4 else 0 := by
  have e1 : idF (bs dT) = true := by decide +kernel
  have e2 : recE rTop = 0 := by decide +kernel
  have e3 : findR fraudT [rnTop] = some rnTop := by simp [findR, rnTop]
  have e4 : dueF rnTop 0 10 = (130, 0) := by decide +kernel
  have e5 : suffF [] [] = true := by decide +kernel
  unfold openE
  rw [if_neg (by rw [e1]; simp), if_neg (by simp [posF]), if_neg (by simp)]
  unfold checkX
  rw [if_neg (by simp [e2]), if_neg (by simp [rTop]), if_neg (by simp [e3])]
  by_cases h : a < 1 ∨ 1000 < a
  · rw [if_pos (show a < 1 ∨ rTop.am < a from h), if_pos h]
  · rw [if_neg (show ¬ (a < 1 ∨ rTop.am < a) from h), if_neg (by simp only [dspF, rTop]; omega), if_neg (by simp only [rTop]; omega), e3, Option.getD_some, if_neg (by rw [show rTop.da = 10 from rfl, e4]; simp), if_neg (by rw [show needsF rnTop 1 = [] from rfl, e5]; simp), if_neg h]
theorem topFirst (a : Int) : openF [rnTop] dT rTop fraudT a 20 = ⟨caTop a 1 65, [1], 20⟩ := by
  have : dueX [rnTop] fraudT 1 20 = 65 := by decide +kernel
  simp [openF, enterX, this, caTop, rTop]
def ChT (s : Int) : List Int → Prop
  | [] => True
  | t :: l => follF s t = true ∧ (1 ≤ t ∧ t ≤ 6) ∧ ChT t l
def lasT (s : Int) : List Int → Int
  | [] => s
  | t :: l => lasT t l
theorem lasT_app : ∀ (h : List Int) (s t : Int), lasT s (h ++ [t]) = t
  | [], _, _ => rfl
  | x :: h, s, t => lasT_app h x t
theorem chT_app : ∀ {h : List Int} {s t : Int}, ChT s h → follF (lasT s h) t = true → 1 ≤ t ∧ t ≤ 6 → ChT s (h ++ [t])
  | [], s, t, _, h2, h3 => ⟨h2, h3, trivial⟩
  | x :: h, s, t, h1, h2, h3 => ⟨h1.1, h1.2.1, chT_app h1.2.2 h2 h3⟩
theorem chT_at : ∀ {h : List Int} {s : Int} {k : Nat} {t : Int}, ChT s h → h[k]? = some t → follF (lasT s (h.take k)) t = true ∧ 1 ≤ t ∧ t ≤ 6
  | x :: h, s, 0, t, h1, h2 => by
    simp at h2
    subst h2
    exact ⟨h1.1, h1.2.1⟩
  | x :: h, s, k + 1, t, h1, h2 => by
    have := chT_at (k := k) h1.2.2 (by simpa using h2)
    simpa [lasT] using this
theorem lasT_take {h : List Int} {s : Int} {k : Nat} {t : Int} (h2 : h[k]? = some t) : lasT s (h.take (k + 1)) = t := by
  rw [List.take_add_one, h2]
  exact lasT_app _ _ _
theorem lasT_rng : ∀ {h : List Int} {s : Int} (k : Nat), ChT s h → 0 ≤ s ∧ s ≤ 6 → 0 ≤ lasT s (h.take k) ∧ lasT s (h.take k) ≤ 6
  | [], s, k, _, h => by simpa [lasT] using h
  | x :: l, s, 0, _, h => by simpa [lasT] using h
  | x :: l, s, k + 1, h1, h => by
    have := lasT_rng (h := l) (s := x) k h1.2.2 (by have := h1.2.1; omega)
    simpa [lasT] using this
/-- What a case of the top is. -/
structure TopI (a d : Int) (f : Fd) : Prop where
  c : f.c = caTop a f.c.st f.c.du
  st : 1 ≤ f.c.st ∧ f.c.st ≤ 6
  len : (f.h.length : Int) ≤ f.c.st
  ne : f.h ≠ []
  ch : ChT 0 f.h
  ls : lasT 0 f.h = f.c.st
  last : 20 ≤ f.last ∧ f.last ≤ d
  du : if f.c.st ≤ 3 then f.c.du ≤ f.last + 45 else f.c.du = 0
theorem TopI.mono {a d d' : Int} {f : Fd} (h : TopI a d f) (hd : d ≤ d') : TopI a d' f := ⟨h.c, h.st, h.len, h.ne, h.ch, h.ls, ⟨h.last.1, by have := h.last.2; omega⟩, h.du⟩
theorem topStart (a : Int) : TopI a 20 (openF [rnTop] dT rTop fraudT a 20) := by
  rw [topFirst]
  exact ⟨rfl, by simp [caTop], by simp [caTop], by simp, ⟨by decide +kernel, by decide, trivial⟩, rfl, by simp, by simp [caTop]⟩
theorem next_all : ((List.range 7).all fun s => (List.range 8).all fun e => !(decide ((nextF (s : Nat) (e : Nat)).2 = 0)) || (follF (s : Nat) (nextF (s : Nat) (e : Nat)).1 && (decide ((s : Int) < (nextF (s : Nat) (e : Nat)).1) && decide ((nextF (s : Nat) (e : Nat)).1 ≤ 6)))) = true := by decide +kernel
theorem next_ok {s e : Int} (hs : 1 ≤ s ∧ s ≤ 6) (he : 1 ≤ e ∧ e ≤ 7) (h : (nextF s e).2 = 0) : follF s (nextF s e).1 = true ∧ s < (nextF s e).1 ∧ (nextF s e).1 ≤ 6 := by
  obtain ⟨s, rfl⟩ : ∃ n : Nat, s = (n : Int) := ⟨s.toNat, by omega⟩
  obtain ⟨e, rfl⟩ : ∃ n : Nat, e = (n : Int) := ⟨e.toNat, by omega⟩
  have h1 := List.all_eq_true.1 next_all s (List.mem_range.2 (by omega))
  have h2 := List.all_eq_true.1 h1 e (List.mem_range.2 (by omega))
  simp only [Bool.or_eq_true, Bool.not_eq_true', decide_eq_false_iff_not, Bool.and_eq_true, decide_eq_true_eq] at h2
  rcases h2 with h2 | h2
  · exact absurd h h2
  · exact h2
theorem topDue {t d : Int} (ht : 1 ≤ t ∧ t ≤ 6) (hd : 20 ≤ d ∧ d ≤ 90000) : if t ≤ 3 then dueX [rnTop] fraudT t d ≤ d + 45 else dueX [rnTop] fraudT t d = 0 := by
  have e3 : findR fraudT [rnTop] = some rnTop := by simp [findR, rnTop]
  have cases6 : t = 1 ∨ t = 2 ∨ t = 3 ∨ t = 4 ∨ t = 5 ∨ t = 6 := by omega
  unfold dueX
  rw [e3, Option.getD_some]
  rcases cases6 with rfl | rfl | rfl | rfl | rfl | rfl
  all_goals simp only [dueF, daysF, rnTop, okD]
  all_goals simp
  all_goals (repeat' split)
  all_goals omega
theorem TopI.enter {a d t date : Int} {f : Fd} (h : TopI a d f) (hd : d ≤ date) (hb : date ≤ 90000) (hf : follF f.c.st t = true) (h1 : f.c.st < t) (h2 : t ≤ 6) : TopI a date (enterX [rnTop] f t date) := by
  have hst := h.st
  have hlast := h.last
  have hl := h.len
  have hrea : f.c.rea = fraudT := by rw [h.c]; rfl
  refine ⟨?_, ⟨by simp only [enterX]; omega, by simp only [enterX]; omega⟩, ?_, ?_, ?_, ?_, ⟨by simp only [enterX]; omega, by simp only [enterX]; omega⟩, ?_⟩
  · simp only [enterX]
    rw [h.c]
    rfl
  · simp only [enterX, List.length_append, List.length_singleton]; omega
  · simp [enterX]
  · simp only [enterX]
    exact chT_app h.ch (by rw [h.ls]; exact hf) (by omega)
  · simp only [enterX]
    exact lasT_app _ _ _
  · simp only [enterX, hrea]
    exact topDue (by omega) (by omega)
/-- A round of the law. -/
def rndX (ex : Bool) (e date : Int) (F : List Fd) : List Fd := (stepX [rnTop] (if ex = true then (expX [rnTop] F date).2 else F) dT e date []).2
theorem stepX_top {a d e date : Int} {f : Fd} (h : TopI a d f) (hd : d ≤ date) (hb : date ≤ 90000) : ∃ f', (stepX [rnTop] [f] dT e date []).2 = [f'] ∧ TopI a date f' ∧ ∃ x, f'.h = f.h ++ x := by
  have hid : f.c.id = dT := by rw [h.c]; rfl
  have hp : posF dT [f] = some 0 := by simp [posF, hid]
  unfold stepX
  rw [hp]
  simp only [List.getElem?_cons_zero]
  by_cases hs : stepE [rnTop] f e date [] = 0
  · have hn : (nextF f.c.st e).2 = 0 ∧ 1 ≤ e ∧ e ≤ 7 := by
      unfold stepE at hs
      split at hs
      · cases hs
      split at hs
      · cases hs
      · rename_i h1 h2
        exact ⟨by simpa using h2, by omega, by omega⟩
    obtain ⟨n1, n2, n3⟩ := next_ok h.st hn.2 hn.1
    rw [if_neg (by simp [hs])]
    exact ⟨_, rfl, h.enter hd hb n1 n2 n3, _, rfl⟩
  · rw [if_pos hs]
    exact ⟨f, rfl, h.mono hd, [], by simp⟩
theorem expX_top {a d date : Int} {f : Fd} (h : TopI a d f) (hd : d ≤ date) (hb : date ≤ 90000) : (expX [rnTop] [f] date).2 = [expF [rnTop] date f] ∧ TopI a date (expF [rnTop] date f) ∧ ∃ x, (expF [rnTop] date f).h = f.h ++ x := by
  have hl := h.last
  have ho : okDate date = true := by simp [okDate]; omega
  refine ⟨by simp [expX, ho], ?_⟩
  unfold expF
  by_cases hx : dueB f date = true
  · rw [if_pos hx]
    have hn : (nextF f.c.st 7).2 = 0 := by simp only [dueB, Bool.and_eq_true, decide_eq_true_eq] at hx; exact hx.1
    obtain ⟨n1, n2, n3⟩ := next_ok h.st (by omega) hn
    exact ⟨h.enter hd hb n1 n2 n3, _, rfl⟩
  · rw [if_neg hx]
    exact ⟨h.mono hd, [], by simp⟩
/-- The last round ends the case. -/
theorem topEnd {a d date e : Int} {f : Fd} (h : TopI a d f) (hd : d + 1000 = date) (hb : date ≤ 90000) (he : e = 5 ∨ e = 6) : ∀ f', (stepX [rnTop] (expX [rnTop] [f] date).2 dT e date []).2 = [f'] → (f'.c.st = 5 ∨ f'.c.st = 6) ∧ f'.c.du = 0 := by
  intro f' hf'
  obtain ⟨x1, x2, _⟩ := expX_top h (by omega) hb
  rw [x1] at hf'
  have hid : (expF [rnTop] date f).c.id = dT := by rw [x2.c]; rfl
  have hl := h.last
  have hdu := h.du
  have hst := h.st
  have s6 : ∀ g : Fd, g.c.st = 5 ∨ g.c.st = 6 → g.c.id = dT → (stepX [rnTop] [g] dT e date []).2 = [g] := fun g hg hi => by
    have hp : posF dT [g] = some 0 := by simp [posF, hi]
    have hn : (nextF g.c.st e).2 ≠ 0 := by rcases hg with h | h <;> rcases he with q | q <;> rw [h, q] <;> decide
    have hs : stepE [rnTop] g e date [] ≠ 0 := by
      unfold stepE
      rw [if_neg (by omega), if_pos hn]
      decide
    unfold stepX
    rw [hp]
    simp only [List.getElem?_cons_zero]
    rw [if_pos hs]
  have due0 : ∀ t : Int, t = 5 ∨ t = 6 → dueX [rnTop] f.c.rea t date = 0 := fun t ht => by
    unfold dueX
    rw [if_pos (by omega)]
  by_cases h3 : f.c.st ≤ 3
  · rw [if_pos h3] at hdu
    have hn : (nextF f.c.st 7).2 = 0 ∧ ((nextF f.c.st 7).1 = 5 ∨ (nextF f.c.st 7).1 = 6) := by
      have : f.c.st = 1 ∨ f.c.st = 2 ∨ f.c.st = 3 := by omega
      rcases this with h | h | h <;> rw [h] <;> decide
    have hx : dueB f date = true := by
      simp only [dueB, Bool.and_eq_true, decide_eq_true_eq]
      exact ⟨hn.1, by omega⟩
    have he : expF [rnTop] date f = enterX [rnTop] f (nextF f.c.st 7).1 date := by unfold expF; rw [if_pos hx]
    rw [he] at hf' hid
    rw [s6 _ hn.2 hid] at hf'
    cases hf'
    exact ⟨hn.2, due0 _ hn.2⟩
  · have hx : dueB f date = false := by
      have : f.c.st = 4 ∨ f.c.st = 5 ∨ f.c.st = 6 := by omega
      unfold dueB
      rcases this with h | h | h <;> rw [h] <;> simp [nextF]
    have he2 : expF [rnTop] date f = f := by unfold expF; rw [if_neg (by rw [hx]; simp)]
    rw [he2] at hf' hid
    rw [if_neg h3] at hdu
    by_cases h4 : f.c.st = 4
    · have hp : posF dT [f] = some 0 := by simp [posF, hid]
      have hn : (nextF f.c.st e).2 = 0 ∧ ((nextF f.c.st e).1 = 5 ∨ (nextF f.c.st e).1 = 6) := by rw [h4]; rcases he with q | q <;> rw [q] <;> decide
      have hs : stepE [rnTop] f e date [] = 0 := by
        unfold stepE
        rw [if_neg (by omega), if_neg (by rw [hn.1]; simp), if_neg (by omega), if_neg (by omega), if_neg]
        simp [suffF]
        omega
      unfold stepX at hf'
      rw [hp] at hf'
      simp only [List.getElem?_cons_zero] at hf'
      rw [if_neg (by simp [hs])] at hf'
      cases hf'
      exact ⟨hn.2, due0 _ hn.2⟩
    · have h56 : f.c.st = 5 ∨ f.c.st = 6 := by omega
      rw [s6 f h56 hid] at hf'
      cases hf'
      exact ⟨h56, hdu⟩
/-- The case as the adjusting functions see it. -/
def csOf (c : Ca) : Cs := ⟨bs c.id, bs c.rcd, bs c.rea, bs c.iss, bs c.acq, c.amt, bs c.cur, c.st, c.op, c.du⟩
def rcTop : Rc := ⟨1, bs pT, bs [], bs shopT, bs homeT, bs mT, bs cardT, 1000, bs eurT, 10, 5411, true⟩
theorem topMove {a s t d st du : Int} {n : Nat} (ha : 1 ≤ a ∧ a ≤ 1000) (hs : 0 ≤ s ∧ s ≤ 6) (ht : 1 ≤ t ∧ t ≤ 6) (hf : follF s t = true) (hn : 1 ≤ n ∧ n ≤ 7) (hd : 20 ≤ d ∧ d ≤ 90000) : movE (csOf (caTop a st du)) rcTop s t d (n : Int) = 0 := by
  have e1 : rcE rcTop = 0 := by decide +kernel
  have idn : idF (movI (csOf (caTop a st du)) n) = true := by
    rw [show movI (csOf (caTop a st du)) n = bs dT ++ ⟨#[45]⟩ ++ decB n from rfl]
    have : n = 1 ∨ n = 2 ∨ n = 3 ∨ n = 4 ∨ n = 5 ∨ n = 6 ∨ n = 7 := by omega
    rcases this with rfl | rfl | rfl | rfl | rfl | rfl | rfl <;> decide +kernel
  have q1 : nameF (bs shopT) = true := by decide +kernel
  have q2 : nameF (bs homeT) = true := by decide +kernel
  have q3 : idF (bs mT) = true := by decide +kernel
  have q4 : chkF (bs cardT) = 0 := by decide +kernel
  have q5 : curF (bs eurT) = true := by decide +kernel
  have q6 : totB a = true := by simp [totB]; omega
  have q7 : (⟨#[]⟩ : ByteArray).toList = [] := by decide +kernel
  have hm : rcE (movR (csOf (caTop a st du)) rcTop t d ((n : Int)).toNat) = 0 := by
    unfold rcE movR
    simp only [Int.toNat_natCast]
    unfold chkRG
    rw [if_neg (by split <;> omega), if_neg (by simp [namesF, idn, q1, q2, q3, q7, rcTop]), if_neg (by simp [rcTop, q4]), if_neg (by simp [monF, csOf, caTop, q5, q6]), if_neg (by simp [csOf, caTop, rcTop]; omega), if_neg (by simp; omega)]
  unfold movE
  rw [if_neg (by omega), if_neg (by simp [hf]), if_neg (by simp [e1]), if_neg (by simp [rcTop]), if_neg (by simp [csOf, caTop, rcTop]), if_neg (by simp [csOf, caTop, rcTop]), if_neg (by simp only [csOf, caTop, rcTop]; omega), if_neg (by simp only [rcTop]; omega)]
  exact hm
theorem hold12 {s : Int} (h : 0 ≤ s ∧ s ≤ 6) : holdF s = 1 ∨ holdF s = 2 := by
  unfold holdF
  split
  · exact .inl rfl
  · first | exact .inr rfl | (rw [if_pos h]; exact .inr rfl)
end Go.Proofs.YtiholbpchhifiaaGreatDoor
