/-
Adjustments: the plain law of what movements there are.
Conditions: none.
-/
import Derived.Test.YtejcnpllodgmlaaDoorRec4
import Derived.Test.YtejcnpllodgmlaaDoorStg
import Derived.Test.YtejcnpllodgmlaaDoorIto
namespace Go.Proofs.YtejcnpllodgmlaaDoor
open Go.Vm
set_option linter.unusedSimpArgs false
set_option linter.unusedVariables false
set_option maxRecDepth 20000
structure Rc where
  kd : Int
  id : ByteArray
  au : ByteArray
  aq : ByteArray
  is : ByteArray
  me : ByteArray
  ca : ByteArray
  am : Int
  cu : ByteArray
  da : Int
  ct : Int
  fi : Bool
def Rc.cells (r : Rc) : List Value := [.int .i64 r.kd, .string r.id, .string r.au, .string r.aq, .string r.is, .string r.me, .string r.ca, .int .i64 r.am, .string r.cu, .int .i64 r.da, .int .i64 r.ct, .bool r.fi]
theorem Rc.len (r : Rc) : r.cells.length = 12 := rfl
theorem Rc.agg (r : Rc) : Value.agg r.cells.toArray = .agg #[.int .i64 r.kd, .string r.id, .string r.au, .string r.aq, .string r.is, .string r.me, .string r.ca, .int .i64 r.am, .string r.cu, .int .i64 r.da, .int .i64 r.ct, .bool r.fi] := rfl
structure Cs where
  id : ByteArray
  rc : ByteArray
  rs : ByteArray
  is : ByteArray
  aq : ByteArray
  am : Int
  cu : ByteArray
  st : Int
  op : Int
  du : Int
def Cs.cells (c : Cs) : List Value := [.string c.id, .string c.rc, .string c.rs, .string c.is, .string c.aq, .int .i64 c.am, .string c.cu, .int .i64 c.st, .int .i64 c.op, .int .i64 c.du]
def holdF (s : Int) : Int := if s = 1 ∨ s = 5 then 1 else if 0 ≤ s ∧ s ≤ 6 then 2 else 0
def stepF (s t : Int) (e : Nat) : Bool := decide ((nextF s (e : Int)).2 = 0) && decide ((nextF s (e : Int)).1 = t)
/-- Does one of the events from e on lead from s to t? -/
def anyF (s t : Int) : Nat → Nat → Bool
  | 0, _ => false
  | k + 1, e => stepF s t e || anyF s t k (e + 1)
def follF (s t : Int) : Bool := if s = 0 then decide (t = 1) else anyF s t 7 1
def decB (n : Nat) : ByteArray := bs (Lib.decDigits n)
def movI (c : Cs) (n : Nat) : ByteArray := c.id ++ ⟨#[45]⟩ ++ decB n
def movR (c : Cs) (r : Rc) (t d : Int) (n : Nat) : Rc := ⟨if holdF t = 2 then 4 else 3, movI c n, ⟨#[]⟩, r.aq, r.is, r.me, r.ca, c.am, c.cu, d, r.ct, true⟩
def rcE (r : Rc) : Int := chkRG r.kd r.id r.au r.aq r.is r.me r.ca r.am r.cu r.da r.ct
/-- The error of a movement. -/
def movE (c : Cs) (r : Rc) (s t d n : Int) : Int :=
  if s < 0 ∨ 6 < s ∨ t < 1 ∨ 6 < t then 4 else if follF s t = false then 8 else if rcE r ≠ 0 then rcE r else if r.kd ≠ 1 then 4 else if c.rc ≠ r.id then 6 else if c.cu ≠ r.cu then 11
  else if c.am < 1 ∨ r.am < c.am ∨ n < 1 ∨ 99 < n then 4 else if d < r.da ∨ 99999 < d then 14 else rcE (movR c r t d n.toNat)
def rc0 : Rc := ⟨0, ⟨#[]⟩, ⟨#[]⟩, ⟨#[]⟩, ⟨#[]⟩, ⟨#[]⟩, ⟨#[]⟩, 0, ⟨#[]⟩, 0, 0, false⟩
def movX (c : Cs) (r : Rc) (s t d n : Int) : Rc := if movE c r s t d n = 0 ∧ holdF s ≠ holdF t then movR c r t d n.toNat else rc0
def movB (c : Cs) (r : Rc) (s t d n : Int) : Bool := decide (movE c r s t d n = 0 ∧ holdF s ≠ holdF t)
def movV (c : Cs) (r : Rc) (s t d n : Int) : Value := .tuple #[.agg (movX c r s t d n).cells.toArray, .bool (movB c r s t d n), .int .i64 (movE c r s t d n)]
/-- The movements of a list of stages, or the first error. -/
def movL (c : Cs) (r : Rc) (d : Int) : List Int → Int → List Rc → List Rc × Int
  | [], _, out => (out, 0)
  | t :: l, s, out => if movE c r s t d (out.length + 1 : Nat) ≠ 0 then ([], movE c r s t d (out.length + 1 : Nat)) else movL c r d l t (if holdF s = holdF t then out else out ++ [movR c r t d (out.length + 1)])
def netN (x : Rc) : Int := if x.am < 1 ∨ 999999999999 < x.am then 0 else if x.kd = 3 then x.am else if x.kd = 4 then - x.am else 0
def netF : List Rc → Int
  | [] => 0
  | x :: l => netN x + netF l
def finF (c : Cs) : List Rc → Int → Bool
  | [], h => decide (h = holdF c.st)
  | x :: l, h => if x.am = c.am ∧ x.cu = c.cu then (if x.kd = 3 ∧ h = 2 then finF c l 1 else if x.kd = 4 ∧ h = 1 then finF c l 2 else false) else false
theorem netF_app (a b : List Rc) : netF (a ++ b) = netF a + netF b := by
  induction a with
  | nil => simp [netF]
  | cons x a ih => simp only [List.cons_append, netF, ih]; omega
/-! ### The holder -/
/-- A movement of the case with this kind. -/
def IsM (c : Cs) (r : Rc) (d : Int) (k : Int) (x : Rc) : Prop := x.kd = k ∧ x.am = c.am ∧ x.cu = c.cu ∧ x.ca = r.ca ∧ x.da = d
inductive Alt (c : Cs) (r : Rc) (d : Int) : Int → List Rc → Prop
  | s0 : Alt c r d 0 []
  | s1 {x} : IsM c r d 3 x → Alt c r d 1 [x]
  | s2 {x y} : IsM c r d 3 x → IsM c r d 4 y → Alt c r d 2 [x, y]
  | s3 {x y} : IsM c r d 3 x → IsM c r d 4 y → Alt c r d 3 [x, y]
  | s4 {x y} : IsM c r d 3 x → IsM c r d 4 y → Alt c r d 4 [x, y]
  | s5a {x} : IsM c r d 3 x → Alt c r d 5 [x]
  | s5b {x y z} : IsM c r d 3 x → IsM c r d 4 y → IsM c r d 3 z → Alt c r d 5 [x, y, z]
  | s6 {x y} : IsM c r d 3 x → IsM c r d 4 y → Alt c r d 6 [x, y]
theorem foll_all : ((List.range 7).all fun s => (List.range 7).all fun t => !follF (s : Nat) (t : Nat) || [(0, 1), (1, 2), (1, 5), (2, 3), (2, 6), (3, 4), (3, 5), (4, 5), (4, 6)].contains (s, t)) = true := by decide +kernel
theorem foll_cases (s : Nat) (hs : s < 7) (t : Nat) (ht : t < 7) (h : follF (s : Nat) (t : Nat) = true) : (s, t) ∈ [(0, 1), (1, 2), (1, 5), (2, 3), (2, 6), (3, 4), (3, 5), (4, 5), (4, 6)] := by
  have h1 := List.all_eq_true.1 (List.all_eq_true.1 foll_all s (List.mem_range.2 hs)) t (List.mem_range.2 ht)
  rw [h, Bool.not_true, Bool.false_or] at h1
  simpa using h1
theorem mov_ok {c : Cs} {r : Rc} {s t d n : Int} (h : movE c r s t d n = 0) : (0 ≤ s ∧ s ≤ 6 ∧ 1 ≤ t ∧ t ≤ 6) ∧ follF s t = true ∧ rcE r = 0 ∧ 1 ≤ c.am ∧ c.am ≤ r.am := by
  unfold movE at h
  split at h
  · cases h
  split at h
  · cases h
  split at h
  · rename_i _ _ h3; exact absurd h h3
  split at h
  · cases h
  split at h
  · cases h
  split at h
  · cases h
  split at h
  · cases h
  rename_i h1 h2 h3 _ _ _ h7
  exact ⟨by omega, by simpa using h2, by simpa using h3, by omega, by omega⟩
theorem alt_step {c : Cs} {r : Rc} {s t d n : Int} {out : List Rc} (ha : Alt c r d s out) (h : movE c r s t d n = 0) (m : Nat) : Alt c r d t (if holdF s = holdF t then out else out ++ [movR c r t d m]) := by
  obtain ⟨⟨h1, h2, h3, h4⟩, hf, _⟩ := mov_ok h
  obtain ⟨s, rfl⟩ := Int.eq_ofNat_of_zero_le h1
  obtain ⟨t, rfl⟩ := Int.eq_ofNat_of_zero_le (show 0 ≤ t by omega)
  have hc := foll_cases s (by omega) t (by omega) hf
  have m3 : ∀ u : Int, holdF u ≠ 2 → IsM c r d 3 (movR c r u d m) := fun u hu => ⟨by simp [movR, hu], rfl, rfl, rfl, rfl⟩
  have m4 : ∀ u : Int, holdF u = 2 → IsM c r d 4 (movR c r u d m) := fun u hu => ⟨by simp [movR, hu], rfl, rfl, rfl, rfl⟩
  simp only [List.mem_cons, Prod.mk.injEq, List.not_mem_nil, or_false] at hc
  rcases hc with ⟨rfl, rfl⟩ | ⟨rfl, rfl⟩ | ⟨rfl, rfl⟩ | ⟨rfl, rfl⟩ | ⟨rfl, rfl⟩ | ⟨rfl, rfl⟩ | ⟨rfl, rfl⟩ | ⟨rfl, rfl⟩ | ⟨rfl, rfl⟩
  · rw [if_neg (by decide)]; cases ha; exact .s1 (m3 _ (by decide))
  · rw [if_neg (by decide)]; cases ha; exact .s2 (by assumption) (m4 _ (by decide))
  · rw [if_pos (by decide)]; cases ha; exact .s5a (by assumption)
  · rw [if_pos (by decide)]; cases ha; exact .s3 (by assumption) (by assumption)
  · rw [if_pos (by decide)]; cases ha; exact .s6 (by assumption) (by assumption)
  · rw [if_pos (by decide)]; cases ha; exact .s4 (by assumption) (by assumption)
  · rw [if_neg (by decide)]; cases ha; exact .s5b (by assumption) (by assumption) (m3 _ (by decide))
  · rw [if_neg (by decide)]; cases ha; exact .s5b (by assumption) (by assumption) (m3 _ (by decide))
  · rw [if_pos (by decide)]; cases ha; exact .s6 (by assumption) (by assumption)
def lastI : List Int → Int → Int
  | [], s => s
  | t :: l, _ => lastI l t
theorem alt_all {c : Cs} {r : Rc} {d : Int} : ∀ (l : List Int) (s : Int) (out : List Rc), Alt c r d s out → (movL c r d l s out).2 = 0 → Alt c r d (lastI l s) (movL c r d l s out).1
  | [], s, out, ha, _ => ha
  | t :: l, s, out, ha, h => by
    simp only [movL] at h ⊢
    split at h
    · rename_i h1; exact absurd h h1
    · rename_i h1
      simp only [ne_eq, Decidable.not_not] at h1
      rw [if_neg (by simpa using h1)]
      exact alt_all l t _ (alt_step ha h1 _) h
theorem mov_am {c : Cs} {r : Rc} {d : Int} : ∀ (l : List Int) (s : Int) (out : List Rc), l ≠ [] → (movL c r d l s out).2 = 0 → 1 ≤ c.am ∧ c.am ≤ 999999999999
  | [], _, _, h, _ => absurd rfl h
  | t :: l, s, out, _, h => by
    simp only [movL] at h
    split at h
    · rename_i h1; exact absurd h h1
    · rename_i h1
      simp only [ne_eq, Decidable.not_not] at h1
      obtain ⟨_, _, hr, h2, h3⟩ := mov_ok h1
      have : r.am ≤ 999999999999 := by
        unfold rcE chkRG at hr
        split at hr
        · cases hr
        split at hr
        · cases hr
        split at hr
        · cases hr
        split at hr
        · rename_i h; exact absurd hr h
        split at hr
        · cases hr
        · omega
      omega
theorem mov_err {c : Cs} {r : Rc} {d : Int} : ∀ (l : List Int) (s : Int) (out : List Rc), (movL c r d l s out).2 ≠ 0 → (movL c r d l s out).1 = []
  | [], s, out, h => absurd rfl h
  | t :: l, s, out, h => by
    simp only [movL] at h ⊢
    split
    · rfl
    · rename_i h1
      rw [if_neg h1] at h
      exact mov_err l t _ h
/-- What the law asks of the movements. -/
theorem alt_law {c : Cs} {r : Rc} {d s : Int} {out : List Rc} (ha : Alt c r d s out) (hs : s = 0 ∨ (1 ≤ c.am ∧ c.am ≤ 999999999999)) :
    out.length ≤ 3 ∧ netF out = (if holdF s = 1 then c.am else 0) ∧ (∀ i x, out[i]? = some x → x.kd = (if i % 2 = 1 then 4 else 3) ∧ x.am = c.am ∧ x.cu = c.cu ∧ x.ca = r.ca ∧ x.da = d) ∧ finF { c with st := s } out 2 = true := by
  have n3 : ∀ x, IsM c r d 3 x → 1 ≤ c.am ∧ c.am ≤ 999999999999 → netN x = c.am := fun x h hb => by
    unfold netN; rw [h.2.1, h.1, if_neg (by omega)]; simp
  have n4 : ∀ x, IsM c r d 4 x → 1 ≤ c.am ∧ c.am ≤ 999999999999 → netN x = - c.am := fun x h hb => by
    unfold netN; rw [h.2.1, h.1, if_neg (by omega)]; simp
  cases ha with
  | s0 => exact ⟨by simp, rfl, by intro i x h; simp at h, rfl⟩
  | s1 hx =>
    have hb := hs.resolve_left (by decide)
    refine ⟨by simp, by simp only [netF, n3 _ hx hb]; rw [if_pos (by decide)]; omega, ?_, by simp only [finF, hx.2.1, hx.2.2.1, hx.1]; simp; decide⟩
    intro i x h
    match i, h with
    | 0, h => simp at h; subst h; exact ⟨hx.1, hx.2⟩
  | s2 hx hy =>
    have hb := hs.resolve_left (by decide)
    refine ⟨by simp, by simp only [netF, n3 _ hx hb, n4 _ hy hb]; rw [if_neg (by decide)]; omega, ?_, by simp only [finF, hx.2.1, hx.2.2.1, hx.1, hy.2.1, hy.2.2.1, hy.1]; simp; decide⟩
    intro i x h
    match i, h with
    | 0, h => simp at h; subst h; exact ⟨hx.1, hx.2⟩
    | 1, h => simp at h; subst h; exact ⟨hy.1, hy.2⟩
  | s3 hx hy =>
    have hb := hs.resolve_left (by decide)
    refine ⟨by simp, by simp only [netF, n3 _ hx hb, n4 _ hy hb]; rw [if_neg (by decide)]; omega, ?_, by simp only [finF, hx.2.1, hx.2.2.1, hx.1, hy.2.1, hy.2.2.1, hy.1]; simp; decide⟩
    intro i x h
    match i, h with
    | 0, h => simp at h; subst h; exact ⟨hx.1, hx.2⟩
    | 1, h => simp at h; subst h; exact ⟨hy.1, hy.2⟩
  | s4 hx hy =>
    have hb := hs.resolve_left (by decide)
    refine ⟨by simp, by simp only [netF, n3 _ hx hb, n4 _ hy hb]; rw [if_neg (by decide)]; omega, ?_, by simp only [finF, hx.2.1, hx.2.2.1, hx.1, hy.2.1, hy.2.2.1, hy.1]; simp; decide⟩
    intro i x h
    match i, h with
    | 0, h => simp at h; subst h; exact ⟨hx.1, hx.2⟩
    | 1, h => simp at h; subst h; exact ⟨hy.1, hy.2⟩
  | s6 hx hy =>
    have hb := hs.resolve_left (by decide)
    refine ⟨by simp, by simp only [netF, n3 _ hx hb, n4 _ hy hb]; rw [if_neg (by decide)]; omega, ?_, by simp only [finF, hx.2.1, hx.2.2.1, hx.1, hy.2.1, hy.2.2.1, hy.1]; simp; decide⟩
    intro i x h
    match i, h with
    | 0, h => simp at h; subst h; exact ⟨hx.1, hx.2⟩
    | 1, h => simp at h; subst h; exact ⟨hy.1, hy.2⟩
  | s5a hx =>
    have hb := hs.resolve_left (by decide)
    refine ⟨by simp, by simp only [netF, n3 _ hx hb]; rw [if_pos (by decide)]; omega, ?_, by simp only [finF, hx.2.1, hx.2.2.1, hx.1]; simp; decide⟩
    intro i x h
    match i, h with
    | 0, h => simp at h; subst h; exact ⟨hx.1, hx.2⟩
  | s5b hx hy hz =>
    have hb := hs.resolve_left (by decide)
    refine ⟨by simp, by simp only [netF, n3 _ hx hb, n4 _ hy hb, n3 _ hz hb]; rw [if_pos (by decide)]; omega, ?_, by simp only [finF, hx.2.1, hx.2.2.1, hx.1, hy.2.1, hy.2.2.1, hy.1, hz.2.1, hz.2.2.1, hz.1]; simp; decide⟩
    intro i x h
    match i, h with
    | 0, h => simp at h; subst h; exact ⟨hx.1, hx.2⟩
    | 1, h => simp at h; subst h; exact ⟨hy.1, hy.2⟩
    | 2, h => simp at h; subst h; exact ⟨hz.1, hz.2⟩
end Go.Proofs.YtejcnpllodgmlaaDoor
