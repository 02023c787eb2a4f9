/-
The move of a sale and its law (adjustment).
Conditions: none.
-/
import Derived.Test.YtiholbpchhifiaaGreatDoorRec
import Derived.Test.YtiholbpchhifiaaGreatDoorStg
import Derived.Test.YtiholbpchhifiaaGreatDoorIto
import Derived.Test.YtiholbpchhifiaaGreatDoorDsr
import Derived.Test.YtiholbpchhifiaaGreatDoorVmAB
namespace Go.Proofs.YtiholbpchhifiaaGreatDoor
open Go.Vm
set_option linter.unusedSimpArgs false
set_option linter.unusedVariables false
set_option maxRecDepth 20000
theorem vbAdjN : type_of% (And.intro @slIndexByte_v (And.intro @indexByte_v (And.intro @indexRune_v (And.intro @containsRune_v (And.intro @classOf_v (And.intro @isWordByte_v (And.intro @wordAt_v (And.intro @isName_v (And.intro @recId_v (And.intro @moneyCur_v (And.intro @inTotal_v (And.intro @exCard_v (And.intro @recCheck_v (And.intro @dNext_v (And.intro @possible_v (And.intro @days_v (And.intro @due_v (And.intro @evName_v (@evCheck_v))))))))))))))))))) := And.intro @slIndexByte_v (And.intro @indexByte_v (And.intro @indexRune_v (And.intro @containsRune_v (And.intro @classOf_v (And.intro @isWordByte_v (And.intro @wordAt_v (And.intro @isName_v (And.intro @recId_v (And.intro @moneyCur_v (And.intro @inTotal_v (And.intro @exCard_v (And.intro @recCheck_v (And.intro @dNext_v (And.intro @possible_v (And.intro @days_v (And.intro @due_v (And.intro @evName_v (@evCheck_v))))))))))))))))))
theorem pbAdjN : type_of% (And.intro @slIndexByte_p (And.intro @indexByte_p (And.intro @indexRune_p (And.intro @containsRune_p (And.intro @classOf_p (And.intro @isWordByte_p (And.intro @wordAt_p (And.intro @isName_p (And.intro @recId_p (And.intro @moneyCur_p (And.intro @inTotal_p (And.intro @monCheck_p (And.intro @exKind_p (And.intro @exNames_p (And.intro @exAmount_p (And.intro @exLimits_p (And.intro @exDate_p (@dNext_p)))))))))))))))))) := And.intro @slIndexByte_p (And.intro @indexByte_p (And.intro @indexRune_p (And.intro @containsRune_p (And.intro @classOf_p (And.intro @isWordByte_p (And.intro @wordAt_p (And.intro @isName_p (And.intro @recId_p (And.intro @moneyCur_p (And.intro @inTotal_p (And.intro @monCheck_p (And.intro @exKind_p (And.intro @exNames_p (And.intro @exAmount_p (And.intro @exLimits_p (And.intro @exDate_p (@dNext_p)))))))))))))))))
structure Rc where
  kd : Int
  id : ByteArray
  au : ByteArray
  aq : ByteArray
  is : ByteArray
  me : ByteArray
  ca : ByteArray
  am : Int
  cu : ByteArray
  da : Int
  ct : Int
  fi : Bool
def Rc.cells (r : Rc) : List Value := [.int .i64 r.kd, .string r.id, .string r.au, .string r.aq, .string r.is, .string r.me, .string r.ca, .int .i64 r.am, .string r.cu, .int .i64 r.da, .int .i64 r.ct, .bool r.fi]
theorem Rc.len (r : Rc) : r.cells.length = 12 := rfl
theorem Rc.agg (r : Rc) : Value.agg r.cells.toArray = .agg #[.int .i64 r.kd, .string r.id, .string r.au, .string r.aq, .string r.is, .string r.me, .string r.ca, .int .i64 r.am, .string r.cu, .int .i64 r.da, .int .i64 r.ct, .bool r.fi] := rfl
structure Cs where
  id : ByteArray
  rc : ByteArray
  rs : ByteArray
  is : ByteArray
  aq : ByteArray
  am : Int
  cu : ByteArray
  st : Int
  op : Int
  du : Int
def Cs.cells (c : Cs) : List Value := [.string c.id, .string c.rc, .string c.rs, .string c.is, .string c.aq, .int .i64 c.am, .string c.cu, .int .i64 c.st, .int .i64 c.op, .int .i64 c.du]
def holdF (s : Int) : Int := if s = 1 ∨ s = 5 then 1 else if 0 ≤ s ∧ s ≤ 6 then 2 else 0
def stepF (s t : Int) (e : Nat) : Bool := decide ((nextF s (e : Int)).2 = 0) && decide ((nextF s (e : Int)).1 = t)
/-- Does one of the events from e on lead from s to t? -/
def anyF (s t : Int) : Nat → Nat → Bool
  | 0, _ => false
  | k + 1, e => stepF s t e || anyF s t k (e + 1)
def follF (s t : Int) : Bool := if s = 0 then decide (t = 1) else anyF s t 7 1
def decB (n : Nat) : ByteArray := bs (Lib.decDigits n)
def movI (c : Cs) (n : Nat) : ByteArray := c.id ++ ⟨#[45]⟩ ++ decB n
def movR (c : Cs) (r : Rc) (t d : Int) (n : Nat) : Rc := ⟨if holdF t = 2 then 4 else 3, movI c n, ⟨#[]⟩, r.aq, r.is, r.me, r.ca, c.am, c.cu, d, r.ct, true⟩
def rcE (r : Rc) : Int := chkRG r.kd r.id r.au r.aq r.is r.me r.ca r.am r.cu r.da r.ct
/-- The error of a movement. -/
def movE (c : Cs) (r : Rc) (s t d n : Int) : Int :=
  if s < 0 ∨ 6 < s ∨ t < 1 ∨ 6 < t then 4 else if follF s t = false then 8 else if rcE r ≠ 0 then rcE r else if r.kd ≠ 1 then 4 else if c.rc ≠ r.id then 6 else if c.cu ≠ r.cu then 11
  else if c.am < 1 ∨ r.am < c.am ∨ n < 1 ∨ 99 < n then 4 else if d < r.da ∨ 99999 < d then 14 else rcE (movR c r t d n.toNat)
def rc0 : Rc := ⟨0, ⟨#[]⟩, ⟨#[]⟩, ⟨#[]⟩, ⟨#[]⟩, ⟨#[]⟩, ⟨#[]⟩, 0, ⟨#[]⟩, 0, 0, false⟩
def movX (c : Cs) (r : Rc) (s t d n : Int) : Rc := if movE c r s t d n = 0 ∧ holdF s ≠ holdF t then movR c r t d n.toNat else rc0
def movB (c : Cs) (r : Rc) (s t d n : Int) : Bool := decide (movE c r s t d n = 0 ∧ holdF s ≠ holdF t)
def movV (c : Cs) (r : Rc) (s t d n : Int) : Value := .tuple #[.agg (movX c r s t d n).cells.toArray, .bool (movB c r s t d n), .int .i64 (movE c r s t d n)]
/-- The movements of a list of stages, or the first error. -/
def movL (c : Cs) (r : Rc) (d : Int) : List Int → Int → List Rc → List Rc × Int
  | [], _, out => (out, 0)
  | t :: l, s, out => if movE c r s t d (out.length + 1 : Nat) ≠ 0 then ([], movE c r s t d (out.length + 1 : Nat)) else movL c r d l t (if holdF s = holdF t then out else out ++ [movR c r t d (out.length + 1)])
def netN (x : Rc) : Int := if x.am < 1 ∨ 999999999999 < x.am then 0 else if x.kd = 3 then x.am else if x.kd = 4 then - x.am else 0
def netF : List Rc → Int
  | [] => 0
  | x :: l => netN x + netF l
def finF (c : Cs) : List Rc → Int → Bool
  | [], h => decide (h = holdF c.st)
  | x :: l, h => if x.am = c.am ∧ x.cu = c.cu then (if x.kd = 3 ∧ h = 2 then finF c l 1 else if x.kd = 4 ∧ h = 1 then finF c l 2 else false) else false
theorem netF_app (a b : List Rc) : netF (a ++ b) = netF a + netF b := by
  induction a with
  | nil => simp [netF]
  | cons x a ih => simp only [List.cons_append, netF, ih]; omega
/-! ### The holder -/
/-- A movement of the case with this kind. -/
def IsM (c : Cs) (r : Rc) (d : Int) (k : Int) (x : Rc) : Prop := x.kd = k ∧ x.am = c.am ∧ x.cu = c.cu ∧ x.ca = r.ca ∧ x.da = d
inductive Alt (c : Cs) (r : Rc) (d : Int) : Int → List Rc → Prop
  | s0 : Alt c r d 0 []
  | s1 {x} : IsM c r d 3 x → Alt c r d 1 [x]
  | s2 {x y} : IsM c r d 3 x → IsM c r d 4 y → Alt c r d 2 [x, y]
  | s3 {x y} : IsM c r d 3 x → IsM c r d 4 y → Alt c r d 3 [x, y]
  | s4 {x y} : IsM c r d 3 x → IsM c r d 4 y → Alt c r d 4 [x, y]
  | s5a {x} : IsM c r d 3 x → Alt c r d 5 [x]
  | s5b {x y z} : IsM c r d 3 x → IsM c r d 4 y → IsM c r d 3 z → Alt c r d 5 [x, y, z]
  | s6 {x y} : IsM c r d 3 x → IsM c r d 4 y → Alt c r d 6 [x, y]
theorem foll_all : ((List.range 7).all fun s => (List.range 7).all fun t => !follF (s : Nat) (t : Nat) || [(0, 1), (1, 2), (1, 5), (2, 3), (2, 6), (3, 4), (3, 5), (4, 5), (4, 6)].contains (s, t)) = true := by decide +kernel
theorem foll_cases (s : Nat) (hs : s < 7) (t : Nat) (ht : t < 7) (h : follF (s : Nat) (t : Nat) = true) : (s, t) ∈ [(0, 1), (1, 2), (1, 5), (2, 3), (2, 6), (3, 4), (3, 5), (4, 5), (4, 6)] := by
  have h1 := List.all_eq_true.1 (List.all_eq_true.1 foll_all s (List.mem_range.2 hs)) t (List.mem_range.2 ht)
  rw [h, Bool.not_true, Bool.false_or] at h1
  simpa using h1
theorem mov_ok {c : Cs} {r : Rc} {s t d n : Int} (h : movE c r s t d n = 0) : (0 ≤ s ∧ s ≤ 6 ∧ 1 ≤ t ∧ t ≤ 6) ∧ follF s t = true ∧ rcE r = 0 ∧ 1 ≤ c.am ∧ c.am ≤ r.am := by
  unfold movE at h
  split at h
  · cases h
  split at h
  · cases h
  split at h
  · rename_i _ _ h3; exact absurd h h3
  split at h
  · cases h
  split at h
  · cases h
  split at h
  · cases h
  split at h
  · cases h
  rename_i h1 h2 h3 _ _ _ h7
  exact ⟨by omega, by simpa using h2, by simpa using h3, by omega, by omega⟩
theorem alt_step {c : Cs} {r : Rc} {s t d n : Int} {out : List Rc} (ha : Alt c r d s out) (h : movE c r s t d n = 0) (m : Nat) : Alt c r d t (if holdF s = holdF t then out else out ++ [movR c r t d m]) := by
  obtain ⟨⟨h1, h2, h3, h4⟩, hf, _⟩ := mov_ok h
  obtain ⟨s, rfl⟩ := Int.eq_ofNat_of_zero_le h1
  obtain ⟨t, rfl⟩ := Int.eq_ofNat_of_zero_le (show 0 ≤ t by omega)
  have hc := foll_cases s (by omega) t (by omega) hf
  have m3 : ∀ u : Int, holdF u ≠ 2 → IsM c r d 3 (movR c r u d m) := fun u hu => ⟨by simp [movR, hu], rfl, rfl, rfl, rfl⟩
  have m4 : ∀ u : Int, holdF u = 2 → IsM c r d 4 (movR c r u d m) := fun u hu => ⟨by simp [movR, hu], rfl, rfl, rfl, rfl⟩
  simp only [List.mem_cons, Prod.mk.injEq, List.not_mem_nil, or_false] at hc
  rcases hc with ⟨rfl, rfl⟩ | ⟨rfl, rfl⟩ | ⟨rfl, rfl⟩ | ⟨rfl, rfl⟩ | ⟨rfl, rfl⟩ | ⟨rfl, rfl⟩ | ⟨rfl, rfl⟩ | ⟨rfl, rfl⟩ | ⟨rfl, rfl⟩
  · rw [if_neg (by decide)]; cases ha; exact .s1 (m3 _ (by decide))
  · rw [if_neg (by decide)]; cases ha; exact .s2 (by assumption) (m4 _ (by decide))
  · rw [if_pos (by decide)]; cases ha; exact .s5a (by assumption)
  · rw [if_pos (by decide)]; cases ha; exact .s3 (by assumption) (by assumption)
  · rw [if_pos (by decide)]; cases ha; exact .s6 (by assumption) (by assumption)
  · rw [if_pos (by decide)]; cases ha; exact .s4 (by assumption) (by assumption)
  · rw [if_neg (by decide)]; cases ha; exact .s5b (by assumption) (by assumption) (m3 _ (by decide))
  · rw [if_neg (by decide)]; cases ha; exact .s5b (by assumption) (by assumption) (m3 _ (by decide))
  · rw [if_pos (by decide)]; cases ha; exact .s6 (by assumption) (by assumption)
def lastI : List Int → Int → Int
  | [], s => s
  | t :: l, _ => lastI l t
theorem alt_all {c : Cs} {r : Rc} {d : Int} : ∀ (l : List Int) (s : Int) (out : List Rc), Alt c r d s out → (movL c r d l s out).2 = 0 → Alt c r d (lastI l s) (movL c r d l s out).1
  | [], s, out, ha, _ => ha
  | t :: l, s, out, ha, h => by
    simp only [movL] at h ⊢
    split at h
    · rename_i h1; exact absurd h h1
    · rename_i h1
      simp only [ne_eq, Decidable.not_not] at h1
      rw [if_neg (by simpa using h1)]
      exact alt_all l t _ (alt_step ha h1 _) h
theorem mov_am {c : Cs} {r : Rc} {d : Int} : ∀ (l : List Int) (s : Int) (out : List Rc), l ≠ [] → (movL c r d l s out).2 = 0 → 1 ≤ c.am ∧ c.am ≤ 999999999999
  | [], _, _, h, _ => absurd rfl h
  | t :: l, s, out, _, h => by
    simp only [movL] at h
    split at h
    · rename_i h1; exact absurd h h1
    · rename_i h1
      simp only [ne_eq, Decidable.not_not] at h1
      obtain ⟨_, _, hr, h2, h3⟩ := mov_ok h1
      have : r.am ≤ 999999999999 := by
        unfold rcE chkRG at hr
        split at hr
        · cases hr
        split at hr
        · cases hr
        split at hr
        · cases hr
        split at hr
        · rename_i h; exact absurd hr h
        split at hr
        · cases hr
        · omega
      omega
theorem mov_err {c : Cs} {r : Rc} {d : Int} : ∀ (l : List Int) (s : Int) (out : List Rc), (movL c r d l s out).2 ≠ 0 → (movL c r d l s out).1 = []
  | [], s, out, h => absurd rfl h
  | t :: l, s, out, h => by
    simp only [movL] at h ⊢
    split
    · rfl
    · rename_i h1
      rw [if_neg h1] at h
      exact mov_err l t _ h
/-- What the law asks of the movements. -/
theorem alt_law {c : Cs} {r : Rc} {d s : Int} {out : List Rc} (ha : Alt c r d s out) (hs : s = 0 ∨ (1 ≤ c.am ∧ c.am ≤ 999999999999)) :
    out.length ≤ 3 ∧ netF out = (if holdF s = 1 then c.am else 0) ∧ (∀ i x, out[i]? = some x → x.kd = (if i % 2 = 1 then 4 else 3) ∧ x.am = c.am ∧ x.cu = c.cu ∧ x.ca = r.ca ∧ x.da = d) ∧ finF { c with st := s } out 2 = true := by
  have n3 : ∀ x, IsM c r d 3 x → 1 ≤ c.am ∧ c.am ≤ 999999999999 → netN x = c.am := fun x h hb => by
    unfold netN; rw [h.2.1, h.1, if_neg (by omega)]; simp
  have n4 : ∀ x, IsM c r d 4 x → 1 ≤ c.am ∧ c.am ≤ 999999999999 → netN x = - c.am := fun x h hb => by
    unfold netN; rw [h.2.1, h.1, if_neg (by omega)]; simp
  cases ha with
  | s0 => exact ⟨by simp, rfl, by intro i x h; simp at h, rfl⟩
  | s1 hx =>
    have hb := hs.resolve_left (by decide)
    refine ⟨by simp, by simp only [netF, n3 _ hx hb]; rw [if_pos (by decide)]; omega, ?_, by simp only [finF, hx.2.1, hx.2.2.1, hx.1]; simp; decide⟩
    intro i x h
    match i, h with
    | 0, h => simp at h; subst h; exact ⟨hx.1, hx.2⟩
  | s2 hx hy =>
    have hb := hs.resolve_left (by decide)
    refine ⟨by simp, by simp only [netF, n3 _ hx hb, n4 _ hy hb]; rw [if_neg (by decide)]; omega, ?_, by simp only [finF, hx.2.1, hx.2.2.1, hx.1, hy.2.1, hy.2.2.1, hy.1]; simp; decide⟩
    intro i x h
    match i, h with
    | 0, h => simp at h; subst h; exact ⟨hx.1, hx.2⟩
    | 1, h => simp at h; subst h; exact ⟨hy.1, hy.2⟩
  | s3 hx hy =>
    have hb := hs.resolve_left (by decide)
    refine ⟨by simp, by simp only [netF, n3 _ hx hb, n4 _ hy hb]; rw [if_neg (by decide)]; omega, ?_, by simp only [finF, hx.2.1, hx.2.2.1, hx.1, hy.2.1, hy.2.2.1, hy.1]; simp; decide⟩
    intro i x h
    match i, h with
    | 0, h => simp at h; subst h; exact ⟨hx.1, hx.2⟩
    | 1, h => simp at h; subst h; exact ⟨hy.1, hy.2⟩
  | s4 hx hy =>
    have hb := hs.resolve_left (by decide)
    refine ⟨by simp, by simp only [netF, n3 _ hx hb, n4 _ hy hb]; rw [if_neg (by decide)]; omega, ?_, by simp only [finF, hx.2.1, hx.2.2.1, hx.1, hy.2.1, hy.2.2.1, hy.1]; simp; decide⟩
    intro i x h
    match i, h with
    | 0, h => simp at h; subst h; exact ⟨hx.1, hx.2⟩
    | 1, h => simp at h; subst h; exact ⟨hy.1, hy.2⟩
  | s6 hx hy =>
    have hb := hs.resolve_left (by decide)
    refine ⟨by simp, by simp only [netF, n3 _ hx hb, n4 _ hy hb]; rw [if_neg (by decide)]; omega, ?_, by simp only [finF, hx.2.1, hx.2.2.1, hx.1, hy.2.1, hy.2.2.1, hy.1]; simp; decide⟩
    intro i x h
    match i, h with
    | 0, h => simp at h; subst h; exact ⟨hx.1, hx.2⟩
    | 1, h => simp at h; subst h; exact ⟨hy.1, hy.2⟩
  | s5a hx =>
    have hb := hs.resolve_left (by decide)
    refine ⟨by simp, by simp only [netF, n3 _ hx hb]; rw [if_pos (by decide)]; omega, ?_, by simp only [finF, hx.2.1, hx.2.2.1, hx.1]; simp; decide⟩
    intro i x h
    match i, h with
    | 0, h => simp at h; subst h; exact ⟨hx.1, hx.2⟩
  | s5b hx hy hz =>
    have hb := hs.resolve_left (by decide)
    refine ⟨by simp, by simp only [netF, n3 _ hx hb, n4 _ hy hb, n3 _ hz hb]; rw [if_pos (by decide)]; omega, ?_, by simp only [finF, hx.2.1, hx.2.2.1, hx.1, hy.2.1, hy.2.2.1, hy.1, hz.2.1, hz.2.2.1, hz.1]; simp; decide⟩
    intro i x h
    match i, h with
    | 0, h => simp at h; subst h; exact ⟨hx.1, hx.2⟩
    | 1, h => simp at h; subst h; exact ⟨hy.1, hy.2⟩
    | 2, h => simp at h; subst h; exact ⟨hz.1, hz.2⟩
set_option linter.unusedSimpArgs false
set_option linter.unusedVariables false
set_option maxHeartbeats 2000000
set_option maxRecDepth 20000
theorem holder_h (s : Int) (h : Heap) : CallsH Tryz.prog 15 #[.int .i64 s] h fun r h' => r = .returned (.int .i64 (holdF s)) ∧ h' = h := by
  refine callsH_of_den ⟨Tryz.prog, 15, Tryz.f15, 18, [0, 2, 3], _⟩ (args := [_]) Tryz.func15 rfl Tryz.ntmps15 (by simp) ?_
  simp only [argE_nil, argE_cons, ↓vmD, vmV, vmStd, Nat.reduceMul, ↓reduceIte, Nat.reduceAdd, Nat.reduceSub, Nat.reduceEqDiff, Nat.reduceLT, Nat.reduceLeDiff, reduceCtorEq, Int.reduceToNat, Int.reduceLT, Int.reduceLE, Int.reduceEq, Int.reduceNeg, Int.reduceBEq, Int.reduceBNe, String.reduceEq, forall_const, tyS, pbAdjN]
  simp only [holdF]
  grind (splits := 30)
theorem holder_p (s : Int) (h : Heap) (Q : Ending → Heap → Prop) : CallsX Tryz.prog 15 #[.int .i64 s] h Q = Q (.returned (.int .i64 (holdF s))) (h) := CallsX.exact (by kernel_rfl) (holder_h s h)
theorem holder_q (s : Int) (h : Heap) (nt_ : Nat) (dst_ : Option Nat) (ρ_ : Env) (K_ : Env → Prop) : callQ Tryz.prog nt_ dst_ (.func (.func 15) #[] #[]) [.int .i64 s] ρ_ h K_ = putK nt_ dst_ (.int .i64 (holdF s)) ρ_ K_ := callQ_exact (by kernel_rfl) (by kernel_rfl) (holder_h s h)
theorem holder_v (s : Int) (A_ : AH) : valA Tryz.prog 15 #[.int .i64 s] A_ = some (.int .i64 (holdF s)) := pureA_e (by kernel_rfl) (by kernel_rfl) (fun h => holder_h s h)
theorem i_beq0 (n m : Int) : (n == m) = decide (n = m) := by
  by_cases h : n = m
  · subst h; simp
  · simp [h]
theorem foll_h (s t : Int) : CallA Tryz.prog 31 #[.int .i64 s, .int .i64 t] [] (fun u_ _ => u_ = .bool (follF s t)) := by
  refine callA_of_denA ⟨Tryz.prog, 31, Tryz.f31, 29, [0, 1, 4, 5, 6, 7], [], [], _⟩ (args := [_, _]) Tryz.func31 rfl (by kernel_rfl) Tryz.ntmps31 (by simp) (by kernel_rfl) ?_
  intro ν fr; have nuE := fr.nu
  by_cases h0 : s = 0
  · have hv : follF s t = decide (t = 1) := by unfold follF; rw [if_pos h0]
    subst h0
    simp (maxDischargeDepth := 16) only [argE_nil, argE_cons, ↓vmD, vmV, vmStd, Nat.reduceMul, ↓reduceIte, Nat.reduceAdd, Nat.reduceSub, Nat.reduceEqDiff, Nat.reduceLT, Nat.reduceLeDiff, reduceCtorEq, Int.reduceToNat, Int.reduceLT, Int.reduceLE, Int.reduceEq, Int.reduceNeg, Int.reduceBEq, Int.reduceBNe, String.reduceEq, forall_const, ↓vmDA, vmVA, ↓vmQA, vmR, vmRA, ↓vmSA, vmSV, tyS, nuE, vbAdjN, holder_v, i_beq0, hv, decide_true]
  have z : decide (s = 0) = false := by simp [h0]
  have hv : follF s t = anyF s t 7 1 := by unfold follF; rw [if_neg h0]
  simp (maxDischargeDepth := 16) only [argE_nil, argE_cons, ↓vmD, vmV, vmStd, Nat.reduceMul, ↓reduceIte, Nat.reduceAdd, Nat.reduceSub, Nat.reduceEqDiff, Nat.reduceLT, Nat.reduceLeDiff, reduceCtorEq, Int.reduceToNat, Int.reduceLT, Int.reduceLE, Int.reduceEq, Int.reduceNeg, Int.reduceBEq, Int.reduceBNe, String.reduceEq, forall_const, ↓vmDA, vmVA, ↓vmQA, vmR, vmRA, ↓vmSA, vmSV, tyS, nuE, vbAdjN, holder_v, i_beq0, z]
  obtain ⟨e, k, he, hk, hh⟩ : ∃ e k : Nat, e = 1 ∧ e + k = 8 ∧ follF s t = anyF s t k e := ⟨1, 7, rfl, rfl, hv⟩
  rw [show (5, some (Value.int .i64 1)) = (5, some (Value.int .i64 (e : Int))) by rw [he]; rfl]
  clear he hv nuE fr
  induction k generalizing e with
  | zero =>
    have lt : ((e : Int) ≤ 7) = False := eq_false (by omega)
    have hv : follF s t = false := by rw [hh]; rfl
    refine LoopA.intro (by kernel_rfl) ?_
    intro ν fr; have nuE := fr.nu
    simp (maxDischargeDepth := 16) only [argE_nil, argE_cons, ↓vmD, vmV, vmStd, Nat.reduceMul, ↓reduceIte, Nat.reduceAdd, Nat.reduceSub, Nat.reduceEqDiff, Nat.reduceLT, Nat.reduceLeDiff, reduceCtorEq, Int.reduceToNat, Int.reduceLT, Int.reduceLE, Int.reduceEq, Int.reduceNeg, Int.reduceBEq, Int.reduceBNe, String.reduceEq, forall_const, ↓vmDA, vmVA, ↓vmQA, vmR, vmRA, ↓vmSA, vmSV, tyS, nuE, vbAdjN, holder_v, lt, hv]
  | succ k ih =>
    have lt : ((e : Int) ≤ 7) = True := eq_true (by omega)
    have we : IntKind.i64.wrap ((e : Int) + 1) = ((e + 1 : Nat) : Int) := by rw [w_i64 (by omega) (by omega)]; omega
    refine LoopA.intro (by kernel_rfl) ?_
    intro ν fr; have nuE := fr.nu
    by_cases h1 : (nextF s (e : Int)).2 = 0
    · have d1 : decide ((nextF s (e : Int)).2 = 0) = true := by simpa using h1
      by_cases h2 : (nextF s (e : Int)).1 = t
      · have d2 : decide ((nextF s (e : Int)).1 = t) = true := by simpa using h2
        have hv : follF s t = true := by rw [hh]; simp [anyF, stepF, h1, h2]
        simp (maxDischargeDepth := 16) only [argE_nil, argE_cons, ↓vmD, vmV, vmStd, Nat.reduceMul, ↓reduceIte, Nat.reduceAdd, Nat.reduceSub, Nat.reduceEqDiff, Nat.reduceLT, Nat.reduceLeDiff, reduceCtorEq, Int.reduceToNat, Int.reduceLT, Int.reduceLE, Int.reduceEq, Int.reduceNeg, Int.reduceBEq, Int.reduceBNe, String.reduceEq, forall_const, ↓vmDA, vmVA, ↓vmQA, vmR, vmRA, ↓vmSA, vmSV, tyS, nuE, vbAdjN, holder_v, lt, i_beq0, d1, d2, hv]
      · have d2 : decide ((nextF s (e : Int)).1 = t) = false := by simpa using h2
        simp (maxDischargeDepth := 16) only [argE_nil, argE_cons, ↓vmD, vmV, vmStd, Nat.reduceMul, ↓reduceIte, Nat.reduceAdd, Nat.reduceSub, Nat.reduceEqDiff, Nat.reduceLT, Nat.reduceLeDiff, reduceCtorEq, Int.reduceToNat, Int.reduceLT, Int.reduceLE, Int.reduceEq, Int.reduceNeg, Int.reduceBEq, Int.reduceBNe, String.reduceEq, forall_const, ↓vmDA, vmVA, ↓vmQA, vmR, vmRA, ↓vmSA, vmSV, tyS, nuE, vbAdjN, holder_v, lt, i_beq0, d1, d2, we]
        exact LoopA.weak (ih (e + 1) (by omega) (by rw [hh]; simp [anyF, stepF, h2])) (by simp only [subE, get_cons, Nat.reduceEqDiff, ↓reduceIte, reduceCtorEq, Nat.reduceAdd, and_self, and_true]) (SubA.refl _)
    · have d1 : decide ((nextF s (e : Int)).2 = 0) = false := by simpa using h1
      simp (maxDischargeDepth := 16) only [argE_nil, argE_cons, ↓vmD, vmV, vmStd, Nat.reduceMul, ↓reduceIte, Nat.reduceAdd, Nat.reduceSub, Nat.reduceEqDiff, Nat.reduceLT, Nat.reduceLeDiff, reduceCtorEq, Int.reduceToNat, Int.reduceLT, Int.reduceLE, Int.reduceEq, Int.reduceNeg, Int.reduceBEq, Int.reduceBNe, String.reduceEq, forall_const, ↓vmDA, vmVA, ↓vmQA, vmR, vmRA, ↓vmSA, vmSV, tyS, nuE, vbAdjN, holder_v, lt, i_beq0, d1, we]
      exact LoopA.weak (ih (e + 1) (by omega) (by rw [hh]; simp [anyF, stepF, h1])) (by simp only [subE, get_cons, Nat.reduceEqDiff, ↓reduceIte, reduceCtorEq, Nat.reduceAdd, and_self, and_true]) (SubA.refl _)
theorem foll_v (s t : Int) (A_ : AH) : valA Tryz.prog 31 #[.int .i64 s, .int .i64 t] A_ = some (.bool (follF s t)) := valA_eq (pureA_of (by kernel_rfl) (foll_h s t))
theorem dig_sl : ∀ (d : Nat), d < 10 → (ByteArray.mk #[48, 49, 50, 51, 52, 53, 54, 55, 56, 57]).extract d (d + 1) = bs [UInt8.ofNat (48 + d)] := by decide
set_option linter.unusedSimpArgs false
set_option linter.unusedVariables false
set_option maxHeartbeats 4000000
set_option maxRecDepth 20000
def SzR (r : Rc) : Prop := r.id.size ≤ 140737488351232 ∧ r.au.size ≤ 140737488351232 ∧ r.aq.size ≤ 140737488351232 ∧ r.is.size ≤ 140737488351232 ∧ r.me.size ≤ 140737488351232 ∧ r.ca.size ≤ 140737488351232 ∧ r.cu.size ≤ 140737488351232
def SzC (c : Cs) : Prop := c.id.size ≤ 140737488351232 ∧ c.cu.size ≤ 140737488351232
theorem movV_err {c : Cs} {r : Rc} {s t d n k : Int} (h : movE c r s t d n = k) (hk : k ≠ 0) : movV c r s t d n = .tuple #[.agg #[.int .i64 0, .string ⟨#[]⟩, .string ⟨#[]⟩, .string ⟨#[]⟩, .string ⟨#[]⟩, .string ⟨#[]⟩, .string ⟨#[]⟩, .int .i64 0, .string ⟨#[]⟩, .int .i64 0, .int .i64 0, .bool false], .bool false, .int .i64 k] := by
  have hn : ¬ movE c r s t d n = 0 := by rw [h]; exact hk
  unfold movV movX movB
  rw [if_neg (fun x => hn x.1), h, decide_eq_false (fun x => hk x.1)]
  rfl
theorem movV_no {c : Cs} {r : Rc} {s t d n : Int} (h : movE c r s t d n = 0) (hk : holdF s = holdF t) : movV c r s t d n = .tuple #[.agg #[.int .i64 0, .string ⟨#[]⟩, .string ⟨#[]⟩, .string ⟨#[]⟩, .string ⟨#[]⟩, .string ⟨#[]⟩, .string ⟨#[]⟩, .int .i64 0, .string ⟨#[]⟩, .int .i64 0, .int .i64 0, .bool false], .bool false, .int .i64 0] := by
  unfold movV movX movB
  rw [if_neg (fun x => x.2 hk), h, decide_eq_false (fun x => x.2 hk)]
  rfl
theorem movV_yes {c : Cs} {r : Rc} {s t d n : Int} (h : movE c r s t d n = 0) (hk : holdF s ≠ holdF t) : movV c r s t d n = .tuple #[.agg (movR c r t d n.toNat).cells.toArray, .bool true, .int .i64 0] := by
  unfold movV movX movB
  rw [if_pos ⟨h, hk⟩, h, decide_eq_true ⟨rfl, hk⟩]
theorem dec_size (n : Nat) (h : n ≤ 99) : (decB n).size ≤ 2 := by
  unfold decB
  rw [bs_size]
  exact dec_len 2 n (by omega) (by omega)
theorem movI_size {c : Cs} {n : Nat} (hn : n ≤ 99) : (movI c n).size ≤ c.id.size + 3 := by
  have := dec_size n hn
  unfold movI
  simp only [ByteArray.size_append]
  have : (ByteArray.mk #[45]).size = 1 := rfl
  omega
theorem ba_beq_ne {a b : ByteArray} (h : a ≠ b) : (a.toList == b.toList) = false := by
  rw [beq_eq_false_iff_ne]
  intro e
  rw [ByteArray.toList_eq, ByteArray.toList_eq] at e
  exact h (ba_ext e)
theorem sz_dash : (ByteArray.mk #[45]).size = 1 := rfl
theorem movem_h (A : AH) (hT : TabA A) (c : Cs) (r : Rc) (t d : Int) (n : Nat) (hn : n ≤ 99) (hh : holdF t = 1 ∨ holdF t = 2) (hc : SzC c) (x : Rc) (hx : x = movR c r t d n) : CallA Tryz.prog 33 #[.agg #[.string c.id, .string c.rc, .string c.rs, .string c.is, .string c.aq, .int .i64 c.am, .string c.cu, .int .i64 c.st, .int .i64 c.op, .int .i64 c.du], .agg #[.int .i64 r.kd, .string r.id, .string r.au, .string r.aq, .string r.is, .string r.me, .string r.ca, .int .i64 r.am, .string r.cu, .int .i64 r.da, .int .i64 r.ct, .bool r.fi], .int .i64 t, .int .i64 d, .int .i64 (n : Int)] A (fun u_ A_ => u_ = .agg #[.int .i64 x.kd, .string x.id, .string x.au, .string x.aq, .string x.is, .string x.me, .string x.ca, .int .i64 x.am, .string x.cu, .int .i64 x.da, .int .i64 x.ct, .bool x.fi] ∧ SubA A A_) := by
  refine callA_of_denA ⟨Tryz.prog, 33, Tryz.f33, 31, [0, 1, 2, 3, 4, 5, 6, 10], [], [(4, .p [(0, 0), (1, 0), (2, 0), (3, 0), (4, 0), (5, 0), (6, 0), (7, 2)])], _⟩ (args := [_, _, _, _, _]) Tryz.func33 rfl (by kernel_rfl) Tryz.ntmps33 (by simp) (by kernel_rfl) ?_
  intro ν fr; have nuE := fr.nu
  obtain ⟨y1, y2⟩ := hc
  have it := fun B hB => itoa_w A hT n (by omega) (by omega) B hB
  have e1 : Lib.itoa (n : Int) = Lib.decDigits n := by unfold Lib.itoa; rw [if_neg (by omega)]; simp
  rw [e1] at it
  have s1 : c.id.size + (ByteArray.mk #[45]).size ≤ 9223372036854775807 := by rw [sz_dash]; omega
  have s2 : (c.id ++ ByteArray.mk #[45]).size + (bs (Lib.decDigits n)).size ≤ 9223372036854775807 := by
    have := dec_size n hn
    unfold decB at this
    rw [ByteArray.size_append, sz_dash]
    omega
  subst hx
  rcases hh with h | h
  · have b1 : (holdF t == 1) = true := by rw [h]; rfl
    simp (maxDischargeDepth := 16) only [argE_nil, argE_cons, ↓vmD, vmV, vmStd, Nat.reduceMul, ↓reduceIte, Nat.reduceAdd, Nat.reduceSub, Nat.reduceEqDiff, Nat.reduceLT, Nat.reduceLeDiff, reduceCtorEq, Int.reduceToNat, Int.reduceLT, Int.reduceLE, Int.reduceEq, Int.reduceNeg, Int.reduceBEq, Int.reduceBNe, String.reduceEq, forall_const, ↓vmDA, vmVA, ↓vmQA, vmR, vmRA, ↓vmSA, vmSV, tyS, nuE, SubA.skip, SubA.refl, fr.2, vbAdjN, holder_v, foll_v, it, s1, s2, h, b1, movR, movI, decB]
  · have b1 : (holdF t == 1) = false := by rw [h]; rfl
    simp (maxDischargeDepth := 16) only [argE_nil, argE_cons, ↓vmD, vmV, vmStd, Nat.reduceMul, ↓reduceIte, Nat.reduceAdd, Nat.reduceSub, Nat.reduceEqDiff, Nat.reduceLT, Nat.reduceLeDiff, reduceCtorEq, Int.reduceToNat, Int.reduceLT, Int.reduceLE, Int.reduceEq, Int.reduceNeg, Int.reduceBEq, Int.reduceBNe, String.reduceEq, forall_const, ↓vmDA, vmVA, ↓vmQA, vmR, vmRA, ↓vmSA, vmSV, tyS, nuE, SubA.skip, SubA.refl, fr.2, vbAdjN, holder_v, foll_v, it, s1, s2, h, b1, movR, movI, decB]
theorem movem_w (A : AH) (hT : TabA A) (c : Cs) (r : Rc) (t d : Int) (n : Nat) (hn : n ≤ 99) (hh : holdF t = 1 ∨ holdF t = 2) (hc : SzC c) (x : Rc) (hx : x = movR c r t d n) (B_ : AH) (hB_ : SubA A B_) : valA Tryz.prog 33 #[.agg #[.string c.id, .string c.rc, .string c.rs, .string c.is, .string c.aq, .int .i64 c.am, .string c.cu, .int .i64 c.st, .int .i64 c.op, .int .i64 c.du], .agg #[.int .i64 r.kd, .string r.id, .string r.au, .string r.aq, .string r.is, .string r.me, .string r.ca, .int .i64 r.am, .string r.cu, .int .i64 r.da, .int .i64 r.ct, .bool r.fi], .int .i64 t, .int .i64 d, .int .i64 (n : Int)] B_ = some (.agg #[.int .i64 x.kd, .string x.id, .string x.au, .string x.aq, .string x.is, .string x.me, .string x.ca, .int .i64 x.am, .string x.cu, .int .i64 x.da, .int .i64 x.ct, .bool x.fi]) := valA_eq (pureA_at (by kernel_rfl) (movem_h A hT c r t d n hn hh hc x hx) hB_)
theorem movem_v (A : AH) (hT : TabA A) (c : Cs) (r : Rc) (t d : Int) (n : Nat) (hn : n ≤ 99) (hh : holdF t = 1 ∨ holdF t = 2) (hc : SzC c) (x : Rc) (hx : x = movR c r t d n) : valA Tryz.prog 33 #[.agg #[.string c.id, .string c.rc, .string c.rs, .string c.is, .string c.aq, .int .i64 c.am, .string c.cu, .int .i64 c.st, .int .i64 c.op, .int .i64 c.du], .agg #[.int .i64 r.kd, .string r.id, .string r.au, .string r.aq, .string r.is, .string r.me, .string r.ca, .int .i64 r.am, .string r.cu, .int .i64 r.da, .int .i64 r.ct, .bool r.fi], .int .i64 t, .int .i64 d, .int .i64 (n : Int)] A = some (.agg #[.int .i64 x.kd, .string x.id, .string x.au, .string x.aq, .string x.is, .string x.me, .string x.ca, .int .i64 x.am, .string x.cu, .int .i64 x.da, .int .i64 x.ct, .bool x.fi]) := valA_eq (pureA_at (by kernel_rfl) (movem_h A hT c r t d n hn hh hc x hx) (SubA.refl _))
theorem panMove_h (A : AH) (hT : TabA A) (c : Cs) (r : Rc) (s t d n : Int) (hc : SzC c) (hr : SzR r) : CallA Tryz.prog 13 #[.agg #[.string c.id, .string c.rc, .string c.rs, .string c.is, .string c.aq, .int .i64 c.am, .string c.cu, .int .i64 c.st, .int .i64 c.op, .int .i64 c.du], .agg #[.int .i64 r.kd, .string r.id, .string r.au, .string r.aq, .string r.is, .string r.me, .string r.ca, .int .i64 r.am, .string r.cu, .int .i64 r.da, .int .i64 r.ct, .bool r.fi], .int .i64 s, .int .i64 t, .int .i64 d, .int .i64 n] A (fun u_ A_ => u_ = movV c r s t d n ∧ SubA A A_) := by
  refine callA_of_denA ⟨Tryz.prog, 13, Tryz.f13, 112, [0, 1, 2, 3, 4, 5, 6, 7, 12, 13, 14, 15, 16, 17], [], [], _⟩ (args := [_, _, _, _, _, _]) Tryz.func13 rfl (by kernel_rfl) Tryz.ntmps13 (by simp) (by kernel_rfl) ?_
  intro ν fr; have nuE := fr.nu
  obtain ⟨z1, z2, z3, z4, z5, z6, z7⟩ := hr
  obtain ⟨y1, y2⟩ := hc
  by_cases h1 : s < 0
  · have hv := movV_err (c := c) (r := r) (s := s) (t := t) (d := d) (n := n) (k := 4) (by unfold movE; rw [if_pos (by omega)]) (by decide)
    simp (maxDischargeDepth := 16) only [argE_nil, argE_cons, ↓vmD, vmV, vmStd, Nat.reduceMul, ↓reduceIte, Nat.reduceAdd, Nat.reduceSub, Nat.reduceEqDiff, Nat.reduceLT, Nat.reduceLeDiff, reduceCtorEq, Int.reduceToNat, Int.reduceLT, Int.reduceLE, Int.reduceEq, Int.reduceNeg, Int.reduceBEq, Int.reduceBNe, String.reduceEq, forall_const, ↓vmDA, vmVA, ↓vmQA, vmR, vmRA, ↓vmSA, vmSV, tyS, nuE, SubA.skip, SubA.refl, fr.2, vbAdjN, holder_v, foll_v, h1, hv]
  by_cases h2 : 6 < s
  · have hv := movV_err (c := c) (r := r) (s := s) (t := t) (d := d) (n := n) (k := 4) (by unfold movE; rw [if_pos (by omega)]) (by decide)
    simp (maxDischargeDepth := 16) only [argE_nil, argE_cons, ↓vmD, vmV, vmStd, Nat.reduceMul, ↓reduceIte, Nat.reduceAdd, Nat.reduceSub, Nat.reduceEqDiff, Nat.reduceLT, Nat.reduceLeDiff, reduceCtorEq, Int.reduceToNat, Int.reduceLT, Int.reduceLE, Int.reduceEq, Int.reduceNeg, Int.reduceBEq, Int.reduceBNe, String.reduceEq, forall_const, ↓vmDA, vmVA, ↓vmQA, vmR, vmRA, ↓vmSA, vmSV, tyS, nuE, SubA.skip, SubA.refl, fr.2, vbAdjN, holder_v, foll_v, h1, h2, hv]
  by_cases h3 : t < 1
  · have hv := movV_err (c := c) (r := r) (s := s) (t := t) (d := d) (n := n) (k := 4) (by unfold movE; rw [if_pos (by omega)]) (by decide)
    simp (maxDischargeDepth := 16) only [argE_nil, argE_cons, ↓vmD, vmV, vmStd, Nat.reduceMul, ↓reduceIte, Nat.reduceAdd, Nat.reduceSub, Nat.reduceEqDiff, Nat.reduceLT, Nat.reduceLeDiff, reduceCtorEq, Int.reduceToNat, Int.reduceLT, Int.reduceLE, Int.reduceEq, Int.reduceNeg, Int.reduceBEq, Int.reduceBNe, String.reduceEq, forall_const, ↓vmDA, vmVA, ↓vmQA, vmR, vmRA, ↓vmSA, vmSV, tyS, nuE, SubA.skip, SubA.refl, fr.2, vbAdjN, holder_v, foll_v, h1, h2, h3, hv]
  by_cases h4 : 6 < t
  · have hv := movV_err (c := c) (r := r) (s := s) (t := t) (d := d) (n := n) (k := 4) (by unfold movE; rw [if_pos (by omega)]) (by decide)
    simp (maxDischargeDepth := 16) only [argE_nil, argE_cons, ↓vmD, vmV, vmStd, Nat.reduceMul, ↓reduceIte, Nat.reduceAdd, Nat.reduceSub, Nat.reduceEqDiff, Nat.reduceLT, Nat.reduceLeDiff, reduceCtorEq, Int.reduceToNat, Int.reduceLT, Int.reduceLE, Int.reduceEq, Int.reduceNeg, Int.reduceBEq, Int.reduceBNe, String.reduceEq, forall_const, ↓vmDA, vmVA, ↓vmQA, vmR, vmRA, ↓vmSA, vmSV, tyS, nuE, SubA.skip, SubA.refl, fr.2, vbAdjN, holder_v, foll_v, h1, h2, h3, h4, hv]
  have c1 : ¬ (s < 0 ∨ 6 < s ∨ t < 1 ∨ 6 < t) := by omega
  cases hf : follF s t with
  | false =>
    have hv := movV_err (c := c) (r := r) (s := s) (t := t) (d := d) (n := n) (k := 8) (by unfold movE; rw [if_neg c1, if_pos hf]) (by decide)
    simp (maxDischargeDepth := 16) only [argE_nil, argE_cons, ↓vmD, vmV, vmStd, Nat.reduceMul, ↓reduceIte, Nat.reduceAdd, Nat.reduceSub, Nat.reduceEqDiff, Nat.reduceLT, Nat.reduceLeDiff, reduceCtorEq, Int.reduceToNat, Int.reduceLT, Int.reduceLE, Int.reduceEq, Int.reduceNeg, Int.reduceBEq, Int.reduceBNe, String.reduceEq, forall_const, ↓vmDA, vmVA, ↓vmQA, vmR, vmRA, ↓vmSA, vmSV, tyS, nuE, SubA.skip, SubA.refl, fr.2, vbAdjN, holder_v, foll_v, h1, h2, h3, h4, hf, hv]
  | true =>
  have c2 : ¬ follF s t = false := by rw [hf]; simp
  have rcd := fun A => recCheck_v r.kd r.id r.au r.aq r.is r.me r.ca r.am r.cu r.da r.ct r.fi A
  rw [show chkRG r.kd r.id r.au r.aq r.is r.me r.ca r.am r.cu r.da r.ct = rcE r from rfl] at rcd
  by_cases h5 : rcE r = 0
  rotate_left
  · have hv := movV_err (c := c) (r := r) (s := s) (t := t) (d := d) (n := n) (k := rcE r) (by unfold movE; rw [if_neg c1, if_neg c2, if_pos h5]) h5
    have q : (rcE r != 0) = true := by simpa using h5
    simp (maxDischargeDepth := 16) only [argE_nil, argE_cons, ↓vmD, vmV, vmStd, Nat.reduceMul, ↓reduceIte, Nat.reduceAdd, Nat.reduceSub, Nat.reduceEqDiff, Nat.reduceLT, Nat.reduceLeDiff, reduceCtorEq, Int.reduceToNat, Int.reduceLT, Int.reduceLE, Int.reduceEq, Int.reduceNeg, Int.reduceBEq, Int.reduceBNe, String.reduceEq, forall_const, ↓vmDA, vmVA, ↓vmQA, vmR, vmRA, ↓vmSA, vmSV, tyS, nuE, SubA.skip, SubA.refl, fr.2, vbAdjN, holder_v, foll_v, h1, h2, h3, h4, hf, rcd, q, hv]
  have c3 : ¬ rcE r ≠ 0 := by simpa using h5
  have q5 : (rcE r != 0) = false := by simpa using h5
  by_cases h6 : r.kd = 1
  rotate_left
  · have hv := movV_err (c := c) (r := r) (s := s) (t := t) (d := d) (n := n) (k := 4) (by unfold movE; rw [if_neg c1, if_neg c2, if_neg c3, if_pos h6]) (by decide)
    have q : (r.kd != 1) = true := by simpa using h6
    simp (maxDischargeDepth := 16) only [argE_nil, argE_cons, ↓vmD, vmV, vmStd, Nat.reduceMul, ↓reduceIte, Nat.reduceAdd, Nat.reduceSub, Nat.reduceEqDiff, Nat.reduceLT, Nat.reduceLeDiff, reduceCtorEq, Int.reduceToNat, Int.reduceLT, Int.reduceLE, Int.reduceEq, Int.reduceNeg, Int.reduceBEq, Int.reduceBNe, String.reduceEq, forall_const, ↓vmDA, vmVA, ↓vmQA, vmR, vmRA, ↓vmSA, vmSV, tyS, nuE, SubA.skip, SubA.refl, fr.2, vbAdjN, holder_v, foll_v, h1, h2, h3, h4, hf, rcd, q5, q, hv]
  have c4 : ¬ r.kd ≠ 1 := by simpa using h6
  have q6 : (r.kd != 1) = false := by simpa using h6
  by_cases h7 : c.rc = r.id
  rotate_left
  · have hv := movV_err (c := c) (r := r) (s := s) (t := t) (d := d) (n := n) (k := 6) (by unfold movE; rw [if_neg c1, if_neg c2, if_neg c3, if_neg c4, if_pos h7]) (by decide)
    have q : (c.rc.toList == r.id.toList) = false := ba_beq_ne h7
    simp (maxDischargeDepth := 16) only [argE_nil, argE_cons, ↓vmD, vmV, vmStd, Nat.reduceMul, ↓reduceIte, Nat.reduceAdd, Nat.reduceSub, Nat.reduceEqDiff, Nat.reduceLT, Nat.reduceLeDiff, reduceCtorEq, Int.reduceToNat, Int.reduceLT, Int.reduceLE, Int.reduceEq, Int.reduceNeg, Int.reduceBEq, Int.reduceBNe, String.reduceEq, forall_const, ↓vmDA, vmVA, ↓vmQA, vmR, vmRA, ↓vmSA, vmSV, tyS, nuE, SubA.skip, SubA.refl, fr.2, vbAdjN, holder_v, foll_v, h1, h2, h3, h4, hf, rcd, q5, q6, q, hv]
  have c5 : ¬ c.rc ≠ r.id := by simpa using h7
  have q7 : (c.rc.toList == r.id.toList) = true := by rw [h7]; exact BEq.rfl
  by_cases h8 : c.cu = r.cu
  rotate_left
  · have hv := movV_err (c := c) (r := r) (s := s) (t := t) (d := d) (n := n) (k := 11) (by unfold movE; rw [if_neg c1, if_neg c2, if_neg c3, if_neg c4, if_neg c5, if_pos h8]) (by decide)
    have q : (c.cu.toList == r.cu.toList) = false := ba_beq_ne h8
    simp (maxDischargeDepth := 16) only [argE_nil, argE_cons, ↓vmD, vmV, vmStd, Nat.reduceMul, ↓reduceIte, Nat.reduceAdd, Nat.reduceSub, Nat.reduceEqDiff, Nat.reduceLT, Nat.reduceLeDiff, reduceCtorEq, Int.reduceToNat, Int.reduceLT, Int.reduceLE, Int.reduceEq, Int.reduceNeg, Int.reduceBEq, Int.reduceBNe, String.reduceEq, forall_const, ↓vmDA, vmVA, ↓vmQA, vmR, vmRA, ↓vmSA, vmSV, tyS, nuE, SubA.skip, SubA.refl, fr.2, vbAdjN, holder_v, foll_v, h1, h2, h3, h4, hf, rcd, q5, q6, q7, q, hv]
  have c6 : ¬ c.cu ≠ r.cu := by simpa using h8
  have q8 : (c.cu.toList == r.cu.toList) = true := by rw [h8]; exact BEq.rfl
  by_cases h9 : c.am < 1
  · have hv := movV_err (c := c) (r := r) (s := s) (t := t) (d := d) (n := n) (k := 4) (by unfold movE; rw [if_neg c1, if_neg c2, if_neg c3, if_neg c4, if_neg c5, if_neg c6, if_pos (by omega)]) (by decide)
    simp (maxDischargeDepth := 16) only [argE_nil, argE_cons, ↓vmD, vmV, vmStd, Nat.reduceMul, ↓reduceIte, Nat.reduceAdd, Nat.reduceSub, Nat.reduceEqDiff, Nat.reduceLT, Nat.reduceLeDiff, reduceCtorEq, Int.reduceToNat, Int.reduceLT, Int.reduceLE, Int.reduceEq, Int.reduceNeg, Int.reduceBEq, Int.reduceBNe, String.reduceEq, forall_const, ↓vmDA, vmVA, ↓vmQA, vmR, vmRA, ↓vmSA, vmSV, tyS, nuE, SubA.skip, SubA.refl, fr.2, vbAdjN, holder_v, foll_v, h1, h2, h3, h4, hf, rcd, q5, q6, q7, q8, h9, hv]
  by_cases h10 : r.am < c.am
  · have hv := movV_err (c := c) (r := r) (s := s) (t := t) (d := d) (n := n) (k := 4) (by unfold movE; rw [if_neg c1, if_neg c2, if_neg c3, if_neg c4, if_neg c5, if_neg c6, if_pos (by omega)]) (by decide)
    simp (maxDischargeDepth := 16) only [argE_nil, argE_cons, ↓vmD, vmV, vmStd, Nat.reduceMul, ↓reduceIte, Nat.reduceAdd, Nat.reduceSub, Nat.reduceEqDiff, Nat.reduceLT, Nat.reduceLeDiff, reduceCtorEq, Int.reduceToNat, Int.reduceLT, Int.reduceLE, Int.reduceEq, Int.reduceNeg, Int.reduceBEq, Int.reduceBNe, String.reduceEq, forall_const, ↓vmDA, vmVA, ↓vmQA, vmR, vmRA, ↓vmSA, vmSV, tyS, nuE, SubA.skip, SubA.refl, fr.2, vbAdjN, holder_v, foll_v, h1, h2, h3, h4, hf, rcd, q5, q6, q7, q8, h9, h10, hv]
  by_cases h11 : n < 1
  · have hv := movV_err (c := c) (r := r) (s := s) (t := t) (d := d) (n := n) (k := 4) (by unfold movE; rw [if_neg c1, if_neg c2, if_neg c3, if_neg c4, if_neg c5, if_neg c6, if_pos (by omega)]) (by decide)
    simp (maxDischargeDepth := 16) only [argE_nil, argE_cons, ↓vmD, vmV, vmStd, Nat.reduceMul, ↓reduceIte, Nat.reduceAdd, Nat.reduceSub, Nat.reduceEqDiff, Nat.reduceLT, Nat.reduceLeDiff, reduceCtorEq, Int.reduceToNat, Int.reduceLT, Int.reduceLE, Int.reduceEq, Int.reduceNeg, Int.reduceBEq, Int.reduceBNe, String.reduceEq, forall_const, ↓vmDA, vmVA, ↓vmQA, vmR, vmRA, ↓vmSA, vmSV, tyS, nuE, SubA.skip, SubA.refl, fr.2, vbAdjN, holder_v, foll_v, h1, h2, h3, h4, hf, rcd, q5, q6, q7, q8, h9, h10, h11, hv]
  by_cases h12 : 99 < n
  · have hv := movV_err (c := c) (r := r) (s := s) (t := t) (d := d) (n := n) (k := 4) (by unfold movE; rw [if_neg c1, if_neg c2, if_neg c3, if_neg c4, if_neg c5, if_neg c6, if_pos (by omega)]) (by decide)
    simp (maxDischargeDepth := 16) only [argE_nil, argE_cons, ↓vmD, vmV, vmStd, Nat.reduceMul, ↓reduceIte, Nat.reduceAdd, Nat.reduceSub, Nat.reduceEqDiff, Nat.reduceLT, Nat.reduceLeDiff, reduceCtorEq, Int.reduceToNat, Int.reduceLT, Int.reduceLE, Int.reduceEq, Int.reduceNeg, Int.reduceBEq, Int.reduceBNe, String.reduceEq, forall_const, ↓vmDA, vmVA, ↓vmQA, vmR, vmRA, ↓vmSA, vmSV, tyS, nuE, SubA.skip, SubA.refl, fr.2, vbAdjN, holder_v, foll_v, h1, h2, h3, h4, hf, rcd, q5, q6, q7, q8, h9, h10, h11, h12, hv]
  have c7 : ¬ (c.am < 1 ∨ r.am < c.am ∨ n < 1 ∨ 99 < n) := by omega
  by_cases h13 : d < r.da
  · have hv := movV_err (c := c) (r := r) (s := s) (t := t) (d := d) (n := n) (k := 14) (by unfold movE; rw [if_neg c1, if_neg c2, if_neg c3, if_neg c4, if_neg c5, if_neg c6, if_neg c7, if_pos (by omega)]) (by decide)
    simp (maxDischargeDepth := 16) only [argE_nil, argE_cons, ↓vmD, vmV, vmStd, Nat.reduceMul, ↓reduceIte, Nat.reduceAdd, Nat.reduceSub, Nat.reduceEqDiff, Nat.reduceLT, Nat.reduceLeDiff, reduceCtorEq, Int.reduceToNat, Int.reduceLT, Int.reduceLE, Int.reduceEq, Int.reduceNeg, Int.reduceBEq, Int.reduceBNe, String.reduceEq, forall_const, ↓vmDA, vmVA, ↓vmQA, vmR, vmRA, ↓vmSA, vmSV, tyS, nuE, SubA.skip, SubA.refl, fr.2, vbAdjN, holder_v, foll_v, h1, h2, h3, h4, hf, rcd, q5, q6, q7, q8, h9, h10, h11, h12, h13, hv]
  by_cases h14 : 99999 < d
  · have hv := movV_err (c := c) (r := r) (s := s) (t := t) (d := d) (n := n) (k := 14) (by unfold movE; rw [if_neg c1, if_neg c2, if_neg c3, if_neg c4, if_neg c5, if_neg c6, if_neg c7, if_pos (by omega)]) (by decide)
    simp (maxDischargeDepth := 16) only [argE_nil, argE_cons, ↓vmD, vmV, vmStd, Nat.reduceMul, ↓reduceIte, Nat.reduceAdd, Nat.reduceSub, Nat.reduceEqDiff, Nat.reduceLT, Nat.reduceLeDiff, reduceCtorEq, Int.reduceToNat, Int.reduceLT, Int.reduceLE, Int.reduceEq, Int.reduceNeg, Int.reduceBEq, Int.reduceBNe, String.reduceEq, forall_const, ↓vmDA, vmVA, ↓vmQA, vmR, vmRA, ↓vmSA, vmSV, tyS, nuE, SubA.skip, SubA.refl, fr.2, vbAdjN, holder_v, foll_v, h1, h2, h3, h4, hf, rcd, q5, q6, q7, q8, h9, h10, h11, h12, h13, h14, hv]
  have c8 : ¬ (d < r.da ∨ 99999 < d) := by omega
  obtain ⟨m, rfl⟩ := Int.eq_ofNat_of_zero_le (show 0 ≤ n by omega)
  have hE : movE c r s t d (m : Int) = rcE (movR c r t d m) := by unfold movE; rw [if_neg c1, if_neg c2, if_neg c3, if_neg c4, if_neg c5, if_neg c6, if_neg c7, if_neg c8]; simp
  have hh : holdF t = 1 ∨ holdF t = 2 := by unfold holdF; split <;> (try split) <;> omega
  obtain ⟨x, hx⟩ : ∃ x, x = movR c r t d m := ⟨_, rfl⟩
  rw [← hx] at hE
  have mv := fun B hB => movem_w A hT c r t d m (by omega) hh ⟨y1, y2⟩ x hx B hB
  have xi : x.id.size ≤ 200000000000000 := by rw [hx]; have := movI_size (c := c) (n := m) (by omega); show (movI c m).size ≤ _; omega
  have rcx := fun A => recCheck_v x.kd x.id x.au x.aq x.is x.me x.ca x.am x.cu x.da x.ct x.fi A
  rw [show chkRG x.kd x.id x.au x.aq x.is x.me x.ca x.am x.cu x.da x.ct = rcE x from rfl] at rcx
  by_cases h15 : rcE x = 0
  rotate_left
  · have hv := movV_err (c := c) (r := r) (s := s) (t := t) (d := d) (n := (m : Int)) (k := rcE x) hE h15
    have q : (rcE x != 0) = true := by simpa using h15
    simp (maxDischargeDepth := 16) only [argE_nil, argE_cons, ↓vmD, vmV, vmStd, Nat.reduceMul, ↓reduceIte, Nat.reduceAdd, Nat.reduceSub, Nat.reduceEqDiff, Nat.reduceLT, Nat.reduceLeDiff, reduceCtorEq, Int.reduceToNat, Int.reduceLT, Int.reduceLE, Int.reduceEq, Int.reduceNeg, Int.reduceBEq, Int.reduceBNe, String.reduceEq, forall_const, ↓vmDA, vmVA, ↓vmQA, vmR, vmRA, ↓vmSA, vmSV, tyS, nuE, SubA.skip, SubA.refl, fr.2, vbAdjN, holder_v, foll_v, h1, h2, h3, h4, hf, rcd, q5, q6, q7, q8, h9, h10, h11, h12, h13, h14, mv, rcx, q, hv]
  have q15 : (rcE x != 0) = false := by simpa using h15
  by_cases h16 : holdF s = holdF t
  · have hv := movV_no (c := c) (r := r) (s := s) (t := t) (d := d) (n := (m : Int)) (by rw [hE, h15]) h16
    have q : (holdF s == holdF t) = true := by rw [h16]; exact BEq.rfl
    simp (maxDischargeDepth := 16) only [argE_nil, argE_cons, ↓vmD, vmV, vmStd, Nat.reduceMul, ↓reduceIte, Nat.reduceAdd, Nat.reduceSub, Nat.reduceEqDiff, Nat.reduceLT, Nat.reduceLeDiff, reduceCtorEq, Int.reduceToNat, Int.reduceLT, Int.reduceLE, Int.reduceEq, Int.reduceNeg, Int.reduceBEq, Int.reduceBNe, String.reduceEq, forall_const, ↓vmDA, vmVA, ↓vmQA, vmR, vmRA, ↓vmSA, vmSV, tyS, nuE, SubA.skip, SubA.refl, fr.2, vbAdjN, holder_v, foll_v, h1, h2, h3, h4, hf, rcd, q5, q6, q7, q8, h9, h10, h11, h12, h13, h14, mv, rcx, q15, q, hv]
  · have hv := movV_yes (c := c) (r := r) (s := s) (t := t) (d := d) (n := (m : Int)) (by rw [hE, h15]) h16
    rw [Int.toNat_natCast, ← hx, Rc.agg] at hv
    have q : (holdF s == holdF t) = false := by simpa using h16
    simp (maxDischargeDepth := 16) only [argE_nil, argE_cons, ↓vmD, vmV, vmStd, Nat.reduceMul, ↓reduceIte, Nat.reduceAdd, Nat.reduceSub, Nat.reduceEqDiff, Nat.reduceLT, Nat.reduceLeDiff, reduceCtorEq, Int.reduceToNat, Int.reduceLT, Int.reduceLE, Int.reduceEq, Int.reduceNeg, Int.reduceBEq, Int.reduceBNe, String.reduceEq, forall_const, ↓vmDA, vmVA, ↓vmQA, vmR, vmRA, ↓vmSA, vmSV, tyS, nuE, SubA.skip, SubA.refl, fr.2, vbAdjN, holder_v, foll_v, h1, h2, h3, h4, hf, rcd, q5, q6, q7, q8, h9, h10, h11, h12, h13, h14, mv, rcx, q15, q, hv]
theorem panMove_w (A : AH) (hT : TabA A) (c : Cs) (r : Rc) (s t d n : Int) (hc : SzC c) (hr : SzR r) (B_ : AH) (hB_ : SubA A B_) : valA Tryz.prog 13 #[.agg #[.string c.id, .string c.rc, .string c.rs, .string c.is, .string c.aq, .int .i64 c.am, .string c.cu, .int .i64 c.st, .int .i64 c.op, .int .i64 c.du], .agg #[.int .i64 r.kd, .string r.id, .string r.au, .string r.aq, .string r.is, .string r.me, .string r.ca, .int .i64 r.am, .string r.cu, .int .i64 r.da, .int .i64 r.ct, .bool r.fi], .int .i64 s, .int .i64 t, .int .i64 d, .int .i64 n] B_ = some (movV c r s t d n) := valA_eq (pureA_at (by kernel_rfl) (panMove_h A hT c r s t d n hc hr) hB_)
theorem panMove_v (A : AH) (hT : TabA A) (c : Cs) (r : Rc) (s t d n : Int) (hc : SzC c) (hr : SzR r) : valA Tryz.prog 13 #[.agg #[.string c.id, .string c.rc, .string c.rs, .string c.is, .string c.aq, .int .i64 c.am, .string c.cu, .int .i64 c.st, .int .i64 c.op, .int .i64 c.du], .agg #[.int .i64 r.kd, .string r.id, .string r.au, .string r.aq, .string r.is, .string r.me, .string r.ca, .int .i64 r.am, .string r.cu, .int .i64 r.da, .int .i64 r.ct, .bool r.fi], .int .i64 s, .int .i64 t, .int .i64 d, .int .i64 n] A = some (movV c r s t d n) := valA_eq (pureA_at (by kernel_rfl) (panMove_h A hT c r s t d n hc hr) (SubA.refl _))
set_option linter.unusedSimpArgs false
set_option linter.unusedVariables false
set_option maxHeartbeats 4000000
set_option maxRecDepth 20000
theorem drop_someM {α : Type} {L l : List α} {e : Nat} {a : α} (h3 : a :: l = L.drop e) : L[e]? = some a ∧ e < L.length ∧ l = L.drop (e + 1) := by
  have ha : L[e]? = some a := by
    have := congrArg (fun x => x[0]?) h3
    simpa using this.symm
  refine ⟨ha, (List.getElem?_eq_some_iff.1 ha).1, ?_⟩
  have := congrArg (fun x => x.drop 1) h3
  simpa [List.drop_drop, Nat.add_comm] using this
theorem drop_nilM {α : Type} {L : List α} {e : Nat} (h3 : [] = L.drop e) : L.length ≤ e := by
  rcases Nat.lt_or_ge e L.length with h | h
  · rw [List.drop_eq_getElem_cons h] at h3; cases h3
  · exact h
theorem sc_rec (a : Int) (b c d e f g : ByteArray) (h : Int) (i : ByteArray) (j k : Int) (l : Bool) : sliceCells Tryz.prog 71 1 [(0, .agg #[.int .i64 a, .string b, .string c, .string d, .string e, .string f, .string g, .int .i64 h, .string i, .int .i64 j, .int .i64 k, .bool l])] = some (29, #[.int .i64 a, .string b, .string c, .string d, .string e, .string f, .string g, .int .i64 h, .string i, .int .i64 j, .int .i64 k, .bool l]) := by kernel_rfl
theorem panMoves_h (A : AH) (hT : TabA A) (c : Cs) (r : Rc) (hc : SzC c) (hr : SzR r) (L : List Int) (p : Option Addr) (cap : Nat) (hL : StR intC 1 A p L) (hl : L.length ≤ 100) (d : Int) : CallA Tryz.prog 21 #[.agg #[.string c.id, .string c.rc, .string c.rs, .string c.is, .string c.aq, .int .i64 c.am, .string c.cu, .int .i64 c.st, .int .i64 c.op, .int .i64 c.du], .agg #[.int .i64 r.kd, .string r.id, .string r.au, .string r.aq, .string r.is, .string r.me, .string r.ca, .int .i64 r.am, .string r.cu, .int .i64 r.da, .int .i64 r.ct, .bool r.fi], .slice p L.length cap, .int .i64 d] A (fun u_ A_ => ∃ v B, u_ = .tuple #[v, .int .i64 (movL c r d L 0 []).2] ∧ OwnL Rc.cells 12 29 v B (movL c r d L 0 []).1 ∧ Dis B A ∧ SubA (B ++ A) A_) := by
  refine callA_of_denA ⟨Tryz.prog, 21, Tryz.f21, 47, [0, 1, 2, 3, 4, 5, 8, 9, 10, 11, 13, 14, 15, 16, 17, 18, 19], [], [], _⟩ (args := [_, _, _, _]) Tryz.func21 rfl (by kernel_rfl) Tryz.ntmps21 (by simp) (by kernel_rfl) ?_
  intro ν fr; have nuE := fr.nu
  simp (maxDischargeDepth := 16) only [argE_nil, argE_cons, ↓vmD, vmV, vmStd, Nat.reduceMul, ↓reduceIte, Nat.reduceAdd, Nat.reduceSub, Nat.reduceEqDiff, Nat.reduceLT, Nat.reduceLeDiff, reduceCtorEq, Int.reduceToNat, Int.reduceLT, Int.reduceLE, Int.reduceEq, Int.reduceNeg, Int.reduceBEq, Int.reduceBNe, String.reduceEq, forall_const, ↓vmDA, vmVA, ↓vmQA, vmR, vmRA, ↓vmSA, vmSV, tyS, nuE, SubA.skip, SubA.refl, fr.2, vbAdjN, holder_v, foll_v]
  have hA0 := fr.2 0
  have hA1 := fr.2 1
  have dst_ : ((ν 0 = ν 1) = False) ∧ ((ν 1 = ν 0) = False) := (by simp [nuE]); generalize ν 0 = n0 at dst_  hA0 hA1 ⊢; generalize ν 1 = n1 at dst_  hA0 hA1 ⊢
  obtain ⟨e, l, s, out, v, B, he, hs, hv, hB, h3, hm, hown, hle, sp⟩ : ∃ (e : Nat) (l : List Int) (s : Int) (out : List Rc) (v : Value) (B : AH), e = 0 ∧ s = 0 ∧ v = .slice none 0 0 ∧ B = [] ∧ l = L.drop e ∧ movL c r d L 0 [] = movL c r d l s out ∧ OwnL Rc.cells 12 29 v B out ∧ out.length ≤ e ∧ Sep [[(n1, (Obj.cells #[.int .i64 r.kd, .string r.id, .string r.au, .string r.aq, .string r.is, .string r.me, .string r.ca, .int .i64 r.am, .string r.cu, .int .i64 r.da, .int .i64 r.ct, .bool r.fi] 29))], [(n0, (Obj.cells #[.string c.id, .string c.rc, .string c.rs, .string c.is, .string c.aq, .int .i64 c.am, .string c.cu, .int .i64 c.st, .int .i64 c.op, .int .i64 c.du] 43))], B, A] :=
    ⟨0, L, 0, [], .slice none 0 0, [], rfl, rfl, rfl, rfl, by simp, rfl, OwnL.nil _ _ _, by simp, Sep.fresh (by simp [cat, Vm.look, hA1, dst_]) _ (Sep.fresh (by simp [cat, hA0]) _ (Sep.cons (Dis.nil _) (Sep.one A)))⟩
  rw [show (19, some (Value.int .i64 0)) = (19, some (Value.int .i64 (e : Int))) by rw [he]; rfl]
  rw [show (11, some (Value.int .i64 0)) = (11, some (Value.int .i64 s)) by rw [hs]]
  rw [show (10, some (Value.slice none 0 0)) = (10, some v) by rw [hv]]
  refine LoopA.at (A := cat [[(n1, (Obj.cells #[.int .i64 r.kd, .string r.id, .string r.au, .string r.aq, .string r.is, .string r.me, .string r.ca, .int .i64 r.am, .string r.cu, .int .i64 r.da, .int .i64 r.ct, .bool r.fi] 29))], [(n0, (Obj.cells #[.string c.id, .string c.rc, .string c.rs, .string c.is, .string c.aq, .int .i64 c.am, .string c.cu, .int .i64 c.st, .int .i64 c.op, .int .i64 c.du] 43))], B, A]) ?_ ?_
  · subst hB
    exact SubA.refl _
  clear he hs hv hB nuE fr
  simp only [cat, List.cons_append, List.nil_append]
  induction l generalizing e s out v B with
  | nil =>
    have hle2 := drop_nilM h3
    have hlt : ((e : Int) < (L.length : Int)) = False := by simp; omega
    have hm2 : movL c r d L 0 [] = (out, 0) := hm
    have sB : SubA (B ++ A) ((n1, (Obj.cells #[.int .i64 r.kd, .string r.id, .string r.au, .string r.aq, .string r.is, .string r.me, .string r.ca, .int .i64 r.am, .string r.cu, .int .i64 r.da, .int .i64 r.ct, .bool r.fi] 29)) :: (n0, (Obj.cells #[.string c.id, .string c.rc, .string c.rs, .string c.is, .string c.aq, .int .i64 c.am, .string c.cu, .int .i64 c.st, .int .i64 c.op, .int .i64 c.du] 43)) :: (B ++ A)) := sp.subs [2, 3] rfl
    have dB : Dis B A := (sp.pick [2, 3] rfl rfl).dis
    refine LoopA.intro (by kernel_rfl) ?_
    intro ν fr; have nuE := fr.nu
    simp (maxDischargeDepth := 16) only [argE_nil, argE_cons, ↓vmD, vmV, vmStd, Nat.reduceMul, ↓reduceIte, Nat.reduceAdd, Nat.reduceSub, Nat.reduceEqDiff, Nat.reduceLT, Nat.reduceLeDiff, reduceCtorEq, Int.reduceToNat, Int.reduceLT, Int.reduceLE, Int.reduceEq, Int.reduceNeg, Int.reduceBEq, Int.reduceBNe, String.reduceEq, forall_const, ↓vmDA, vmVA, ↓vmQA, vmR, vmRA, ↓vmSA, vmSV, tyS, nuE, SubA.skip, SubA.refl, fr.2, vbAdjN, holder_v, foll_v, hlt]
    rw [hm2]
    exact ⟨v, B, rfl, hown, dB, sB⟩
  | cons x l ih =>
    obtain ⟨ha, hl2, h3'⟩ := drop_someM h3
    have hlt : ((e : Int) < (L.length : Int)) = True := by simp; omega
    have we : IntKind.i64.wrap ((e : Int) + 1) = ((e + 1 : Nat) : Int) := by rw [w_i64 (by omega) (by omega)]; omega
    have wo : IntKind.i64.wrap ((out.length : Int) + 1) = ((out.length + 1 : Nat) : Int) := by rw [w_i64 (by omega) (by omega)]; omega
    obtain ⟨bk, off, cs, ty, fr0, hp0, hbk, hcr, hcc⟩ := hL.at ha
    subst hp0
    obtain ⟨q, vcap, rfl, hvc, hvs⟩ := hown.read Rc.len
    have sA : SubA A ((n1, (Obj.cells #[.int .i64 r.kd, .string r.id, .string r.au, .string r.aq, .string r.is, .string r.me, .string r.ca, .int .i64 r.am, .string r.cu, .int .i64 r.da, .int .i64 r.ct, .bool r.fi] 29)) :: (n0, (Obj.cells #[.string c.id, .string c.rc, .string c.rs, .string c.is, .string c.aq, .int .i64 c.am, .string c.cu, .int .i64 c.st, .int .i64 c.op, .int .i64 c.du] 43)) :: (B ++ A)) := sp.subs [3] rfl
    have lb := sA _ _ hbk
    have mv := fun D hD => panMove_w A hT c r s x d ((out.length + 1 : Nat) : Int) hc hr D hD
    have mvs := mv _ sA
    have hc0 : cs[off + e * 1]? = some (.int .i64 x) := hcc 0 _ rfl
    refine LoopA.intro (by kernel_rfl) ?_
    intro ν fr; have nuE := And.intro (fr.mem (b := n0) (by simp)) (And.intro (fr.mem (b := n1) (by simp)) (And.intro dst_ fr.nu))
    have nb0 := look_ne (fr.2 0) lb
    have nb1 := look_ne (fr.2 1) lb
    by_cases hE : movE c r s x d ((out.length + 1 : Nat) : Int) = 0
    rotate_left
    · have hv := movV_err (c := c) (r := r) (s := s) (t := x) (d := d) (n := ((out.length + 1 : Nat) : Int)) rfl hE
      have q1 : (movE c r s x d ((out.length + 1 : Nat) : Int) != 0) = true := by simpa using hE
      have hm2 : movL c r d L 0 [] = ([], movE c r s x d ((out.length + 1 : Nat) : Int)) := by rw [hm]; simp only [movL]; rw [if_pos hE]
      rw [hv] at mvs
      simp (maxDischargeDepth := 16) only [argE_nil, argE_cons, ↓vmD, vmV, vmStd, Nat.reduceMul, ↓reduceIte, Nat.reduceAdd, Nat.reduceSub, Nat.reduceEqDiff, Nat.reduceLT, Nat.reduceLeDiff, reduceCtorEq, Int.reduceToNat, Int.reduceLT, Int.reduceLE, Int.reduceEq, Int.reduceNeg, Int.reduceBEq, Int.reduceBNe, String.reduceEq, forall_const, ↓vmDA, vmVA, ↓vmQA, vmR, vmRA, ↓vmSA, vmSV, tyS, nuE, SubA.skip, SubA.refl, fr.2, vbAdjN, holder_v, foll_v, hlt, lb, hc0, mvs, wo, q1]
      rw [hm2]
      exact ⟨_, [], rfl, OwnL.nil _ _ _, Dis.nil _, SubA.trans sA (SubA.skip (fr.2 0) (SubA.refl _))⟩
    have q1 : (movE c r s x d ((out.length + 1 : Nat) : Int) != 0) = false := by simpa using hE
    by_cases hH : holdF s = holdF x
    · have hv := movV_no (c := c) (r := r) (s := s) (t := x) (d := d) (n := ((out.length + 1 : Nat) : Int)) hE hH
      rw [hv] at mvs
      have hm2 : movL c r d L 0 [] = movL c r d l x out := by rw [hm]; simp only [movL]; rw [if_neg (by simpa using hE), if_pos hH]
      simp (maxDischargeDepth := 16) only [argE_nil, argE_cons, ↓vmD, vmV, vmStd, Nat.reduceMul, ↓reduceIte, Nat.reduceAdd, Nat.reduceSub, Nat.reduceEqDiff, Nat.reduceLT, Nat.reduceLeDiff, reduceCtorEq, Int.reduceToNat, Int.reduceLT, Int.reduceLE, Int.reduceEq, Int.reduceNeg, Int.reduceBEq, Int.reduceBNe, String.reduceEq, forall_const, ↓vmDA, vmVA, ↓vmQA, vmR, vmRA, ↓vmSA, vmSV, tyS, nuE, SubA.skip, SubA.refl, fr.2, vbAdjN, holder_v, foll_v, hlt, lb, nb0, nb1, hc0, mvs, wo, q1, we]
      exact LoopA.weak (ih (e + 1) x out _ B h3' hm2 hown (by omega) sp) (by simp only [subE, get_cons, Nat.reduceEqDiff, ↓reduceIte, reduceCtorEq, Nat.reduceAdd, and_self, and_true]) (SubA.skip (fr.2 0) (SubA.refl _))
    · have hv := movV_yes (c := c) (r := r) (s := s) (t := x) (d := d) (n := ((out.length + 1 : Nat) : Int)) hE hH
      rw [Int.toNat_natCast, Rc.agg] at hv
      have hm2 : movL c r d L 0 [] = movL c r d l x (out ++ [movR c r x d (out.length + 1)]) := by rw [hm]; simp only [movL]; rw [if_neg (by simpa using hE), if_neg hH]
      generalize movR c r x d (out.length + 1) = y at hv hm2
      rw [hv] at mvs
      simp (maxDischargeDepth := 16) only [argE_nil, argE_cons, ↓vmD, vmV, vmStd, Nat.reduceMul, ↓reduceIte, Nat.reduceAdd, Nat.reduceSub, Nat.reduceEqDiff, Nat.reduceLT, Nat.reduceLeDiff, reduceCtorEq, Int.reduceToNat, Int.reduceLT, Int.reduceLE, Int.reduceEq, Int.reduceNeg, Int.reduceBEq, Int.reduceBNe, String.reduceEq, forall_const, ↓vmDA, vmVA, ↓vmQA, vmR, vmRA, ↓vmSA, vmSV, tyS, nuE, SubA.skip, SubA.refl, fr.2, vbAdjN, holder_v, foll_v, hlt, lb, hc0, mvs, wo, q1, we, sc_rec]
      have n0' := fr.2 0
      have n1' := fr.2 1
      have hX : SubA (cat [[(n1, (Obj.cells #[.int .i64 r.kd, .string r.id, .string r.au, .string r.aq, .string r.is, .string r.me, .string r.ca, .int .i64 r.am, .string r.cu, .int .i64 r.da, .int .i64 r.ct, .bool r.fi] 29))], [(n0, (Obj.cells #[.string c.id, .string c.rc, .string c.rs, .string c.is, .string c.aq, .int .i64 c.am, .string c.cu, .int .i64 c.st, .int .i64 c.op, .int .i64 c.du] 43))], A]) ((n1, (Obj.cells #[.int .i64 r.kd, .string r.id, .string r.au, .string r.aq, .string r.is, .string r.me, .string r.ca, .int .i64 r.am, .string r.cu, .int .i64 r.da, .int .i64 r.ct, .bool r.fi] 29)) :: (n0, (Obj.cells #[.string c.id, .string c.rc, .string c.rs, .string c.is, .string c.aq, .int .i64 c.am, .string c.cu, .int .i64 c.st, .int .i64 c.op, .int .i64 c.du] 43)) :: (B ++ A)) := sp.subs [0, 1, 3] rfl
      have hBs : SubA B ((n1, (Obj.cells #[.int .i64 r.kd, .string r.id, .string r.au, .string r.aq, .string r.is, .string r.me, .string r.ca, .int .i64 r.am, .string r.cu, .int .i64 r.da, .int .i64 r.ct, .bool r.fi] 29)) :: (n0, (Obj.cells #[.string c.id, .string c.rc, .string c.rs, .string c.is, .string c.aq, .int .i64 c.am, .string c.cu, .int .i64 c.st, .int .i64 c.op, .int .i64 c.du] 43)) :: (B ++ A)) := sp.subs [2] rfl
      have hXs : SubA (cat [[(n1, (Obj.cells #[.int .i64 r.kd, .string r.id, .string r.au, .string r.aq, .string r.is, .string r.me, .string r.ca, .int .i64 r.am, .string r.cu, .int .i64 r.da, .int .i64 r.ct, .bool r.fi] 29))], [(n0, (Obj.cells #[.string c.id, .string c.rc, .string c.rs, .string c.is, .string c.aq, .int .i64 c.am, .string c.cu, .int .i64 c.st, .int .i64 c.op, .int .i64 c.du] 43))], A]) ((ν 1, (Obj.cells #[.int .i64 y.kd, .string y.id, .string y.au, .string y.aq, .string y.is, .string y.me, .string y.ca, .int .i64 y.am, .string y.cu, .int .i64 y.da, .int .i64 y.ct, .bool y.fi] 29)) :: (ν 0, (Obj.cells #[.int .i64 y.kd, .string y.id, .string y.au, .string y.aq, .string y.is, .string y.me, .string y.ca, .int .i64 y.am, .string y.cu, .int .i64 y.da, .int .i64 y.ct, .bool y.fi] 29)) :: (n1, (Obj.cells #[.int .i64 r.kd, .string r.id, .string r.au, .string r.aq, .string r.is, .string r.me, .string r.ca, .int .i64 r.am, .string r.cu, .int .i64 r.da, .int .i64 r.ct, .bool r.fi] 29)) :: (n0, (Obj.cells #[.string c.id, .string c.rc, .string c.rs, .string c.is, .string c.aq, .int .i64 c.am, .string c.cu, .int .i64 c.st, .int .i64 c.op, .int .i64 c.du] 43)) :: (B ++ A)) := SubA.skip (hX.none n1') (SubA.skip (hX.none n0') hX)
      refine RunA.use ?_
      refine append_src (m := 1) (news := y.cells) (B := B) slc71 zro29 rfl (by decide) hown ?_ (.inr ⟨ν 1, 0, rfl, ?_⟩) (by simp [Rc.cells, Value.oneCell']) (by simp only [maxLen]; omega) (by omega) ?_
      · exact SubA.skip (hBs.none n1') (SubA.skip (hBs.none n0') hBs)
      · simp (maxDischargeDepth := 16) only [argE_nil, argE_cons, ↓vmD, vmV, vmStd, Nat.reduceMul, ↓reduceIte, Nat.reduceAdd, Nat.reduceSub, Nat.reduceEqDiff, Nat.reduceLT, Nat.reduceLeDiff, reduceCtorEq, Int.reduceToNat, Int.reduceLT, Int.reduceLE, Int.reduceEq, Int.reduceNeg, Int.reduceBEq, Int.reduceBNe, String.reduceEq, forall_const, ↓vmDA, vmVA, ↓vmQA, vmR, vmRA, ↓vmSA, vmSV, tyS, nuE, SubA.skip, SubA.refl, fr.2, vbAdjN, holder_v, foll_v, Rc.cells]
      intro v' B' ho' hb'
      have dX : Dis B (cat [[(n1, (Obj.cells #[.int .i64 r.kd, .string r.id, .string r.au, .string r.aq, .string r.is, .string r.me, .string r.ca, .int .i64 r.am, .string r.cu, .int .i64 r.da, .int .i64 r.ct, .bool r.fi] 29))], [(n0, (Obj.cells #[.string c.id, .string c.rc, .string c.rs, .string c.is, .string c.aq, .int .i64 c.am, .string c.cu, .int .i64 c.st, .int .i64 c.op, .int .i64 c.du] 43))], A]) := (sp.pick [2, 0, 1, 3] rfl rfl).dis
      have dB' : Dis B' (cat [[(n1, (Obj.cells #[.int .i64 r.kd, .string r.id, .string r.au, .string r.aq, .string r.is, .string r.me, .string r.ca, .int .i64 r.am, .string r.cu, .int .i64 r.da, .int .i64 r.ct, .bool r.fi] 29))], [(n0, (Obj.cells #[.string c.id, .string c.rc, .string c.rs, .string c.is, .string c.aq, .int .i64 c.am, .string c.cu, .int .i64 c.st, .int .i64 c.op, .int .i64 c.du] 43))], A]) := ap_dis hb' dX hXs
      have sp' : Sep [B', [(n1, (Obj.cells #[.int .i64 r.kd, .string r.id, .string r.au, .string r.aq, .string r.is, .string r.me, .string r.ca, .int .i64 r.am, .string r.cu, .int .i64 r.da, .int .i64 r.ct, .bool r.fi] 29))], [(n0, (Obj.cells #[.string c.id, .string c.rc, .string c.rs, .string c.is, .string c.aq, .int .i64 c.am, .string c.cu, .int .i64 c.st, .int .i64 c.op, .int .i64 c.du] 43))], A] := Sep.cons dB' (sp.pick [0, 1, 3] rfl rfl)
      have ow' : OwnL Rc.cells 12 29 v' B' (out ++ [y]) := by
        unfold OwnL
        rw [List.length_append, List.flatMap_append]
        simpa using ho'
      refine ⟨cat [[(n1, (Obj.cells #[.int .i64 r.kd, .string r.id, .string r.au, .string r.aq, .string r.is, .string r.me, .string r.ca, .int .i64 r.am, .string r.cu, .int .i64 r.da, .int .i64 r.ct, .bool r.fi] 29))], [(n0, (Obj.cells #[.string c.id, .string c.rc, .string c.rs, .string c.is, .string c.aq, .int .i64 c.am, .string c.cu, .int .i64 c.st, .int .i64 c.op, .int .i64 c.du] 43))], B', A], SubA.trans (sp'.subs [1, 2, 0, 3] rfl) (SubA.app hXs), ?_⟩
      have lb2 := (show SubA A (cat [[(n1, (Obj.cells #[.int .i64 r.kd, .string r.id, .string r.au, .string r.aq, .string r.is, .string r.me, .string r.ca, .int .i64 r.am, .string r.cu, .int .i64 r.da, .int .i64 r.ct, .bool r.fi] 29))], [(n0, (Obj.cells #[.string c.id, .string c.rc, .string c.rs, .string c.is, .string c.aq, .int .i64 c.am, .string c.cu, .int .i64 c.st, .int .i64 c.op, .int .i64 c.du] 43))], B', A]) from (sp'.pick [1, 2, 0, 3] rfl rfl).subs [3] rfl) _ _ hbk
      simp only [cat, List.cons_append, List.nil_append] at lb2 ⊢
      intro ν2 fr
      have nuE := fr.nu
      simp (maxDischargeDepth := 16) only [argE_nil, argE_cons, ↓vmD, vmV, vmStd, Nat.reduceMul, ↓reduceIte, Nat.reduceAdd, Nat.reduceSub, Nat.reduceEqDiff, Nat.reduceLT, Nat.reduceLeDiff, reduceCtorEq, Int.reduceToNat, Int.reduceLT, Int.reduceLE, Int.reduceEq, Int.reduceNeg, Int.reduceBEq, Int.reduceBNe, String.reduceEq, forall_const, ↓vmDA, vmVA, ↓vmQA, vmR, vmRA, ↓vmSA, vmSV, tyS, nuE, SubA.skip, SubA.refl, fr.2, vbAdjN, holder_v, foll_v, we, hlt, lb2, hc0]
      exact LoopA.weak (ih (e + 1) x (out ++ [y]) v' B' h3' hm2 ow' (by simp; omega) (sp'.pick [1, 2, 0, 3] rfl rfl)) (by simp only [subE, get_cons, Nat.reduceEqDiff, ↓reduceIte, reduceCtorEq, Nat.reduceAdd, and_self, and_true]) (SubA.refl _)

set_option linter.unusedSimpArgs false
set_option linter.unusedVariables false
set_option maxHeartbeats 4000000
set_option maxRecDepth 20000
theorem netN_b (x : Rc) : -999999999999 ≤ netN x ∧ netN x ≤ 999999999999 := by
  unfold netN
  split
  · omega
  split
  · omega
  split <;> omega
theorem netF_b : ∀ (L : List Rc), -999999999999 * (L.length : Int) ≤ netF L ∧ netF L ≤ 999999999999 * (L.length : Int)
  | [] => by simp [netF]
  | x :: l => by
    have h1 := netN_b x
    have h2 := netF_b l
    simp only [netF, List.length_cons]
    omega
theorem panNet_h (A : AH) (L : List Rc) (p : Option Addr) (cap : Nat) (hL : StR Rc.cells 12 A p L) (hl : L.length ≤ 3000) : CallA Tryz.prog 22 #[.slice p L.length cap] A (fun u_ A_ => u_ = .int .i64 (netF L) ∧ SubA A A_) := by
  refine callA_of_denA ⟨Tryz.prog, 22, Tryz.f22, 40, [0, 2, 3, 5, 6, 7, 8, 23], [], [], _⟩ (args := [_]) Tryz.func22 rfl (by kernel_rfl) Tryz.ntmps22 (by simp) (by kernel_rfl) ?_
  intro ν fr; have nuE := fr.nu
  simp (maxDischargeDepth := 16) only [argE_nil, argE_cons, ↓vmD, vmV, vmStd, Nat.reduceMul, ↓reduceIte, Nat.reduceAdd, Nat.reduceSub, Nat.reduceEqDiff, Nat.reduceLT, Nat.reduceLeDiff, reduceCtorEq, Int.reduceToNat, Int.reduceLT, Int.reduceLE, Int.reduceEq, Int.reduceNeg, Int.reduceBEq, Int.reduceBNe, String.reduceEq, forall_const, ↓vmDA, vmVA, ↓vmQA, vmR, vmRA, ↓vmSA, vmSV, tyS, nuE, SubA.skip, SubA.refl, fr.2, vbAdjN, holder_v, foll_v]
  obtain ⟨e, l, tot, he, ht, h3, hn, hb⟩ : ∃ (e : Nat) (l : List Rc) (tot : Int), e = 0 ∧ tot = 0 ∧ l = L.drop e ∧ netF L = tot + netF l ∧ (-999999999999 * (e : Int) ≤ tot ∧ tot ≤ 999999999999 * (e : Int)) := ⟨0, L, 0, rfl, rfl, by simp, by simp, by simp⟩
  rw [show (8, some (Value.int .i64 0)) = (8, some (Value.int .i64 (e : Int))) by rw [he]; rfl]
  rw [show (3, some (Value.int .i64 0)) = (3, some (Value.int .i64 tot)) by rw [ht]]
  clear he ht nuE fr
  induction l generalizing e tot with
  | nil =>
    have hle := drop_nilM h3
    have hlt : ((e : Int) < (L.length : Int)) = False := by simp; omega
    have hv : netF L = tot := by rw [hn]; simp [netF]
    refine LoopA.intro (by kernel_rfl) ?_
    intro ν fr; have nuE := fr.nu
    simp (maxDischargeDepth := 16) only [argE_nil, argE_cons, ↓vmD, vmV, vmStd, Nat.reduceMul, ↓reduceIte, Nat.reduceAdd, Nat.reduceSub, Nat.reduceEqDiff, Nat.reduceLT, Nat.reduceLeDiff, reduceCtorEq, Int.reduceToNat, Int.reduceLT, Int.reduceLE, Int.reduceEq, Int.reduceNeg, Int.reduceBEq, Int.reduceBNe, String.reduceEq, forall_const, ↓vmDA, vmVA, ↓vmQA, vmR, vmRA, ↓vmSA, vmSV, tyS, nuE, SubA.skip, SubA.refl, fr.2, vbAdjN, holder_v, foll_v, hlt, hv]
  | cons x l ih =>
    obtain ⟨ha, hl2, h3'⟩ := drop_someM h3
    have hlt : ((e : Int) < (L.length : Int)) = True := by simp; omega
    have we : IntKind.i64.wrap ((e : Int) + 1) = ((e + 1 : Nat) : Int) := by rw [w_i64 (by omega) (by omega)]; omega
    obtain ⟨bk, off, cs, ty, fr0, hp0, lb, hcr, hcc⟩ := hL.at ha
    subst hp0
    have k0 : cs[off + e * 12]? = some (.int .i64 x.kd) := hcc 0 _ rfl
    have k7 : cs[off + e * 12 + 7]? = some (.int .i64 x.am) := hcc 7 _ rfl
    have nb := netN_b x
    have wp : 1 ≤ x.am ∧ x.am ≤ 999999999999 → IntKind.i64.wrap (tot + x.am) = tot + x.am := fun h => w_i64 (by omega) (by omega)
    have wn : 1 ≤ x.am ∧ x.am ≤ 999999999999 → IntKind.i64.wrap (tot - x.am) = tot - x.am := fun h => w_i64 (by omega) (by omega)
    refine LoopA.intro (by kernel_rfl) ?_
    intro ν fr; have nuE := fr.nu
    by_cases a1 : x.am < 1
    · have hv : netF L = tot + netF l := by rw [hn]; simp [netF, netN, a1]
      simp (maxDischargeDepth := 16) only [argE_nil, argE_cons, ↓vmD, vmV, vmStd, Nat.reduceMul, ↓reduceIte, Nat.reduceAdd, Nat.reduceSub, Nat.reduceEqDiff, Nat.reduceLT, Nat.reduceLeDiff, reduceCtorEq, Int.reduceToNat, Int.reduceLT, Int.reduceLE, Int.reduceEq, Int.reduceNeg, Int.reduceBEq, Int.reduceBNe, String.reduceEq, forall_const, ↓vmDA, vmVA, ↓vmQA, vmR, vmRA, ↓vmSA, vmSV, tyS, nuE, SubA.skip, SubA.refl, fr.2, vbAdjN, holder_v, foll_v, hlt, lb, hcr, Rc.agg, k0, k7, a1, we]
      exact LoopA.weak (ih (e + 1) tot h3' hv (by omega)) (by simp only [subE, get_cons, Nat.reduceEqDiff, ↓reduceIte, reduceCtorEq, Nat.reduceAdd, and_self, and_true]) (SubA.skip (fr.2 0) (SubA.refl _))
    by_cases a2 : 999999999999 < x.am
    · have hv : netF L = tot + netF l := by rw [hn]; simp [netF, netN, a2]
      simp (maxDischargeDepth := 16) only [argE_nil, argE_cons, ↓vmD, vmV, vmStd, Nat.reduceMul, ↓reduceIte, Nat.reduceAdd, Nat.reduceSub, Nat.reduceEqDiff, Nat.reduceLT, Nat.reduceLeDiff, reduceCtorEq, Int.reduceToNat, Int.reduceLT, Int.reduceLE, Int.reduceEq, Int.reduceNeg, Int.reduceBEq, Int.reduceBNe, String.reduceEq, forall_const, ↓vmDA, vmVA, ↓vmQA, vmR, vmRA, ↓vmSA, vmSV, tyS, nuE, SubA.skip, SubA.refl, fr.2, vbAdjN, holder_v, foll_v, hlt, lb, hcr, Rc.agg, k0, k7, a1, a2, we]
      exact LoopA.weak (ih (e + 1) tot h3' hv (by omega)) (by simp only [subE, get_cons, Nat.reduceEqDiff, ↓reduceIte, reduceCtorEq, Nat.reduceAdd, and_self, and_true]) (SubA.skip (fr.2 0) (SubA.refl _))
    have hin : ¬ (x.am < 1 ∨ 999999999999 < x.am) := by omega
    by_cases q3 : x.kd = 3
    · have b3 : (x.kd == 3) = true := by rw [q3]; rfl
      have b4 : (x.kd == 4) = false := by rw [q3]; rfl
      have hv : netF L = tot + x.am + netF l := by rw [hn]; simp only [netF, netN]; rw [if_neg hin, if_pos q3]; omega
      have wp := wp (by omega)
      simp (maxDischargeDepth := 16) only [argE_nil, argE_cons, ↓vmD, vmV, vmStd, Nat.reduceMul, ↓reduceIte, Nat.reduceAdd, Nat.reduceSub, Nat.reduceEqDiff, Nat.reduceLT, Nat.reduceLeDiff, reduceCtorEq, Int.reduceToNat, Int.reduceLT, Int.reduceLE, Int.reduceEq, Int.reduceNeg, Int.reduceBEq, Int.reduceBNe, String.reduceEq, forall_const, ↓vmDA, vmVA, ↓vmQA, vmR, vmRA, ↓vmSA, vmSV, tyS, nuE, SubA.skip, SubA.refl, fr.2, vbAdjN, holder_v, foll_v, hlt, lb, hcr, Rc.agg, k0, k7, a1, a2, b3, b4, wp, we]
      exact LoopA.weak (ih (e + 1) (tot + x.am) h3' hv (by omega)) (by simp only [subE, get_cons, Nat.reduceEqDiff, ↓reduceIte, reduceCtorEq, Nat.reduceAdd, and_self, and_true]) (SubA.skip (fr.2 0) (SubA.refl _))
    have b3 : (x.kd == 3) = false := by simpa using q3
    by_cases q4 : x.kd = 4
    · have b4 : (x.kd == 4) = true := by rw [q4]; rfl
      have hv : netF L = tot - x.am + netF l := by rw [hn]; simp only [netF, netN]; rw [if_neg hin, if_neg q3, if_pos q4]; omega
      have wn := wn (by omega)
      simp (maxDischargeDepth := 16) only [argE_nil, argE_cons, ↓vmD, vmV, vmStd, Nat.reduceMul, ↓reduceIte, Nat.reduceAdd, Nat.reduceSub, Nat.reduceEqDiff, Nat.reduceLT, Nat.reduceLeDiff, reduceCtorEq, Int.reduceToNat, Int.reduceLT, Int.reduceLE, Int.reduceEq, Int.reduceNeg, Int.reduceBEq, Int.reduceBNe, String.reduceEq, forall_const, ↓vmDA, vmVA, ↓vmQA, vmR, vmRA, ↓vmSA, vmSV, tyS, nuE, SubA.skip, SubA.refl, fr.2, vbAdjN, holder_v, foll_v, hlt, lb, hcr, Rc.agg, k0, k7, a1, a2, b3, b4, wn, we]
      exact LoopA.weak (ih (e + 1) (tot - x.am) h3' hv (by omega)) (by simp only [subE, get_cons, Nat.reduceEqDiff, ↓reduceIte, reduceCtorEq, Nat.reduceAdd, and_self, and_true]) (SubA.skip (fr.2 0) (SubA.refl _))
    have b4 : (x.kd == 4) = false := by simpa using q4
    have hv : netF L = tot + netF l := by rw [hn]; simp only [netF, netN]; rw [if_neg hin, if_neg q3, if_neg q4]; omega
    simp (maxDischargeDepth := 16) only [argE_nil, argE_cons, ↓vmD, vmV, vmStd, Nat.reduceMul, ↓reduceIte, Nat.reduceAdd, Nat.reduceSub, Nat.reduceEqDiff, Nat.reduceLT, Nat.reduceLeDiff, reduceCtorEq, Int.reduceToNat, Int.reduceLT, Int.reduceLE, Int.reduceEq, Int.reduceNeg, Int.reduceBEq, Int.reduceBNe, String.reduceEq, forall_const, ↓vmDA, vmVA, ↓vmQA, vmR, vmRA, ↓vmSA, vmSV, tyS, nuE, SubA.skip, SubA.refl, fr.2, vbAdjN, holder_v, foll_v, hlt, lb, hcr, Rc.agg, k0, k7, a1, a2, b3, b4, we]
    exact LoopA.weak (ih (e + 1) tot h3' hv (by omega)) (by simp only [subE, get_cons, Nat.reduceEqDiff, ↓reduceIte, reduceCtorEq, Nat.reduceAdd, and_self, and_true]) (SubA.skip (fr.2 0) (SubA.refl _))
theorem panNet_w (A : AH) (L : List Rc) (p : Option Addr) (cap : Nat) (hL : StR Rc.cells 12 A p L) (hl : L.length ≤ 3000) (B_ : AH) (hB_ : SubA A B_) : valA Tryz.prog 22 #[.slice p L.length cap] B_ = some (.int .i64 (netF L)) := valA_eq (pureA_at (by kernel_rfl) (panNet_h A L p cap hL hl) hB_)
theorem panNet_v (A : AH) (L : List Rc) (p : Option Addr) (cap : Nat) (hL : StR Rc.cells 12 A p L) (hl : L.length ≤ 3000) : valA Tryz.prog 22 #[.slice p L.length cap] A = some (.int .i64 (netF L)) := valA_eq (pureA_at (by kernel_rfl) (panNet_h A L p cap hL hl) (SubA.refl _))
end Go.Proofs.YtiholbpchhifiaaGreatDoor
