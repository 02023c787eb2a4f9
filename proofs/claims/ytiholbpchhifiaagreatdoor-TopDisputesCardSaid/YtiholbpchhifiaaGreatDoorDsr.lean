/-
Disputes: a desk's cases as data and in memory; its readers; a case comes to a stage.
Conditions: none.
-/
import Derived.Test.YtiholbpchhifiaaGreatDoorEvi
import Derived.Test.YtiholbpchhifiaaGreatDoorStg
import Derived.Test.YtiholbpchhifiaaGreatDoorRec
namespace Go.Proofs.YtiholbpchhifiaaGreatDoor
open Go.Vm
set_option linter.unusedSimpArgs false
set_option linter.unusedVariables false
set_option maxHeartbeats 1000000
set_option maxRecDepth 20000
theorem vbDsr : type_of% (And.intro @slIndexByte_v (And.intro @indexByte_v (And.intro @indexRune_v (And.intro @containsRune_v (And.intro @classOf_v (And.intro @isWordByte_v (And.intro @wordAt_v (And.intro @isName_v (And.intro @possible_v (And.intro @days_v (And.intro @due_v (And.intro @evName_v (And.intro @evCheck_v (And.intro @dNext_v (And.intro @recId_v (And.intro @moneyCur_v (And.intro @inTotal_v (And.intro @exCard_v (@recCheck_v))))))))))))))))))) := And.intro @slIndexByte_v (And.intro @indexByte_v (And.intro @indexRune_v (And.intro @containsRune_v (And.intro @classOf_v (And.intro @isWordByte_v (And.intro @wordAt_v (And.intro @isName_v (And.intro @possible_v (And.intro @days_v (And.intro @due_v (And.intro @evName_v (And.intro @evCheck_v (And.intro @dNext_v (And.intro @recId_v (And.intro @moneyCur_v (And.intro @inTotal_v (And.intro @exCard_v (@recCheck_v))))))))))))))))))
/-- A case. -/
structure Ca where
  id : Txt
  rcd : Txt
  rea : Txt
  iss : Txt
  acq : Txt
  amt : Int
  cur : Txt
  st : Int
  op : Int
  du : Int
/-- A case with its course. -/
structure Fd where
  c : Ca
  h : List Int
  last : Int
/-- A folder in memory: where its stages lie. -/
structure Fo where
  d : Fd
  sv : Value
  sb : AH
/-- A clearing record. -/
structure Rd where
  kd : Int
  id : Txt
  au : Txt
  aq : Txt
  is : Txt
  me : Txt
  ca : Txt
  am : Int
  cu : Txt
  da : Int
  ct : Int
  fi : Bool
def intC (n : Int) : List Value := [.int .i64 n]
theorem intC_len (n : Int) : (intC n).length = 1 := rfl
def caC (c : Ca) : List Value := [.string (bs c.id), .string (bs c.rcd), .string (bs c.rea), .string (bs c.iss), .string (bs c.acq), .int .i64 c.amt, .string (bs c.cur), .int .i64 c.st, .int .i64 c.op, .int .i64 c.du]
def foC (f : Fo) : List Value := [.string (bs f.d.c.id), .string (bs f.d.c.rcd), .string (bs f.d.c.rea), .string (bs f.d.c.iss), .string (bs f.d.c.acq), .int .i64 f.d.c.amt, .string (bs f.d.c.cur), .int .i64 f.d.c.st, .int .i64 f.d.c.op, .int .i64 f.d.c.du, f.sv, .int .i64 f.d.last]
def rdC (r : Rd) : List Value := [.int .i64 r.kd, .string (bs r.id), .string (bs r.au), .string (bs r.aq), .string (bs r.is), .string (bs r.me), .string (bs r.ca), .int .i64 r.am, .string (bs r.cu), .int .i64 r.da, .int .i64 r.ct, .bool r.fi]
theorem caC_len (c : Ca) : (caC c).length = 10 := rfl
theorem foC_len (f : Fo) : (foC f).length = 12 := rfl
theorem rdC_len (r : Rd) : (rdC r).length = 12 := rfl
/-! ### What the calls answer -/
def posF (id : Txt) : List Fd → Option Nat
  | [] => none
  | f :: l => if f.c.id = id then some 0 else (posF id l).map (· + 1)
def dspF (rcd : Txt) : List Fd → Int
  | [] => 0
  | f :: l => (if f.c.rcd = rcd ∧ f.c.st ≠ 6 then f.c.amt else 0) + dspF rcd l
def dueX (R : List Rn) (code : Txt) (stage date : Int) : Int :=
  if stage ≠ 1 ∧ stage ≠ 2 ∧ stage ≠ 3 then 0 else if (dueF ((findR code R).getD noRn) stage date).2 ≠ 0 then 99999 else (dueF ((findR code R).getD noRn) stage date).1
def enterX (R : List Rn) (f : Fd) (stage date : Int) : Fd := ⟨{ f.c with st := stage, du := dueX R f.c.rea stage date }, f.h ++ [stage], date⟩
def recE (r : Rd) : Int := chkRG r.kd (bs r.id) (bs r.au) (bs r.aq) (bs r.is) (bs r.me) (bs r.ca) r.am (bs r.cu) r.da r.ct
def checkX (R : List Rn) (F : List Fd) (r : Rd) (code : Txt) (amount date : Int) (items : List Itm) : Int :=
  if recE r ≠ 0 then recE r else if r.kd ≠ 1 then 4 else if (findR code R).isSome = false then 6
  else if amount < 1 ∨ r.am < amount then 4 else if r.am < amount + dspF r.id F then 26
  else if date < 0 ∨ 99999 < date ∨ date < r.da then 14
  else if (dueF ((findR code R).getD noRn) 0 r.da).2 = 0 ∧ (dueF ((findR code R).getD noRn) 0 r.da).1 < date then 24
  else if suffF items (needsF ((findR code R).getD noRn) 1) = false then 25 else 0
def openF (R : List Rn) (id : Txt) (r : Rd) (code : Txt) (amount date : Int) : Fd := enterX R ⟨⟨id, r.id, code, r.is, r.aq, amount, r.cu, 0, date, 0⟩, [], 0⟩ 1 date
def openE (R : List Rn) (F : List Fd) (id : Txt) (r : Rd) (code : Txt) (amount date : Int) (items : List Itm) : Int :=
  if idF (bs id) = false then 5 else if (posF id F).isSome = true then 7 else if 64 ≤ F.length then 12 else checkX R F r code amount date items
def openX (R : List Rn) (F : List Fd) (id : Txt) (r : Rd) (code : Txt) (amount date : Int) (items : List Itm) : Int × List Fd :=
  if openE R F id r code amount date items ≠ 0 then (openE R F id r code amount date items, F) else (0, F ++ [openF R id r code amount date])
def stepE (R : List Rn) (f : Fd) (event date : Int) (items : List Itm) : Int :=
  if event < 1 ∨ 6 < event then 4 else if (nextF f.c.st event).2 ≠ 0 then 8 else if date < 0 ∨ 99999 < date ∨ date < f.last then 14
  else if event ≤ 4 ∧ f.c.du < date then 24 else if suffF items (if event = 1 then needsF ((findR f.c.rea R).getD noRn) 2 else []) = false then 25 else 0
def stepX (R : List Rn) (F : List Fd) (id : Txt) (event date : Int) (items : List Itm) : Int × List Fd :=
  match posF id F with
  | none => (6, F)
  | some i => match F[i]? with
    | none => (6, F)
    | some f => if stepE R f event date items ≠ 0 then (stepE R f event date items, F) else (0, F.set i (enterX R f (nextF f.c.st event).1 date))
def dueB (f : Fd) (date : Int) : Bool := decide ((nextF f.c.st 7).2 = 0) && decide (f.c.du < date)
def expF (R : List Rn) (date : Int) (f : Fd) : Fd := if dueB f date = true then enterX R f (nextF f.c.st 7).1 date else f
def okDate (date : Int) : Bool := decide (0 ≤ date) && decide (date ≤ 99999)
def expX (R : List Rn) (F : List Fd) (date : Int) : List Txt × List Fd := if okDate date = false then ([], F) else ((F.filter fun f => dueB f date).map (fun f => f.c.id), F.map (expF R date))
/-! ### The data's own bounds -/
def FdOk (f : Fd) : Prop := (f.h.length : Int) ≤ f.c.st ∧ 1 ≤ f.c.st ∧ f.c.st ≤ 6 ∧ 1 ≤ f.c.amt ∧ f.c.amt ≤ 999999999999
def FdsOk (F : List Fd) : Prop := (∀ f ∈ F, FdOk f) ∧ F.length ≤ 64 ∧ (F.map fun f => f.c.id).Nodup
theorem dspF_le (rcd : Txt) : ∀ F : List Fd, (∀ f ∈ F, FdOk f) → 0 ≤ dspF rcd F ∧ dspF rcd F ≤ 999999999999 * (F.length : Int)
  | [], _ => by simp [dspF]
  | f :: l, h => by
    have h1 := h f (by simp)
    have h2 := dspF_le rcd l fun x hx => h x (by simp [hx])
    obtain ⟨_, _, _, a1, a2⟩ := h1
    simp only [dspF, List.length_cons]
    split <;> omega
theorem posF_some {id : Txt} : ∀ {F : List Fd} {i : Nat}, posF id F = some i → ∃ f, F[i]? = some f ∧ f.c.id = id
  | [], _, h => by simp [posF] at h
  | x :: l, i, h => by
    simp only [posF] at h
    split at h
    · rename_i e; cases h; exact ⟨x, rfl, e⟩
    · cases hp : posF id l with
      | none => rw [hp] at h; cases h
      | some j =>
        rw [hp] at h
        simp at h
        subst h
        simpa using posF_some hp
theorem posF_none {id : Txt} : ∀ {F : List Fd}, posF id F = none → ∀ f ∈ F, f.c.id ≠ id
  | [], _, _, h => by cases h
  | x :: l, h, f, hf => by
    simp only [posF] at h
    split at h
    · cases h
    · rename_i hne
      rcases List.mem_cons.1 hf with e | e
      · rw [e]; exact hne
      · exact posF_none (by simpa using h) f e
theorem posF_app {id : Txt} : ∀ {F : List Fd} {f : Fd}, posF id (F ++ [f]) = match posF id F with | some i => some i | none => if f.c.id = id then some F.length else none
  | [], f => by simp only [List.nil_append, posF]; split <;> rfl
  | x :: l, f => by
    simp only [List.cons_append, posF]
    by_cases h : x.c.id = id
    · rw [if_pos h, if_pos h]
    · rw [if_neg h, if_neg h, posF_app (F := l)]
      cases posF id l with
      | some i => rfl
      | none => simp only [Option.map_none]; split <;> simp
theorem posF_ids {id : Txt} : ∀ {F G : List Fd}, (F.map fun f => f.c.id) = G.map (fun f => f.c.id) → posF id F = posF id G
  | [], [], _ => rfl
  | [], y :: G, h => by simp at h
  | x :: F, [], h => by simp at h
  | x :: F, y :: G, h => by
    simp only [List.map_cons, List.cons.injEq] at h
    simp only [posF, h.1, posF_ids h.2]
theorem map_set_same {α β : Type} (g : α → β) {L : List α} {i : Nat} {x y : α} (hx : L[i]? = some x) (hy : g y = g x) : (L.set i y).map g = L.map g := by
  apply List.ext_getElem?
  intro j
  rw [List.getElem?_map, List.getElem?_map]
  have hi := (List.getElem?_eq_some_iff.1 hx).1
  by_cases h : i = j
  · subst h; rw [List.getElem?_set_self hi, hx]; simp [hy]
  · rw [List.getElem?_set_ne h]
/-! ### In memory -/
def MapOk (M : SMap) (F : List Fd) : Prop := ∀ k, lookM M (bs k) = (posF k F).map fun i => .int .i64 (i : Int)
/-- A desk at a block: its reasons, its folders (in the slice fv), and the map of their places. -/
def DkP (E : AH) (db : Nat) (fv : Value) (R : List Rs) (F : List Fo) : Prop :=
  ∃ (rp : Option Addr) (rcap pr : Nat) (es : Array MapEntry) (cl : Nat) (M : SMap) (RX FB : AH), E = cat ([(db, (Obj.cells #[.slice rp R.length rcap, fv, .map (some pr)] 65))] :: [(pr, .map es cl)] :: RX :: FB :: F.map Fo.sb) ∧ Sep ([(db, (Obj.cells #[.slice rp R.length rcap, fv, .map (some pr)] 65))] :: [(pr, .map es cl)] :: RX :: FB :: F.map Fo.sb) ∧
    RsR RX rp R ∧ BigR R ∧ (R.length ≤ rcap ∧ rcap ≤ 9223372036854775807) ∧ R.length ≤ 32 ∧ OwnL foC 12 68 fv FB F ∧ (∀ f ∈ F, OwnL intC 1 3 f.sv f.sb f.d.h) ∧ MapIs es M ∧ MapOk M (F.map Fo.d)
theorem at_map {α : Type} (g : α → AH) : ∀ {L : List α} {i : Nat} {x : α}, L[i]? = some x → at_ (L.map g) i = g x
  | [], _, _, h => by simp at h
  | y :: L, 0, x, h => by simp at h; subst h; rfl
  | y :: L, i + 1, x, h => at_map g (L := L) (by simpa using h)
theorem DkP.out {E : AH} {db : Nat} {fv : Value} {R : List Rs} {F : List Fo} (h : DkP E db fv R F) :
    ∃ rp rcap pr es cl M fp fcap, fv = .slice fp F.length fcap ∧ F.length ≤ fcap ∧ Vm.look E db = some (Obj.cells #[.slice rp R.length rcap, fv, .map (some pr)] 65) ∧ Vm.look E pr = some (.map es cl) ∧ MapIs es M ∧ MapOk M (F.map Fo.d) ∧ RsR E rp R ∧ BigR R ∧ (R.length ≤ rcap ∧ rcap ≤ 9223372036854775807) ∧ R.length ≤ 32 ∧ StR foC 12 E fp F ∧ (∀ f ∈ F, ∃ p cap, f.sv = .slice p f.d.h.length cap ∧ f.d.h.length ≤ cap ∧ cap ≤ 9223372036854775807 ∧ StR intC 1 E p f.d.h) := by
  obtain ⟨rp, rcap, pr, es, cl, M, RX, FB, rfl, sp, h1, h2, h3, h3b, h4, h5, h6, h7⟩ := h
  obtain ⟨fp, fcap, rfl, hc, hs⟩ := h4.read foC_len
  refine ⟨rp, rcap, pr, es, cl, M, fp, fcap, rfl, hc, sp.sub [(db, (Obj.cells #[.slice rp R.length rcap, .slice fp F.length fcap, .map (some pr)] 65))] (by simp) _ _ (by simp [Vm.look]), sp.sub [(pr, .map es cl)] (by simp) _ _ (by simp [Vm.look]), h6, h7, h1.mono (sp.sub _ (by simp)), h2, h3, h3b, hs.mono (sp.sub _ (by simp)), fun f hf => ?_⟩
  have o := h5 f hf
  obtain ⟨p, cap, e, hc, hs⟩ := o.read intC_len
  refine ⟨p, cap, e, hc, ?_, hs.mono (sp.sub _ (by simp only [List.mem_cons, List.mem_map]; exact .inr (.inr (.inr (.inr ⟨f, hf, rfl⟩)))))⟩
  rw [e] at o
  exact own_cap o
set_option linter.unusedSimpArgs false
set_option linter.unusedVariables false
set_option maxHeartbeats 2000000
set_option maxRecDepth 20000
theorem und_mi : Tryz.prog.underlying 63 = some (.map 9 3) := by kernel_rfl
theorem dueD_h (X : AH) (db : Nat) (rp : Option Addr) (rcap : Nat) (fv : Value) (pr : Nat) (R : List Rs) (hX : Vm.look X db = some (Obj.cells #[.slice rp R.length rcap, fv, .map (some pr)] 65)) (hR : RsR X rp R) (hb : BigR R) (hl : R.length ≤ 32) (code : Txt) (st date : Int) : CallA Tryz.prog 41 #[.pointer (some ⟨db, 0, none⟩), .string (bs code), .int .i64 st, .int .i64 date] X (fun u_ A_ => u_ = .int .i64 (dueX (R.map Rs.d) code st date) ∧ SubA X A_) := by
  refine callA_of_denA ⟨Tryz.prog, 41, Tryz.f41, 42, [0, 1, 2, 3, 8, 9, 11, 12], [27], [], _⟩ (args := [_, _, _, _]) Tryz.func41 rfl (by kernel_rfl) Tryz.ntmps41 (by simp) (by kernel_rfl) ?_
  intro ν fr; have nuE := fr.nu
  by_cases h : st ≠ 1 ∧ st ≠ 2 ∧ st ≠ 3
  · obtain ⟨h1, h2, h3⟩ := h
    have hd : dueX (R.map Rs.d) code st date = 0 := if_pos ⟨h1, h2, h3⟩
    simp (maxDischargeDepth := 16) only [argE_nil, argE_cons, ↓vmD, vmV, vmStd, Nat.reduceMul, ↓reduceIte, Nat.reduceAdd, Nat.reduceSub, Nat.reduceEqDiff, Nat.reduceLT, Nat.reduceLeDiff, reduceCtorEq, Int.reduceToNat, Int.reduceLT, Int.reduceLE, Int.reduceEq, Int.reduceNeg, Int.reduceBEq, Int.reduceBNe, String.reduceEq, forall_const, ↓vmDA, vmVA, ↓vmQA, vmR, vmRA, ↓vmSA, vmSV, tyS, nuE, SubA.skip, SubA.refl, fr.2, vbDsr, h1, h2, h3, hd]
  have hd : dueX (R.map Rs.d) code st date = if (dueF ((findR code (R.map Rs.d)).getD noRn) st date).2 ≠ 0 then 99999 else (dueF ((findR code (R.map Rs.d)).getD noRn) st date).1 := if_neg h
  have h' : (st = 1 ∨ st = 2 ∨ st = 3) := by omega
  have h1' : ∀ x : Int, (¬ x = 0) → (x != 0) = true := fun x hx => by simpa using hx
  rcases h' with h1 | h1 | h1
  all_goals
    subst h1
    simp (maxDischargeDepth := 16) only [argE_nil, argE_cons, ↓vmD, vmV, vmStd, Nat.reduceMul, ↓reduceIte, Nat.reduceAdd, Nat.reduceSub, Nat.reduceEqDiff, Nat.reduceLT, Nat.reduceLeDiff, reduceCtorEq, Int.reduceToNat, Int.reduceLT, Int.reduceLE, Int.reduceEq, Int.reduceNeg, Int.reduceBEq, Int.reduceBNe, String.reduceEq, forall_const, ↓vmDA, vmVA, ↓vmQA, vmR, vmRA, ↓vmSA, vmSV, tyS, nuE, SubA.skip, SubA.refl, fr.2, vbDsr, hX]
    refine CallA.newX (find_n X R rp rcap code hR hb (by omega)) (SubA.refl X) ?_
    rintro v B ⟨r, rfl, hrd, hin⟩ hdx
    refine ⟨X, hdx.right, ?_⟩
    rw [← hrd] at hd
    intro ν fr; have nuE := fr.nu
    simp (maxDischargeDepth := 16) only [argE_nil, argE_cons, ↓vmD, vmV, vmStd, Nat.reduceMul, ↓reduceIte, Nat.reduceAdd, Nat.reduceSub, Nat.reduceEqDiff, Nat.reduceLT, Nat.reduceLeDiff, reduceCtorEq, Int.reduceToNat, Int.reduceLT, Int.reduceLE, Int.reduceEq, Int.reduceNeg, Int.reduceBEq, Int.reduceBNe, String.reduceEq, forall_const, ↓vmDA, vmVA, ↓vmQA, vmR, vmRA, ↓vmSA, vmSV, tyS, nuE, SubA.skip, SubA.refl, fr.2, vbDsr, rsC]
    rw [hd]
    split
    · rfl
    · rfl
theorem dueD_w (X : AH) (db : Nat) (rp : Option Addr) (rcap : Nat) (fv : Value) (pr : Nat) (R : List Rs) (hX : Vm.look X db = some (Obj.cells #[.slice rp R.length rcap, fv, .map (some pr)] 65)) (hR : RsR X rp R) (hb : BigR R) (hl : R.length ≤ 32) (code : Txt) (st date : Int) (B_ : AH) (hB_ : SubA X B_) : valA Tryz.prog 41 #[.pointer (some ⟨db, 0, none⟩), .string (bs code), .int .i64 st, .int .i64 date] B_ = some (.int .i64 (dueX (R.map Rs.d) code st date)) := valA_eq (pureA_at (by kernel_rfl) (dueD_h X db rp rcap fv pr R hX hR hb hl code st date) hB_)
theorem dueD_v (X : AH) (db : Nat) (rp : Option Addr) (rcap : Nat) (fv : Value) (pr : Nat) (R : List Rs) (hX : Vm.look X db = some (Obj.cells #[.slice rp R.length rcap, fv, .map (some pr)] 65)) (hR : RsR X rp R) (hb : BigR R) (hl : R.length ≤ 32) (code : Txt) (st date : Int) : valA Tryz.prog 41 #[.pointer (some ⟨db, 0, none⟩), .string (bs code), .int .i64 st, .int .i64 date] X = some (.int .i64 (dueX (R.map Rs.d) code st date)) := valA_eq (pureA_at (by kernel_rfl) (dueD_h X db rp rcap fv pr R hX hR hb hl code st date) (SubA.refl _))
theorem dsp_at (rcd : Txt) (f : Fd) : (if f.c.rcd = rcd ∧ f.c.st ≠ 6 then f.c.amt else 0) = dspF rcd [f] := by simp [dspF]
theorem dsp_app (rcd : Txt) : ∀ (a b : List Fd), dspF rcd (a ++ b) = dspF rcd a + dspF rcd b
  | [], b => by simp [dspF]
  | f :: l, b => by simp only [List.cons_append, dspF, dsp_app rcd l b]; omega
theorem disp_h (E : AH) (db : Nat) (fv : Value) (R : List Rs) (F : List Fo) (hE : DkP E db fv R F) (hF : FdsOk (F.map Fo.d)) (rcd : Txt) : CallA Tryz.prog 39 #[.pointer (some ⟨db, 0, none⟩), .string (bs rcd)] E (fun u_ A_ => u_ = .int .i64 (dspF rcd (F.map Fo.d)) ∧ SubA E A_) := by
  refine callA_of_denA ⟨Tryz.prog, 39, Tryz.f39, 38, [0, 1, 4, 5, 7, 13, 14, 15], [], [], _⟩ (args := [_, _]) Tryz.func39 rfl (by kernel_rfl) Tryz.ntmps39 (by simp) (by kernel_rfl) ?_
  intro ν fr; have nuE := fr.nu
  obtain ⟨rp, rcap, pr, es, cl, M, fp, fcap, rfl, hc, l1, l2, hm, hmo, hR, hb, hrc, hr32, hs, hsv⟩ := hE.out
  have hlen := hF.2.1
  rw [List.length_map] at hlen
  simp (maxDischargeDepth := 16) only [argE_nil, argE_cons, ↓vmD, vmV, vmStd, Nat.reduceMul, ↓reduceIte, Nat.reduceAdd, Nat.reduceSub, Nat.reduceEqDiff, Nat.reduceLT, Nat.reduceLeDiff, reduceCtorEq, Int.reduceToNat, Int.reduceLT, Int.reduceLE, Int.reduceEq, Int.reduceNeg, Int.reduceBEq, Int.reduceBNe, String.reduceEq, forall_const, ↓vmDA, vmVA, ↓vmQA, vmR, vmRA, ↓vmSA, vmSV, tyS, nuE, SubA.skip, SubA.refl, fr.2, vbDsr, l1]
  obtain ⟨e, l, s, he, hse, hd, hle, hx⟩ : ∃ (e : Nat) (l : List Fo) (s : Int), e = 0 ∧ s = 0 ∧ l = F.drop e ∧ e ≤ F.length ∧ s = dspF rcd ((F.take e).map Fo.d) := ⟨0, F, 0, rfl, rfl, rfl, by omega, rfl⟩
  rw [show (15, some (Value.int .i64 0)) = (15, some (Value.int .i64 (e : Int))) by rw [he]; rfl]
  rw [show (5, some (Value.int .i64 0)) = (5, some (Value.int .i64 s)) by rw [hse]]
  clear he hse nuE fr
  induction l generalizing e s with
  | nil =>
    obtain ⟨hn1, hn2⟩ := drop_nil hd hle
    have lt : ((e : Int) < (F.length : Int)) = False := eq_false (by omega)
    rw [hn2] at hx
    refine LoopA.intro (by kernel_rfl) ?_
    intro ν fr; have nuE := fr.nu
    simp (maxDischargeDepth := 16) only [argE_nil, argE_cons, ↓vmD, vmV, vmStd, Nat.reduceMul, ↓reduceIte, Nat.reduceAdd, Nat.reduceSub, Nat.reduceEqDiff, Nat.reduceLT, Nat.reduceLeDiff, reduceCtorEq, Int.reduceToNat, Int.reduceLT, Int.reduceLE, Int.reduceEq, Int.reduceNeg, Int.reduceBEq, Int.reduceBNe, String.reduceEq, forall_const, ↓vmDA, vmVA, ↓vmQA, vmR, vmRA, ↓vmSA, vmSV, tyS, nuE, SubA.skip, SubA.refl, fr.2, vbDsr, lt]
    rw [hx]
  | cons x l ih =>
    obtain ⟨ha, hlt, hd', htk⟩ := drop_some hd
    have lt : ((e : Int) < (F.length : Int)) = True := eq_true (by omega)
    have we : IntKind.i64.wrap ((e : Int) + 1) = ((e + 1 : Nat) : Int) := by rw [w_i64 (by omega) (by omega)]; omega
    obtain ⟨bk, off, cs, ty, fr0, hp0, hbk, hcr, hcc⟩ := hs.at ha
    subst hp0
    obtain ⟨sp, scap, hsv1, _⟩ := hsv x (List.mem_of_getElem? ha)
    simp only [foC, hsv1] at hcr
    have t1 : ((bs x.d.c.rcd).toList = (bs rcd).toList) = (x.d.c.rcd = rcd) := by rw [bs_list, bs_list]
    have ok := hF.1
    have okt : ∀ f ∈ (F.take e).map Fo.d, FdOk f := fun f hf => ok f (by obtain ⟨y, hy, rfl⟩ := List.mem_map.1 hf; exact List.mem_map_of_mem (List.mem_of_mem_take hy))
    have okx := ok x.d (List.mem_map_of_mem (List.mem_of_getElem? ha))
    have b1 := dspF_le rcd _ okt
    rw [← hx] at b1
    rw [List.length_map, List.length_take] at b1
    obtain ⟨_, _, _, a1, a2⟩ := okx
    have ws : IntKind.i64.wrap (s + x.d.c.amt) = s + x.d.c.amt := w_i64 (by omega) (by omega)
    have hx' : dspF rcd ((F.take (e + 1)).map Fo.d) = s + (if x.d.c.rcd = rcd ∧ x.d.c.st ≠ 6 then x.d.c.amt else 0) := by
      rw [htk, List.map_append, dsp_app, ← hx]; rw [dsp_at]; rfl
    refine LoopA.intro (by kernel_rfl) ?_
    intro ν fr; have nuE := fr.nu
    by_cases h1 : x.d.c.rcd = rcd
    · have h1' := eq_true h1
      by_cases h2 : x.d.c.st = 6
      · have h2' := eq_true h2
        rw [if_neg (by simp [h2]), Int.add_zero] at hx'
        simp (maxDischargeDepth := 16) only [argE_nil, argE_cons, ↓vmD, vmV, vmStd, Nat.reduceMul, ↓reduceIte, Nat.reduceAdd, Nat.reduceSub, Nat.reduceEqDiff, Nat.reduceLT, Nat.reduceLeDiff, reduceCtorEq, Int.reduceToNat, Int.reduceLT, Int.reduceLE, Int.reduceEq, Int.reduceNeg, Int.reduceBEq, Int.reduceBNe, String.reduceEq, forall_const, ↓vmDA, vmVA, ↓vmQA, vmR, vmRA, ↓vmSA, vmSV, tyS, nuE, SubA.skip, SubA.refl, fr.2, vbDsr, lt, hbk, hcr, t1, h1', h2', we]
        refine LoopA.at (SubA.skip (fr.2 0) (SubA.refl _)) ?_
        exact LoopA.weak (ih (e + 1) s hd' (by omega) hx'.symm) (by simp only [subE, get_cons, Nat.reduceEqDiff, ↓reduceIte, reduceCtorEq, Nat.reduceAdd, and_self, and_true]) (SubA.refl _)
      · have h2' := eq_false h2
        rw [if_pos ⟨h1, h2⟩] at hx'
        simp (maxDischargeDepth := 16) only [argE_nil, argE_cons, ↓vmD, vmV, vmStd, Nat.reduceMul, ↓reduceIte, Nat.reduceAdd, Nat.reduceSub, Nat.reduceEqDiff, Nat.reduceLT, Nat.reduceLeDiff, reduceCtorEq, Int.reduceToNat, Int.reduceLT, Int.reduceLE, Int.reduceEq, Int.reduceNeg, Int.reduceBEq, Int.reduceBNe, String.reduceEq, forall_const, ↓vmDA, vmVA, ↓vmQA, vmR, vmRA, ↓vmSA, vmSV, tyS, nuE, SubA.skip, SubA.refl, fr.2, vbDsr, lt, hbk, hcr, t1, h1', h2', we, ws]
        refine LoopA.at (SubA.skip (fr.2 0) (SubA.refl _)) ?_
        exact LoopA.weak (ih (e + 1) _ hd' (by omega) hx'.symm) (by simp only [subE, get_cons, Nat.reduceEqDiff, ↓reduceIte, reduceCtorEq, Nat.reduceAdd, and_self, and_true]) (SubA.refl _)
    · have h1' := eq_false h1
      rw [if_neg (fun h => h1 h.1), Int.add_zero] at hx'
      simp (maxDischargeDepth := 16) only [argE_nil, argE_cons, ↓vmD, vmV, vmStd, Nat.reduceMul, ↓reduceIte, Nat.reduceAdd, Nat.reduceSub, Nat.reduceEqDiff, Nat.reduceLT, Nat.reduceLeDiff, reduceCtorEq, Int.reduceToNat, Int.reduceLT, Int.reduceLE, Int.reduceEq, Int.reduceNeg, Int.reduceBEq, Int.reduceBNe, String.reduceEq, forall_const, ↓vmDA, vmVA, ↓vmQA, vmR, vmRA, ↓vmSA, vmSV, tyS, nuE, SubA.skip, SubA.refl, fr.2, vbDsr, lt, hbk, hcr, t1, h1', we]
      refine LoopA.at (SubA.skip (fr.2 0) (SubA.refl _)) ?_
      exact LoopA.weak (ih (e + 1) s hd' (by omega) hx'.symm) (by simp only [subE, get_cons, Nat.reduceEqDiff, ↓reduceIte, reduceCtorEq, Nat.reduceAdd, and_self, and_true]) (SubA.refl _)
theorem disp_w (E : AH) (db : Nat) (fv : Value) (R : List Rs) (F : List Fo) (hE : DkP E db fv R F) (hF : FdsOk (F.map Fo.d)) (rcd : Txt) (B_ : AH) (hB_ : SubA E B_) : valA Tryz.prog 39 #[.pointer (some ⟨db, 0, none⟩), .string (bs rcd)] B_ = some (.int .i64 (dspF rcd (F.map Fo.d))) := valA_eq (pureA_at (by kernel_rfl) (disp_h E db fv R F hE hF rcd) hB_)
theorem disp_v (E : AH) (db : Nat) (fv : Value) (R : List Rs) (F : List Fo) (hE : DkP E db fv R F) (hF : FdsOk (F.map Fo.d)) (rcd : Txt) : valA Tryz.prog 39 #[.pointer (some ⟨db, 0, none⟩), .string (bs rcd)] E = some (.int .i64 (dspF rcd (F.map Fo.d))) := valA_eq (pureA_at (by kernel_rfl) (disp_h E db fv R F hE hF rcd) (SubA.refl _))
def caAgg (c : Ca) : Value := .agg #[.string (bs c.id), .string (bs c.rcd), .string (bs c.rea), .string (bs c.iss), .string (bs c.acq), .int .i64 c.amt, .string (bs c.cur), .int .i64 c.st, .int .i64 c.op, .int .i64 c.du]
def noCa : Ca := ⟨[], [], [], [], [], 0, [], 0, 0, 0⟩
def getX (id : Txt) (F : List Fd) : Option Ca := match posF id F with | none => none | some i => (F[i]?).map Fd.c
theorem getDk_h (E : AH) (db : Nat) (fv : Value) (R : List Rs) (F : List Fo) (hE : DkP E db fv R F) (id : Txt) : CallA Tryz.prog 11 #[.pointer (some ⟨db, 0, none⟩), .string (bs id)] E (fun u_ A_ => u_ = .tuple #[caAgg ((getX id (F.map Fo.d)).getD noCa), .bool (getX id (F.map Fo.d)).isSome] ∧ SubA E A_) := by
  refine callA_of_denA ⟨Tryz.prog, 11, Tryz.f11, 31, [0, 1, 4, 5, 6, 7], [], [], _⟩ (args := [_, _]) Tryz.func11 rfl (by kernel_rfl) Tryz.ntmps11 (by simp) (by kernel_rfl) ?_
  intro ν fr; have nuE := fr.nu
  obtain ⟨rp, rcap, pr, es, cl, M, fp, fcap, rfl, hc, l1, l2, hm, hmo, hR, hb, hrc, hr32, hs, hsv⟩ := hE.out
  have f0 := fr.2 0
  have sE : ∀ o, SubA E ((ν 0, o) :: E) := fun o => SubA.fresh f0 (SubA.refl _)
  have lk := fun o => rdA_lookup (s := bs id) (A := (ν 0, o) :: E) (ok := true) (es := es) (cl := cl) (r := pr) und_mi und_st zro3 (sE o _ _ l2) hm
  simp only [hmo id] at lk
  obtain ⟨n1, n2⟩ := look_ne f0 l1
  cases hp : posF id (F.map Fo.d) with
  | none =>
    have hg : getX id (F.map Fo.d) = none := by unfold getX; rw [hp]
    simp only [hp, Option.map_none, Option.getD_none, Option.isSome_none, if_true] at lk
    rw [hg]
    simp (maxDischargeDepth := 16) only [argE_nil, argE_cons, ↓vmD, vmV, vmStd, Nat.reduceMul, ↓reduceIte, Nat.reduceAdd, Nat.reduceSub, Nat.reduceEqDiff, Nat.reduceLT, Nat.reduceLeDiff, reduceCtorEq, Int.reduceToNat, Int.reduceLT, Int.reduceLE, Int.reduceEq, Int.reduceNeg, Int.reduceBEq, Int.reduceBNe, String.reduceEq, forall_const, ↓vmDA, vmVA, ↓vmQA, vmR, vmRA, ↓vmSA, vmSV, tyS, nuE, SubA.skip, SubA.refl, fr.2, vbDsr, l1, n1, n2, lk, caAgg]
    rfl
  | some i =>
    obtain ⟨f, hf, hid⟩ := posF_some hp
    have hg : getX id (F.map Fo.d) = some f.c := by unfold getX; rw [hp]; simp only [hf, Option.map_some]
    rw [List.getElem?_map, Option.map_eq_some_iff] at hf
    obtain ⟨x, hx, rfl⟩ := hf
    simp only [hp, Option.map_some, Option.getD_some, Option.isSome_some, if_true] at lk
    obtain ⟨bk, off, cs, ty, fr0, hp0, hbk, hcr, hcc⟩ := hs.at hx
    have hlt := (List.getElem?_eq_some_iff.1 hx).1
    obtain ⟨k1, k2⟩ := look_ne f0 hbk
    subst hp0
    have h10 := rdCS_sub (k := 0) (n := 10) hcr (by omega)
    simp only [foC, List.drop_zero, List.take_succ_cons, List.take_zero, Nat.add_zero] at h10
    have li : ((i : Int) < 0) = False := eq_false (by omega)
    have li2 : ((i : Int) < (F.length : Int)) = True := eq_true (by omega)
    rw [hg]
    simp (maxDischargeDepth := 16) only [argE_nil, argE_cons, ↓vmD, vmV, vmStd, Nat.reduceMul, ↓reduceIte, Nat.reduceAdd, Nat.reduceSub, Nat.reduceEqDiff, Nat.reduceLT, Nat.reduceLeDiff, reduceCtorEq, Int.reduceToNat, Int.reduceLT, Int.reduceLE, Int.reduceEq, Int.reduceNeg, Int.reduceBEq, Int.reduceBNe, String.reduceEq, forall_const, ↓vmDA, vmVA, ↓vmQA, vmR, vmRA, ↓vmSA, vmSV, tyS, nuE, SubA.skip, SubA.refl, fr.2, vbDsr, l1, n1, n2, lk, caAgg, li, li2, hbk, k1, k2, h10]
    rfl
theorem getDk_w (E : AH) (db : Nat) (fv : Value) (R : List Rs) (F : List Fo) (hE : DkP E db fv R F) (id : Txt) (B_ : AH) (hB_ : SubA E B_) : valA Tryz.prog 11 #[.pointer (some ⟨db, 0, none⟩), .string (bs id)] B_ = some (.tuple #[caAgg ((getX id (F.map Fo.d)).getD noCa), .bool (getX id (F.map Fo.d)).isSome]) := valA_eq (pureA_at (by kernel_rfl) (getDk_h E db fv R F hE id) hB_)
theorem getDk_v (E : AH) (db : Nat) (fv : Value) (R : List Rs) (F : List Fo) (hE : DkP E db fv R F) (id : Txt) : valA Tryz.prog 11 #[.pointer (some ⟨db, 0, none⟩), .string (bs id)] E = some (.tuple #[caAgg ((getX id (F.map Fo.d)).getD noCa), .bool (getX id (F.map Fo.d)).isSome]) := valA_eq (pureA_at (by kernel_rfl) (getDk_h E db fv R F hE id) (SubA.refl _))
theorem sc_in0 : sliceCells Tryz.prog 46 0 [] = some (3, #[]) := by kernel_rfl
theorem sc_in1 (n : Int) : sliceCells Tryz.prog 46 1 [(0, .int .i64 n)] = some (3, #[.int .i64 n]) := by kernel_rfl
theorem int_one (n : Int) : ∀ u ∈ intC n, u.oneCell' = true := by simp [intC, Value.oneCell']
theorem cloneI_h (A : AH) (T : List Int) (p : Option Addr) (cap : Nat) (hT : StR intC 1 A p T) (hl : T.length ≤ 8000000000000) : CallA Tryz.prog 30 #[.slice p T.length cap] A (fun u_ A_ => ∃ v B, u_ = v ∧ OwnL intC 1 3 v B T ∧ Dis B A ∧ SubA (B ++ A) A_) := by
  refine callA_of_denA ⟨Tryz.prog, 30, Tryz.f30, 8, [0, 2], [], [], _⟩ (args := [_]) Tryz.func30 rfl (by kernel_rfl) Tryz.ntmps30 (by simp) (by kernel_rfl) ?_
  intro ν fr; have nuE := fr.nu
  cases hp : p.isNone with
  | true =>
    have : T = [] := by
      rcases hT with h | ⟨b, off, cs, e, fr, rfl, _⟩
      · exact h
      · cases hp
    subst this
    simp (maxDischargeDepth := 16) only [argE_nil, argE_cons, ↓vmD, vmV, vmStd, Nat.reduceMul, ↓reduceIte, Nat.reduceAdd, Nat.reduceSub, Nat.reduceEqDiff, Nat.reduceLT, Nat.reduceLeDiff, reduceCtorEq, Int.reduceToNat, Int.reduceLT, Int.reduceLE, Int.reduceEq, Int.reduceNeg, Int.reduceBEq, Int.reduceBNe, String.reduceEq, forall_const, ↓vmDA, vmVA, ↓vmQA, vmR, vmRA, ↓vmSA, vmSV, tyS, nuE, SubA.skip, SubA.refl, fr.2, vbDsr, hp]
    exact ⟨_, [], rfl, OwnL.nil _ _ _, Dis.nil _, SubA.refl _⟩
  | false =>
    simp (maxDischargeDepth := 16) only [argE_nil, argE_cons, ↓vmD, vmV, vmStd, Nat.reduceMul, ↓reduceIte, Nat.reduceAdd, Nat.reduceSub, Nat.reduceEqDiff, Nat.reduceLT, Nat.reduceLeDiff, reduceCtorEq, Int.reduceToNat, Int.reduceLT, Int.reduceLE, Int.reduceEq, Int.reduceNeg, Int.reduceBEq, Int.reduceBNe, String.reduceEq, forall_const, ↓vmDA, vmVA, ↓vmQA, vmR, vmRA, ↓vmSA, vmSV, tyS, nuE, SubA.skip, SubA.refl, fr.2, vbDsr, hp, sc_in0]
    have f0 := fr.2 0
    refine RunA.use ?_
    refine append_src (m := T.length) (news := T.flatMap intC) (B := [(ν 0, .cells #[] 3)]) slc46 zro3 rfl (by decide) (OwnL.at0 intC 1 _ _) (SubA.left [_] _) ?_ (flat_one int_one T) (by simp only [maxLen, List.length_nil]; omega) (by simp only [List.length_nil]; omega) ?_
    · rcases hT.src with h | ⟨g, off, h1, h2⟩
      · exact .inl h
      · refine .inr ⟨g, off, h1, ?_⟩
        rw [← h2]
        obtain ⟨cc, ce, cfr, hlook⟩ := rdCS_some h2
        rw [hlook]
        congr 1
        exact SubA.fresh f0 (SubA.refl _) _ _ hlook
    intro v' B' ho' hb'
    refine ⟨B' ++ A, SubA.app (SubA.fresh f0 (SubA.refl _)), ?_⟩
    intro ν2 fr2
    have fr := fr2
    have nuE := fr.nu
    simp (maxDischargeDepth := 16) only [argE_nil, argE_cons, ↓vmD, vmV, vmStd, Nat.reduceMul, ↓reduceIte, Nat.reduceAdd, Nat.reduceSub, Nat.reduceEqDiff, Nat.reduceLT, Nat.reduceLeDiff, reduceCtorEq, Int.reduceToNat, Int.reduceLT, Int.reduceLE, Int.reduceEq, Int.reduceNeg, Int.reduceBEq, Int.reduceBNe, String.reduceEq, forall_const, ↓vmDA, vmVA, ↓vmQA, vmR, vmRA, ↓vmSA, vmSV, tyS, nuE, SubA.skip, SubA.refl, fr.2, vbDsr]
    refine ⟨_, B', rfl, ?_, ap_dis hb' (Dis.one f0) (SubA.fresh f0 (SubA.refl _)), SubA.refl _⟩
    unfold OwnL
    simpa using ho'

def histX (id : Txt) (F : List Fd) : List Int := match posF id F with | none => [] | some i => match F[i]? with | none => [] | some f => f.h
theorem histD_h (E : AH) (db : Nat) (fv : Value) (R : List Rs) (F : List Fo) (hE : DkP E db fv R F) (hF : ∀ f ∈ F, f.d.h.length ≤ 100) (id : Txt) : CallA Tryz.prog 12 #[.pointer (some ⟨db, 0, none⟩), .string (bs id)] E (fun u_ A_ => ∃ v B, u_ = v ∧ OwnL intC 1 3 v B (histX id (F.map Fo.d)) ∧ Dis B E ∧ SubA (B ++ E) A_) := by
  refine callA_of_denA ⟨Tryz.prog, 12, Tryz.f12, 29, [0, 1, 4, 5, 6], [30], [], _⟩ (args := [_, _]) Tryz.func12 rfl (by kernel_rfl) Tryz.ntmps12 (by simp) (by kernel_rfl) ?_
  intro ν fr; have nuE := fr.nu
  obtain ⟨rp, rcap, pr, es, cl, M, fp, fcap, rfl, hc, l1, l2, hm, hmo, hR, hb, hrc, hr32, hs, hsv⟩ := hE.out
  have lk := rdA_lookup (s := bs id) (A := E) (ok := true) (es := es) (cl := cl) (r := pr) und_mi und_st zro3 l2 hm
  rw [hmo id] at lk
  cases hp : posF id (F.map Fo.d) with
  | none =>
    have hg : histX id (F.map Fo.d) = [] := by unfold histX; rw [hp]
    simp only [hp, Option.map_none, Option.getD_none, Option.isSome_none, if_true] at lk
    rw [hg]
    simp (maxDischargeDepth := 16) only [argE_nil, argE_cons, ↓vmD, vmV, vmStd, Nat.reduceMul, ↓reduceIte, Nat.reduceAdd, Nat.reduceSub, Nat.reduceEqDiff, Nat.reduceLT, Nat.reduceLeDiff, reduceCtorEq, Int.reduceToNat, Int.reduceLT, Int.reduceLE, Int.reduceEq, Int.reduceNeg, Int.reduceBEq, Int.reduceBNe, String.reduceEq, forall_const, ↓vmDA, vmVA, ↓vmQA, vmR, vmRA, ↓vmSA, vmSV, tyS, nuE, SubA.skip, SubA.refl, fr.2, vbDsr, l1, lk]
    exact ⟨_, [], rfl, OwnL.nil _ _ _, Dis.nil _, SubA.refl _⟩
  | some i =>
    obtain ⟨f, hf, hid⟩ := posF_some hp
    have hg : histX id (F.map Fo.d) = f.h := by unfold histX; rw [hp]; simp only [hf]
    rw [List.getElem?_map, Option.map_eq_some_iff] at hf
    obtain ⟨x, hx, rfl⟩ := hf
    simp only [hp, Option.map_some, Option.getD_some, Option.isSome_some, if_true] at lk
    obtain ⟨bk, off, cs, ty, fr0, hp0, hbk, hcr, hcc⟩ := hs.at hx
    have hlt := (List.getElem?_eq_some_iff.1 hx).1
    have hxm := List.mem_of_getElem? hx
    obtain ⟨sp, scap, hsv1, hsc, hsc2, hss⟩ := hsv x hxm
    subst hp0
    have h10 := hcc 10 _ rfl
    rw [hsv1] at h10
    have li : ((i : Int) < 0) = False := eq_false (by omega)
    have li2 : ((i : Int) < (F.length : Int)) = True := eq_true (by omega)
    rw [hg]
    simp (maxDischargeDepth := 16) only [argE_nil, argE_cons, ↓vmD, vmV, vmStd, Nat.reduceMul, ↓reduceIte, Nat.reduceAdd, Nat.reduceSub, Nat.reduceEqDiff, Nat.reduceLT, Nat.reduceLeDiff, reduceCtorEq, Int.reduceToNat, Int.reduceLT, Int.reduceLE, Int.reduceEq, Int.reduceNeg, Int.reduceBEq, Int.reduceBNe, String.reduceEq, forall_const, ↓vmDA, vmVA, ↓vmQA, vmR, vmRA, ↓vmSA, vmSV, tyS, nuE, SubA.skip, SubA.refl, fr.2, vbDsr, l1, lk, li, li2, hbk, h10]
    refine CallA.new (cloneI_h E _ _ _ hss (by have := hF x hxm; omega)) (SubA.refl E) ?_
    intro v B ho hd
    intro ν fr; have nuE := fr.nu
    simp (maxDischargeDepth := 16) only [argE_nil, argE_cons, ↓vmD, vmV, vmStd, Nat.reduceMul, ↓reduceIte, Nat.reduceAdd, Nat.reduceSub, Nat.reduceEqDiff, Nat.reduceLT, Nat.reduceLeDiff, reduceCtorEq, Int.reduceToNat, Int.reduceLT, Int.reduceLE, Int.reduceEq, Int.reduceNeg, Int.reduceBEq, Int.reduceBNe, String.reduceEq, forall_const, ↓vmDA, vmVA, ↓vmQA, vmR, vmRA, ↓vmSA, vmSV, tyS, nuE, SubA.skip, SubA.refl, fr.2, vbDsr]
    exact ⟨v, B, rfl, ho, hd, SubA.refl _⟩

set_option linter.unusedSimpArgs false
set_option linter.unusedVariables false
set_option maxHeartbeats 2000000
set_option maxRecDepth 20000
theorem set_self (c : Array Value) (k : Nat) (v : Value) (h : c[k]? = some v) : c.setIfInBounds k v = c := by
  apply Array.ext (by simp)
  intro n h1 h2
  rw [Array.getElem_setIfInBounds]
  split
  · rename_i e
    subst e
    have := Array.getElem?_eq_getElem h2
    rw [h] at this
    exact Option.some.inj this
  · rfl
theorem splice_en {cur : Array Value} {i : Nat} {f : Fo} (R : List Rn) (stage date : Int) (sv : Value) (B : AH) (hcc : ∀ j u, (foC f)[j]? = some u → cur[i * 12 + j]? = some u) :
    splice cur (i * 12) (foC ⟨enterX R f.d stage date, sv, B⟩) = (((cur.setIfInBounds (i * 12 + 7) (.int .i64 stage)).setIfInBounds (i * 12 + 9) (.int .i64 (dueX R f.d.c.rea stage date))).setIfInBounds (i * 12 + 10) sv).setIfInBounds (i * 12 + 11) (.int .i64 date) := by
  simp only [foC, enterX, splice]
  rw [set_self cur (i * 12) _ (hcc 0 _ rfl), set_self cur (i * 12 + 1) _ (hcc 1 _ rfl), set_self cur (i * 12 + 1 + 1) _ (hcc 2 _ rfl), set_self cur (i * 12 + 1 + 1 + 1) _ (hcc 3 _ rfl), set_self cur (i * 12 + 1 + 1 + 1 + 1) _ (hcc 4 _ rfl), set_self cur (i * 12 + 1 + 1 + 1 + 1 + 1) _ (hcc 5 _ rfl), set_self cur (i * 12 + 1 + 1 + 1 + 1 + 1 + 1) _ (hcc 6 _ rfl)]
  rw [set_self (cur.setIfInBounds (i * 12 + 7) (.int .i64 stage)) (i * 12 + 1 + 1 + 1 + 1 + 1 + 1 + 1 + 1) _ (by rw [Array.getElem?_setIfInBounds_ne (by omega)]; exact hcc 8 _ rfl)]
theorem get_ne {c : Array Value} {i j : Nat} {v : Value} (h : i ≠ j) : (c.setIfInBounds i v)[j]? = c[j]? := Array.getElem?_setIfInBounds_ne h
theorem enter_h (X : AH) (db fb i : Nat) (rp : Option Addr) (rcap : Nat) (fv : Value) (pr : Nat) (R : List Rs) (hX : Vm.look X db = some (Obj.cells #[.slice rp R.length rcap, fv, .map (some pr)] 65)) (hR : RsR X rp R) (hb : BigR R) (hl : R.length ≤ 32) (cur : Array Value) (f : Fo) (hcc : ∀ j u, (foC f)[j]? = some u → cur[i * 12 + j]? = some u) (hcs : i * 12 + 12 ≤ cur.size) (ho : OwnL intC 1 3 f.sv f.sb f.d.h) (hlen : f.d.h.length ≤ 100) (hfX : Vm.look X fb = none) (hfB : Vm.look f.sb fb = none) (hBX : Dis f.sb X) (stage date : Int) : CallA Tryz.prog 20 #[.pointer (some ⟨db, 0, none⟩), .pointer (some ⟨fb, i * 12, none⟩), .int .i64 stage, .int .i64 date] ((fb, .cells cur 68) :: (f.sb ++ X)) (fun u_ A_ => u_ = .tuple #[] ∧ ∃ sv' B', OwnL intC 1 3 sv' B' (f.d.h ++ [stage]) ∧ SubA ((fb, .cells (splice cur (i * 12) (foC ⟨enterX (R.map Rs.d) f.d stage date, sv', B'⟩)) 68) :: (B' ++ X)) A_ ∧ (∀ b, Vm.look B' b ≠ none → Vm.look f.sb b ≠ none ∨ Vm.look ((fb, .cells cur 68) :: (f.sb ++ X)) b = none) ∧ (∀ b, Vm.look ((fb, .cells cur 68) :: (f.sb ++ X)) b ≠ none → Vm.look A_ b ≠ none)) := by
  refine callA_of_denA ⟨Tryz.prog, 20, Tryz.f20, 40, [0, 1, 2, 3], [], [], _⟩ (args := [_, _, _, _]) Tryz.func20 rfl (by kernel_rfl) Tryz.ntmps20 (by simp) (by kernel_rfl) ?_
  intro ν fr; have nuE := fr.nu
  have s7 : (i * 12 + 7 + 1 ≤ cur.size) = True := eq_true (by omega)
  have s9 : (i * 12 + 9 + 1 ≤ cur.size) = True := eq_true (by omega)
  have s10 : (i * 12 + 10 + 1 ≤ cur.size) = True := eq_true (by omega)
  have s11 : (i * 12 + 11 + 1 ≤ cur.size) = True := eq_true (by omega)
  have c2 : ∀ v, (cur.setIfInBounds (i * 12 + 7) v)[i * 12 + 2]? = some (.string (bs f.d.c.rea)) := fun v => (get_ne (by omega)).trans (hcc 2 _ rfl)
  obtain ⟨q, cap, hsv, hcap, hs⟩ := ho.read intC_len
  have c10 : ∀ v u, ((cur.setIfInBounds (i * 12 + 7) v).setIfInBounds (i * 12 + 9) u)[i * 12 + 10]? = some (.slice q f.d.h.length cap) := fun v u => (get_ne (by omega)).trans ((get_ne (by omega)).trans (by rw [← hsv]; exact hcc 10 _ rfl))
  have sX : ∀ o, SubA X ((fb, o) :: (f.sb ++ X)) := fun o => SubA.skip hfX hBX.right
  have dv := fun o => dueD_w X db rp rcap fv pr R hX hR hb hl f.d.c.rea stage date ((fb, o) :: (f.sb ++ X)) (sX o)
  simp (maxDischargeDepth := 16) only [argE_nil, argE_cons, ↓vmD, vmV, vmStd, Nat.reduceMul, ↓reduceIte, Nat.reduceAdd, Nat.reduceSub, Nat.reduceEqDiff, Nat.reduceLT, Nat.reduceLeDiff, reduceCtorEq, Int.reduceToNat, Int.reduceLT, Int.reduceLE, Int.reduceEq, Int.reduceNeg, Int.reduceBEq, Int.reduceBNe, String.reduceEq, forall_const, ↓vmDA, vmVA, ↓vmQA, vmR, vmRA, ↓vmSA, vmSV, tyS, nuE, SubA.skip, SubA.refl, fr.2, vbDsr, s7, c2, dv, s9, c10, Array.size_setIfInBounds, sc_in1]
  generalize hc1 : (cur.setIfInBounds (i * 12 + 7) (.int .i64 stage)).setIfInBounds (i * 12 + 9) (.int .i64 (dueX (R.map Rs.d) f.d.c.rea stage date)) = cur1
  have z1 : cur1.size = cur.size := by rw [← hc1]; simp
  have hdom : ∀ (o : Obj) b, Vm.look ((fb, Obj.cells cur 68) :: (f.sb ++ X)) b ≠ none → Vm.look ((fb, o) :: (f.sb ++ X)) b ≠ none := fun o b h => by
    simp only [Vm.look] at h ⊢
    split
    · simp
    · rename_i hne; rw [if_neg hne] at h; exact h
  have f0 := fr.2 0
  have hb0 : Vm.look f.sb (ν 0) = none := (SubA.skip hfB (SubA.left f.sb X)).none f0
  have hx0 := (sX _).none f0
  have hfb0 : (fb = ν 0) = False := eq_false (fun e => by rw [← e] at f0; simp [Vm.look] at f0)
  refine RunA.use ?_
  refine append_src (m := 1) (news := intC stage) (B := f.sb) slc46 zro3 rfl (by decide) (by rw [← hsv]; exact ho) (SubA.skip hb0 (SubA.skip hfB (SubA.left f.sb X))) (.inr ⟨ν 0, 0, rfl, by simp (maxDischargeDepth := 16) only [argE_nil, argE_cons, ↓vmD, vmV, vmStd, Nat.reduceMul, ↓reduceIte, Nat.reduceAdd, Nat.reduceSub, Nat.reduceEqDiff, Nat.reduceLT, Nat.reduceLeDiff, reduceCtorEq, Int.reduceToNat, Int.reduceLT, Int.reduceLE, Int.reduceEq, Int.reduceNeg, Int.reduceBEq, Int.reduceBNe, String.reduceEq, forall_const, ↓vmDA, vmVA, ↓vmQA, vmR, vmRA, ↓vmSA, vmSV, tyS, nuE, SubA.skip, SubA.refl, fr.2, vbDsr, intC]⟩) (by simp [intC, Value.oneCell']) (by simp only [maxLen]; omega) (by omega) ?_
  intro v' B' ho' hb'
  have ho2 : OwnL intC 1 3 v' B' (f.d.h ++ [stage]) := by
    unfold OwnL
    rw [List.length_append, List.flatMap_append]
    simpa only [List.map_cons, List.map_nil, List.length_cons, List.length_nil, List.flatMap_cons, List.flatMap_nil, List.append_nil, Nat.zero_add] using ho'
  obtain ⟨q2, cap2, rfl, hc2, hs2⟩ := ho2.read intC_len
  have hfB' : Vm.look B' fb = none := by
    cases hx : Vm.look B' fb with
    | none => rfl
    | some o =>
      rcases hb' fb (by rw [hx]; simp) with h | h
      · exact absurd hfB h
      · exact absurd h (by simp only [Vm.look]; split <;> simp)
  have hBX' : Dis B' X := ap_dis hb' hBX (SubA.skip hx0 (sX _))
  refine ⟨(fb, .cells cur1 68) :: (B' ++ (f.sb ++ X)), ?_, ?_⟩
  · refine SubA.trans (cons_out hfB') (SubA.app (SubA.skip ?_ (SubA.refl _)))
    simp only [Vm.look, hfb0, if_false]
    exact look_app_none hb0 hx0
  intro ν3 fr3
  have fr := fr3
  have nuE := fr.nu
  have t10 : (i * 12 + 10 + 1 ≤ cur1.size) = True := eq_true (by omega)
  have t11 : (i * 12 + 11 + 1 ≤ cur1.size) = True := eq_true (by omega)
  simp (maxDischargeDepth := 16) only [argE_nil, argE_cons, ↓vmD, vmV, vmStd, Nat.reduceMul, ↓reduceIte, Nat.reduceAdd, Nat.reduceSub, Nat.reduceEqDiff, Nat.reduceLT, Nat.reduceLeDiff, reduceCtorEq, Int.reduceToNat, Int.reduceLT, Int.reduceLE, Int.reduceEq, Int.reduceNeg, Int.reduceBEq, Int.reduceBNe, String.reduceEq, forall_const, ↓vmDA, vmVA, ↓vmQA, vmR, vmRA, ↓vmSA, vmSV, tyS, nuE, SubA.skip, SubA.refl, fr.2, vbDsr, t10, t11, Array.size_setIfInBounds]
  rw [← hc1]
  refine ⟨rfl, _, B', ho2, ?_, fun b h => ?_, fun b h => ?_⟩
  · rw [splice_en (R.map Rs.d) stage date _ B' hcc]
    exact cons_in (SubA.app hBX.right)
  · rcases hb' b h with h1 | h1
    · exact .inl h1
    · refine .inr ?_
      simp only [Vm.look] at h1 ⊢
      split at h1
      · cases h1
      · split at h1
        · cases h1
        · rename_i e; rw [if_neg e]; exact h1
  · by_cases e : fb = b
    · rw [if_pos e]; simp
    · rw [if_neg e] at h ⊢
      rw [look_append]
      split
      · simp
      · exact h

set_option linter.unusedSimpArgs false
set_option linter.unusedVariables false
set_option maxHeartbeats 2000000
set_option maxRecDepth 20000
theorem sepT_iff {x : AH} {l : List AH} : SepT x l ↔ ∀ y ∈ l, Dis x y := ⟨fun h => h.all, SepT.of⟩
theorem sep_iff : ∀ {l : List AH}, Sep l ↔ l.Pairwise Dis
  | [] => ⟨fun _ => List.Pairwise.nil, fun _ => trivial⟩
  | x :: l => by
    rw [List.pairwise_cons, ← sep_iff (l := l), ← sepT_iff]
    exact Iff.rfl
theorem Sep.perm {l m : List AH} (h : Sep l) (p : l.Perm m) : Sep m := sep_iff.2 ((p.pairwise_iff fun h => Dis.symm h).1 (sep_iff.1 h))
theorem Sep.cats {l m : List AH} (h : Sep m) (p : l.Perm m) : SubA (cat l) (cat m) := h.subM fun x hx => p.mem_iff.1 hx
theorem one_less' {b : Nat} {o u : Obj} : ∀ x, Vm.look [(b, o)] x = none → Vm.look [(b, u)] x = none := fun x h => by
  simp only [Vm.look] at h ⊢
  split at h
  · cases h
  · rename_i hne; rw [if_neg hne]
theorem get_perm {α : Type} : ∀ {L : List α} {i : Nat} {x : α}, L[i]? = some x → (x :: L.eraseIdx i).Perm L
  | [], _, _, h => by simp at h
  | y :: L, 0, x, h => by simp at h; subst h; exact List.Perm.refl _
  | y :: L, i + 1, x, h => (List.Perm.swap y x _).trans (List.Perm.cons y (get_perm (L := L) (i := i) (by simpa using h)))
theorem set_perm {α : Type} : ∀ {L : List α} {i : Nat}, i < L.length → ∀ y : α, (y :: L.eraseIdx i).Perm (L.set i y)
  | [], _, h, _ => by simp at h
  | x :: L, 0, _, y => List.Perm.refl _
  | x :: L, i + 1, h, y => (List.Perm.swap x y _).trans (List.Perm.cons x (set_perm (L := L) (i := i) (by simpa using h) y))
/-- A call that leads from one state to another, beside what is not touched. -/
theorem CallA.st {P : Program} {g : FuncId} {args : Array Value} {A E X : AH} {S : Value → AH → Prop} {K : Value → AH → Prop} (hc : CallA P g args E fun v D => ∃ E', S v E' ∧ SubA E' D ∧ ∀ x, Vm.look E x ≠ none → Vm.look D x ≠ none) (hs : SubA E A) (hX : SubA X A) (hd : Dis E X)
    (hk : ∀ v E', S v E' → Dis E' X → K v (E' ++ X)) : CallA P g args A K :=
  CallA.use hc hs (fun v D ⟨E', _, _, h⟩ => h) X hX hd (fun v D ⟨E', h1, h2, h3⟩ dD => ⟨E', h2, hk v E' h1 (Dis.subl dD h2)⟩)
/-- .. and nothing else is kept. -/
theorem CallA.st0 {P : Program} {g : FuncId} {args : Array Value} {A E : AH} {S : Value → AH → Prop} {K : Value → AH → Prop} (hc : CallA P g args E fun v D => ∃ E', S v E' ∧ SubA E' D ∧ ∀ x, Vm.look E x ≠ none → Vm.look D x ≠ none) (hs : SubA E A)
    (hk : ∀ v E', S v E' → K v E') : CallA P g args A K :=
  CallA.use hc hs (fun v D ⟨E', _, _, h⟩ => h) [] (SubA.nil _) (fun x hx => absurd rfl hx) (fun v D ⟨E', h1, h2, h3⟩ _ => ⟨E', h2, by rw [List.append_nil]; exact hk v E' h1⟩)
theorem DkP.enter {E : AH} {db : Nat} {fv : Value} {R : List Rs} {F : List Fo} (hE : DkP E db fv R F) {i : Nat} {f : Fo} (hi : F[i]? = some f) (hlen : f.d.h.length ≤ 100) :
    ∃ fb fcap cur, fv = .slice (some ⟨fb, 0, none⟩) F.length fcap ∧ Vm.look E fb = some (.cells cur 68) ∧ i * 12 + 12 ≤ cur.size ∧ (∀ j u, (foC f)[j]? = some u → cur[i * 12 + j]? = some u) ∧
      ∀ stage date, CallA Tryz.prog 20 #[.pointer (some ⟨db, 0, none⟩), .pointer (some ⟨fb, i * 12, none⟩), .int .i64 stage, .int .i64 date] E fun v D => ∃ E', (v = .tuple #[] ∧ (∃ sv B, DkP E' db fv R (F.set i ⟨enterX (R.map Rs.d) f.d stage date, sv, B⟩)) ∧ Vm.look E' db = Vm.look E db) ∧ SubA E' D ∧ ∀ x, Vm.look E x ≠ none → Vm.look D x ≠ none := by
  obtain ⟨rp, rcap, pr, es, cl, M, RX, FB, rfl, sp, h1, h2, h3, h3b, h4, h5, h6, h7⟩ := hE
  have hne : F ≠ [] := by intro h; subst h; simp at hi
  have hlt := (List.getElem?_eq_some_iff.1 hi).1
  obtain ⟨fb, fcap, cur, rfl, rfl, hc1, hc2, hc3, hc4⟩ := h4.blk hne
  obtain ⟨p', cap', e', hcap', hs'⟩ := h4.read foC_len
  cases e'
  have hcc : ∀ j u, (foC f)[j]? = some u → cur[i * 12 + j]? = some u := by
    obtain ⟨b, off, cs, e, fr, q1, q2, q3, q4⟩ := hs'.at hi
    cases q1
    simp only [Vm.look, if_true] at q2
    cases q2
    intro j u hj
    have := q4 j u hj
    rwa [Nat.zero_add] at this
  have hcs : i * 12 + 12 ≤ cur.size := (h4.set foC_len hlt f).2
  have ho := h5 f (List.mem_of_getElem? hi)
  have him : (F.map Fo.sb)[i]? = some f.sb := by rw [List.getElem?_map, hi]; rfl
  generalize hrest : [(db, Obj.cells #[.slice rp R.length rcap, .slice (some ⟨fb, 0, none⟩) F.length fcap, .map (some pr)] 65)] :: [(pr, Obj.map es cl)] :: RX :: (F.map Fo.sb).eraseIdx i = rest
  have pm : ([(fb, Obj.cells cur 68)] :: f.sb :: rest).Perm ([(db, Obj.cells #[.slice rp R.length rcap, .slice (some ⟨fb, 0, none⟩) F.length fcap, .map (some pr)] 65)] :: [(pr, Obj.map es cl)] :: RX :: [(fb, Obj.cells cur 68)] :: F.map Fo.sb) := by
    rw [← hrest]
    refine List.Perm.trans ?_ (((List.Perm.cons _ (get_perm him)).cons _).cons _ |>.cons _)
    refine List.Perm.trans (List.Perm.cons _ (List.perm_middle (l₁ := [_, _, _]) (a := f.sb) (l₂ := (F.map Fo.sb).eraseIdx i)).symm) ?_
    exact (List.perm_middle (l₁ := [_, _, _]) (a := [(fb, Obj.cells cur 68)]) (l₂ := f.sb :: (F.map Fo.sb).eraseIdx i)).symm
  have sp2 := Sep.perm sp pm.symm
  have hX : Vm.look (cat rest) db = some (Obj.cells #[.slice rp R.length rcap, .slice (some ⟨fb, 0, none⟩) F.length fcap, .map (some pr)] 65) := by
    have := sp2.2.2.sub [(db, Obj.cells #[.slice rp R.length rcap, .slice (some ⟨fb, 0, none⟩) F.length fcap, .map (some pr)] 65)] (by rw [← hrest]; simp)
    exact this _ _ (by simp [Vm.look])
  have hR : RsR (cat rest) rp R := h1.mono (sp2.2.2.sub RX (by rw [← hrest]; simp))
  have dB : Dis f.sb (cat rest) := Sep.dis sp2.2
  have dF := Sep.dis sp2
  have hfB : Vm.look f.sb fb = none := by
    have : Dis [(fb, Obj.cells cur 68)] f.sb := sp2.1.1
    exact this.symm fb (by simp [Vm.look])
  have hfX : Vm.look (cat rest) fb = none := by
    have : Dis [(fb, Obj.cells cur 68)] (cat rest) := (Sep.dis (sp2.pick [0] rfl rfl) |> fun _ => by
      intro x hx
      exact dF x (by rw [cat_cons, look_append]; cases Vm.look f.sb x <;> simp [hx]))
    exact this.symm fb (by simp [Vm.look])
  have hK : ∀ b, Vm.look ((fb, Obj.cells cur 68) :: (f.sb ++ cat rest)) b = Vm.look (cat ([(fb, Obj.cells cur 68)] :: f.sb :: rest)) b := fun b => by
    rw [cat_cons, look_append]
    simp only [Vm.look]
    split
    · rfl
    · rw [cat_cons]
  refine ⟨fb, fcap, cur, rfl, sp.sub [(fb, Obj.cells cur 68)] (by simp) _ _ (by simp [Vm.look]), hcs, hcc, fun stage date => ?_⟩
  have hc := enter_h (cat rest) db fb i rp rcap (.slice (some ⟨fb, 0, none⟩) F.length fcap) pr R hX hR h2 h3b cur f hcc hcs ho hlen hfX hfB dB stage date
  refine CallA.use hc (fun b o hl => Sep.cats sp pm b o (by rw [← hK]; exact hl)) (fun v D ⟨_, _, _, _, _, _, h⟩ => h) [] (SubA.nil _) (fun x hx => absurd rfl hx) ?_
  rintro v D ⟨rfl, sv', B', ho', hs, hn, hdom⟩ _
  refine ⟨D, SubA.refl D, ?_⟩
  rw [List.append_nil]
  have hB'X : Dis B' (cat rest) := ap_dis hn dB (SubA.skip hfX dB.right)
  have hB'f : Vm.look B' fb = none := by
    cases hx : Vm.look B' fb with
    | none => rfl
    | some o =>
      rcases hn fb (by rw [hx]; simp) with h | h
      · exact absurd hfB h
      · simp [Vm.look] at h
  have sp3 : Sep ([(fb, Obj.cells (splice cur (i * 12) (foC ⟨enterX (R.map Rs.d) f.d stage date, sv', B'⟩)) 68)] :: B' :: rest) := by
    refine Sep.cons ?_ (Sep.cons hB'X sp2.2.2)
    refine Dis.one ?_
    rw [cat_cons]
    exact look_app_none hB'f hfX
  have pm3 : ([(fb, Obj.cells (splice cur (i * 12) (foC ⟨enterX (R.map Rs.d) f.d stage date, sv', B'⟩)) 68)] :: B' :: rest).Perm ([(db, Obj.cells #[.slice rp R.length rcap, .slice (some ⟨fb, 0, none⟩) F.length fcap, .map (some pr)] 65)] :: [(pr, Obj.map es cl)] :: RX :: [(fb, Obj.cells (splice cur (i * 12) (foC ⟨enterX (R.map Rs.d) f.d stage date, sv', B'⟩)) 68)] :: (F.set i ⟨enterX (R.map Rs.d) f.d stage date, sv', B'⟩).map Fo.sb) := by
    rw [← hrest, List.map_set]
    refine List.Perm.trans ?_ (((List.Perm.cons _ (set_perm (by simpa using hlt) B')).cons _).cons _ |>.cons _)
    refine List.Perm.trans (List.Perm.cons _ (List.perm_middle (l₁ := [_, _, _]) (a := B') (l₂ := (F.map Fo.sb).eraseIdx i)).symm) ?_
    exact (List.perm_middle (l₁ := [_, _, _]) (a := [(fb, Obj.cells (splice cur (i * 12) (foC ⟨enterX (R.map Rs.d) f.d stage date, sv', B'⟩)) 68)]) (l₂ := B' :: (F.map Fo.sb).eraseIdx i)).symm
  have sp4 := Sep.perm sp3 pm3
  refine ⟨_, ⟨rfl, ⟨sv', B', rp, rcap, pr, es, cl, M, RX, [(fb, Obj.cells (splice cur (i * 12) (foC ⟨enterX (R.map Rs.d) f.d stage date, sv', B'⟩)) 68)], rfl, sp4, h1, h2, h3, h3b, (h4.set foC_len hlt ⟨enterX (R.map Rs.d) f.d stage date, sv', B'⟩).1, fun g hg => ?_, h6, ?_⟩, ?_⟩, ?_, fun x hx => hdom x ?_⟩
  · rcases List.mem_or_eq_of_mem_set hg with h | h
    · exact h5 g h
    · rw [h]; exact ho'
  · intro k
    rw [h7 k, List.map_set, posF_ids (id := k) (map_set_same (y := enterX (R.map Rs.d) f.d stage date) (fun f => f.c.id) (show (F.map Fo.d)[i]? = some f.d by rw [List.getElem?_map, hi]; rfl) rfl)]
  · have q1 := Sep.sub sp4 [(db, Obj.cells #[.slice rp R.length rcap, .slice (some ⟨fb, 0, none⟩) F.length fcap, .map (some pr)] 65)] (by simp) db _ (by simp [Vm.look]; rfl)
    have q2 := Sep.sub sp [(db, Obj.cells #[.slice rp R.length rcap, .slice (some ⟨fb, 0, none⟩) F.length fcap, .map (some pr)] 65)] (by simp) db _ (by simp [Vm.look]; rfl)
    exact q1.trans q2.symm
  · refine SubA.trans (Sep.cats sp3 pm3.symm) (SubA.trans ?_ hs)
    intro b o hl
    rw [cat_cons, look_append] at hl
    by_cases e : fb = b
    · simp only [Vm.look, e, if_true] at hl ⊢; exact hl
    · simp only [Vm.look, e, if_false] at hl ⊢; rw [cat_cons] at hl; exact hl
  · rw [hK]
    intro hn2
    cases hl : Vm.look (cat ([(db, Obj.cells #[.slice rp R.length rcap, .slice (some ⟨fb, 0, none⟩) F.length fcap, .map (some pr)] 65)] :: [(pr, Obj.map es cl)] :: RX :: [(fb, Obj.cells cur 68)] :: F.map Fo.sb)) x with
    | none => exact hx hl
    | some o => rw [Sep.cats sp2 pm.symm _ _ hl] at hn2; cases hn2
end Go.Proofs.YtiholbpchhifiaaGreatDoor
