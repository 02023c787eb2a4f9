/-
The second evaluator's equations, for simp.
Conditions: none. Generic: it speaks of no program.
-/
import Derived.Test.YtfphceknmgadgaaDoorVmAK
set_option linter.unusedSimpArgs false
set_option linter.unusedVariables false
namespace Go.Vm
def panY (X : List PanicEntry → AH → Prop) (v : Value) (A : AH) (_t : Tg X := ()) : Prop := match v with | .iface t u => X [{ v := .iface t u, recovered := false }] A | _ => False
theorem panY_if (X : List PanicEntry → AH → Prop) (t : TypeId) (u : Value) (A : AH) : panY X (.iface t u) A = X [{ v := .iface t u, recovered := false }] A := rfl
def mmW (v u : Value) (K : IntKind → Int → Int → Prop) : Prop := match v, u with | .int k a, .int _ b => K k a b | _, _ => False
def lenN (u : Option TypeDesc) (K : Value → Prop) : Prop := match u with | some (.map _ _) => K (.int .i64 0) | _ => False
@[congr] theorem lenN_congr {u u' : Option TypeDesc} {K : Value → Prop} (h1 : u = u') : lenN u K = lenN u' K := by rw [h1]
theorem need_rfl {c K : Prop} (h : c) : need c K = K := by simp [need, h]
def strip1 (o : Oper) : Oper := ⟨o.dst, o.op, o.type, "", #[], o.guard⟩
def stripL (l : List Oper) : List Oper := l.map strip1
theorem stripL_nil : stripL [] = [] := rfl
theorem stripL_cons (dst : Option Nat) (op : Op) (ty : TypeId) (pos : String) (aft : Array Edge) (gd : Option (Nat × Bool)) (l : List Oper) : stripL (⟨dst, op, ty, pos, aft, gd⟩ :: l) = ⟨dst, op, ty, "", #[], gd⟩ :: stripL l := rfl
theorem stripL_app (l k : List Oper) : stripL (List.append l k) = stripL l ++ stripL k := by simp [stripL]
theorem stripL_app' (l k : List Oper) : stripL (l ++ k) = stripL l ++ stripL k := by simp [stripL]
theorem slotOf_strip (l : List Oper) (j : Nat) : slotOf (stripL l) j = slotOf l j := by
  unfold slotOf stripL
  rw [List.getElem?_map]
  cases l[j]? <;> rfl
theorem grpOf_strip (cur : Option (Nat × Bool)) : ∀ l : List Oper, grpOf cur (stripL l) = stripL (grpOf cur l)
  | [] => rfl
  | o :: l => by
    show grpOf cur (strip1 o :: stripL l) = _
    unfold grpOf
    show (if o.guard = cur then _ else _) = _
    split
    · rfl
    · rw [grpOf_strip cur l]; rfl
theorem aftOf_strip (cur : Option (Nat × Bool)) : ∀ l : List Oper, aftOf cur (stripL l) = stripL (aftOf cur l)
  | [] => rfl
  | o :: l => by
    show aftOf cur (strip1 o :: stripL l) = _
    unfold aftOf
    show (if o.guard = cur then _ else _) = _
    split
    · rfl
    · rw [aftOf_strip cur l]
theorem pureG_strip : ∀ l : List Oper, pureG (stripL l) = pureG l
  | [] => rfl
  | o :: l => by show (pureOp o.op && pureG (stripL l)) = _; rw [pureG_strip l]; rfl
theorem semiG_strip (sp : Bool) : ∀ l : List Oper, semiG sp (stripL l) = semiG sp l
  | [] => rfl
  | o :: l => by show (semiOp sp o.op && semiG sp (stripL l)) = _; rw [semiG_strip sp l]; rfl
theorem hid_strip : ∀ (l : List Oper) (ρ : Env), hid (stripL l) ρ = hid l ρ
  | [], _ => rfl
  | o :: l, ρ => by
    show hid (strip1 o :: stripL l) ρ = _
    unfold hid
    show (match o.dst with | some d => hid (stripL l) ((d, none) :: ρ) | none => hid (stripL l) ρ) = (match o.dst with | some d => hid l ((d, none) :: ρ) | none => hid l ρ)
    cases o.dst <;> exact hid_strip l _
theorem grpOk_strip (all : List Oper) (s j : Nat) (want : Bool) : ∀ (l : List Oper) (sk : List Nat), grpOk (stripL all) s j want sk (stripL l) = grpOk all s j want sk l
  | [], _ => by simp [stripL, grpOk]
  | o :: l, sk => by
    obtain ⟨dst, op, ty, pos, aft, gd⟩ := o
    show grpOk (stripL all) s j want sk (⟨dst, op, ty, "", #[], gd⟩ :: stripL l) = _
    cases dst with
    | none => simp [grpOk]
    | some d => cases gd with
      | none => simp [grpOk]
      | some g =>
        obtain ⟨j', w'⟩ := g
        simp only [grpOk, slotOf_strip, grpOk_strip all s j want l]
theorem denOpsA_strip (P : Program) (imp : Imp) (nt : Nat) (all : List Oper) : ∀ (m : Nat) (cur : Option (Nat × Bool)) (l : List Oper) (ν : Nu) (n : Nat) (ρ : Env) (A : AH) (K : Nu → Nat → Env → AH → Prop),
    denOpsA P imp nt (stripL all) m cur (stripL l) ν n ρ A K = denOpsA P imp nt all m cur l ν n ρ A K := by
  intro m
  induction m with
  | zero => intro cur l ν n ρ A K; cases l <;> rfl
  | succ m ih =>
    intro cur l ν n ρ A K
    cases l with
    | nil => rfl
    | cons o l =>
      have hcons : stripL (o :: l) = strip1 o :: stripL l := rfl
      have e1 : grpOf cur (strip1 o :: stripL l) = stripL (grpOf cur (o :: l)) := grpOf_strip cur (o :: l)
      have e2 : aftOf cur (strip1 o :: stripL l) = stripL (aftOf cur (o :: l)) := aftOf_strip cur (o :: l)
      rw [hcons]
      unfold denOpsA
      have hg : (strip1 o).guard = o.guard := rfl
      have hst : ∀ K, stepA P imp nt (strip1 o) ν n ρ A K = stepA P imp nt o ν n ρ A K := fun K => by cases o; rfl
      simp only [hg, hst, ih, slotOf_strip]
      congr 1
      cases o.guard with
      | none => rfl
      | some jw =>
        obtain ⟨j, want⟩ := jw
        simp only
        congr 1
        funext s
        congr 1
        funext v
        cases v <;> try rfl
        simp only
        rw [e1, e2, pureG_strip, grpOk_strip]
        congr 1
        generalize aftOf cur (o :: l) = aft
        generalize grpOf cur (o :: l) = g
        have ih0 : ∀ ν n ρ A K, denOpsA P imp nt (stripL all) m cur [] ν n ρ A K = denOpsA P imp nt all m cur [] ν n ρ A K := fun ν n ρ A K => ih cur [] ν n ρ A K
        cases pureG g with
        | false => simp only [ih, hid_strip]
        | true => cases aft with
          | nil => simp only [stripL_nil, ih, ih0, hid_strip]
          | cons p after =>
            show (match closes want s p.op with | some y => _ | none => False) = (match closes want s p.op with | some y => _ | none => False)
            cases closes want s p.op with
            | none => rfl
            | some y =>
              simp only [ih]
              congr 1
              funext ν n ρ' A
              exact congrArg (fun K => bnd (evO ρ' y) K) (by
                funext c
                rw [hid_strip]
                show joinK nt p.dst want _ c (hid g ρ) _ = _
                congr 1
                funext ρ''
                exact ih cur after ν n ρ'' A K)
theorem denQA_strip (P : Program) (nt : Nat) (sp : Bool) (all : List Oper) (A : AH) : ∀ (m : Nat) (cur : Option (Nat × Bool)) (l : List Oper) (ρ : Env) (K : Env → Prop),
    denQA P nt sp (stripL all) A m cur (stripL l) ρ K = denQA P nt sp all A m cur l ρ K := by
  intro m
  induction m with
  | zero => intro cur l ρ K; cases l <;> rfl
  | succ m ih =>
    intro cur l ρ K
    cases l with
    | nil => rfl
    | cons o l =>
      have hcons : stripL (o :: l) = strip1 o :: stripL l := rfl
      have e1 : grpOf cur (strip1 o :: stripL l) = stripL (grpOf cur (o :: l)) := grpOf_strip cur (o :: l)
      have e2 : aftOf cur (strip1 o :: stripL l) = stripL (aftOf cur (o :: l)) := aftOf_strip cur (o :: l)
      rw [hcons]
      unfold denQA
      have hg : (strip1 o).guard = o.guard := rfl
      have hst : ∀ K, stepQA P nt (strip1 o) ρ A K = stepQA P nt o ρ A K := fun K => by cases o; rfl
      simp only [hg, hst, ih, slotOf_strip]
      congr 1
      cases o.guard with
      | none => rfl
      | some jw =>
        obtain ⟨j, want⟩ := jw
        simp only
        congr 1
        funext s
        congr 1
        funext v
        cases v <;> try rfl
        simp only
        rw [e1, e2, semiG_strip, grpOk_strip]
        congr 1
        generalize aftOf cur (o :: l) = aft
        generalize grpOf cur (o :: l) = g
        have ih0 : ∀ ρ K, denQA P nt sp (stripL all) A m cur [] ρ K = denQA P nt sp all A m cur [] ρ K := fun ρ K => ih cur [] ρ K
        cases semiG sp g with
        | false => simp only [ih, hid_strip]
        | true => cases aft with
          | nil => simp only [stripL_nil, ih, ih0, hid_strip]
          | cons p after =>
            show (match closes want s p.op with | some y => _ | none => False) = (match closes want s p.op with | some y => _ | none => False)
            cases closes want s p.op with
            | none => rfl
            | some y =>
              simp only [ih]
              congr 1
              funext ρ'
              exact congrArg (fun K => bnd (evO ρ' y) K) (by
                funext c
                rw [hid_strip]
                show joinK nt p.dst want _ c (hid g ρ) _ = _
                congr 1
                funext ρ''
                exact ih cur after ρ'' K)
theorem denSA_strip (P : Program) (imp : Imp) (nt : Nat) (all : List Oper) : ∀ (pl : List (Nat × Nat)) (As : AH) (ν : Nu) (n : Nat) (ρ : Env) (A : AH) (K : Nu → Nat → Env → AH → Prop),
    denSA P imp nt (stripL all) pl As ν n ρ A K = denSA P imp nt all pl As ν n ρ A K
  | [], _, _, _, _, _, _ => rfl
  | (i, m) :: l, As, ν, n, ρ, A, K => by
    have e : (stripL all)[i]? = all[i]?.map strip1 := by unfold stripL; rw [List.getElem?_map]
    unfold denSA
    simp only [denSA_strip P imp nt all l, e]
    cases all[i]? with
    | none => rfl
    | some o =>
      obtain ⟨dst, op, ty, pos, aft, gd⟩ := o
      simp only [Option.map_some, strip1, opSG]
      cases gd with
      | none => simp only [opSK]; rfl
      | some g => obtain ⟨j, want⟩ := g; simp only [opSK, slotOf_strip]; rfl
def withL (l : List Oper) (K : List Oper → Prop) (_t : Tg K := ()) : Prop := K l
theorem withL_eq (l : List Oper) (K : List Oper → Prop) : withL l K = K l := rfl
section
variable (c : CxA) (k : List It) (ν : Nu) (n : Nat) (ρ : Env) (A : AH)
theorem dA_nil [dd : DefD] : denA c [] ν n ρ A = retA c ρ A := by rw [denA]
theorem dA_blk [dd : DefD] (id : Nat) : denA c (.blk id :: k) ν n ρ A = denA c k ν n ρ A := by rw [denA]
theorem dA_sc [dd : DefD] (b : Code) : denA c (.sc b :: k) ν n ρ A = denA c k ν n ρ A := by rw [denA]
theorem dA_lp [dd : DefD] (b : Code) : denA c (.lp b :: k) ν n ρ A = withE (canon c.live ρ) fun ρ => @LoopA dd c b k ρ A () := by rw [denA]; rfl
theorem dA_skip [dd : DefD] : denA c (.code .skip :: k) ν n ρ A = denA c k ν n ρ A := by rw [denA]
theorem dA_label [dd : DefD] (l : Nat) : denA c (.code (.label l) :: k) ν n ρ A = denA c k ν n ρ A := by rw [denA]
theorem dA_ret [dd : DefD] : denA c (.code .ret :: k) ν n ρ A = retA c ρ A := by rw [denA]
theorem dA_seq [dd : DefD] (x y : Code) : denA c (.code (.seq x y) :: k) ν n ρ A = denA c (.code x :: .code y :: k) ν n ρ A := by rw [denA]
theorem dA_cond [dd : DefD] (x : Operand) (t e : Code) : denA c (.code (.cond x t e) :: k) ν n ρ A = bnd (evO ρ x) fun v => ifV v (denA c (.code t :: k) ν n ρ A) (denA c (.code e :: k) ν n ρ A) := by rw [denA]
theorem dA_block [dd : DefD] (id : Nat) (b : Code) : denA c (.code (.block id b) :: k) ν n ρ A = denA c (.code b :: .blk id :: k) ν n ρ A := by rw [denA]
theorem dA_scope [dd : DefD] (b : Code) : denA c (.code (.scope b) :: k) ν n ρ A = denA c (.code b :: .sc b :: k) ν n ρ A := by rw [denA]
theorem dA_loop [dd : DefD] (b : Code) : denA c (.code (.loop b) :: k) ν n ρ A = withE (canon c.live ρ) fun ρ => @LoopA dd c b k ρ A () := by rw [denA]; rfl
theorem dA_region [dd : DefD] (id : Nat) (ops : List Oper) : denA c (.code (.region id ops.toArray false) :: k) ν n ρ A = withE (canon c.live ρ) fun ρ => withL (stripL ops) fun ops => denOpsA c.P c.imp c.n ops 400 none ops ν n ρ A fun ν n ρ' A => denA c k ν n ρ' A := by
  rw [denA]; exact (denOpsA_strip ..).symm
noncomputable def dRg [dd : DefD] (p : Option Pln) (id : Nat) (ops : List Oper) : Prop := match p with
  | some (.q sp) => withE (canon c.live ρ) fun ρ => withL (stripL ops) fun ops => denQA c.P c.n sp ops A 400 none ops ρ fun ρ' => denA c k ν n ρ' A
  | some (.p pl) => withE (canon c.live ρ) fun ρ => withL (stripL ops) fun ops => denSA c.P c.imp c.n ops pl A ν n ρ A fun ν n ρ' A => denA c k ν n ρ' A
  | none => withE (canon c.live ρ) fun ρ => @MeantA dd c (.code (.region id ops.toArray true) :: k) ρ A ()
@[congr] theorem dRg_congr [dd : DefD] {c : CxA} {k : List It} {ν : Nu} {n : Nat} {ρ : Env} {A : AH} {p p' : Option Pln} {id : Nat} {ops : List Oper} (e : p = p') : dRg c k ν n ρ A p id ops = dRg c k ν n ρ A p' id ops := by rw [e]
theorem dA_regionD [dd : DefD] (id : Nat) (ops : List Oper) : denA c (.code (.region id ops.toArray true) :: k) ν n ρ A = dRg c k ν n ρ A (planOf c.plans id) id ops := by
  rw [denA]; unfold dRg withE withL; cases planOf c.plans id with
  | none => rfl
  | some p => cases p with
    | q sp => exact (denQA_strip ..).symm
    | p pl => exact (denSA_strip ..).symm
theorem dRg_q [dd : DefD] (id : Nat) (sp : Bool) (ops : List Oper) : dRg c k ν n ρ A (some (.q sp)) id ops = withE (canon c.live ρ) fun ρ => withL (stripL ops) fun ops => denQA c.P c.n sp ops A 400 none ops ρ fun ρ' => denA c k ν n ρ' A := rfl
theorem dRg_p [dd : DefD] (id : Nat) (pl : List (Nat × Nat)) (ops : List Oper) : dRg c k ν n ρ A (some (.p pl)) id ops = withE (canon c.live ρ) fun ρ => withL (stripL ops) fun ops => denSA c.P c.imp c.n ops pl A ν n ρ A fun ν n ρ' A => denA c k ν n ρ' A := rfl
theorem dRg_n [dd : DefD] (id : Nat) (ops : List Oper) : dRg c k ν n ρ A none id ops = withE (canon c.live ρ) fun ρ => @MeantA dd c (.code (.region id ops.toArray true) :: k) ρ A () := rfl
theorem planOf_nil (j : Nat) : planOf [] j = none := rfl
theorem planOf_cons (i j : Nat) (p : Pln) (l : List (Nat × Pln)) : planOf ((i, p) :: l) j = if i = j then some p else planOf l j := rfl
theorem dA_exit [dd : DefD] (id : Nat) : denA c (.code (.exit id) :: k) ν n ρ A = denXA c (exitK id k) ν n ρ A := by
  rw [denA]; split <;> rename_i h <;> rw [h] <;> rfl
theorem dXA_some [dd : DefD] : denXA c (some k) ν n ρ A = denA c k ν n ρ A := rfl
@[congr] theorem dXA_congr [dd : DefD] {c : CxA} {k k' : Option (List It)} {ν : Nu} {n : Nat} {ρ : Env} {A : AH} (e : k = k') : denXA c k ν n ρ A = denXA c k' ν n ρ A := by rw [e]
theorem retA_eq : retA c ρ A = bnd (resLA c.P ρ A c.fn.results.toList) fun vs => c.R (one vs) A := rfl
end
section
variable (P : Program) (imp : Imp) (nt : Nat) (all : List Oper) (m : Nat) (ν : Nu) (n : Nat) (ρ : Env) (A : AH) (K : Nu → Nat → Env → AH → Prop)
variable (dst : Option Nat) (ty : TypeId) (pos : String) (aft : Array Edge) (gd : Option (Nat × Bool)) (rest : List Oper)
theorem oA_nil (cur : Option (Nat × Bool)) : denOpsA P imp nt all (m + 1) cur [] ν n ρ A K = K ν n ρ A := rfl
theorem oA_plain (op : Op) : denOpsA P imp nt all (m + 1) none (⟨dst, op, ty, pos, aft, none⟩ :: rest) ν n ρ A K =
    stepA P imp nt ⟨dst, op, ty, pos, aft, none⟩ ν n ρ A fun ν n ρ' A => denOpsA P imp nt all m none rest ν n ρ' A K := by simp [denOpsA]
theorem oA_in (op : Op) (g : Nat × Bool) : denOpsA P imp nt all (m + 1) (some g) (⟨dst, op, ty, pos, aft, some g⟩ :: rest) ν n ρ A K =
    stepA P imp nt ⟨dst, op, ty, pos, aft, some g⟩ ν n ρ A fun ν n ρ' A => denOpsA P imp nt all m (some g) rest ν n ρ' A K := by simp [denOpsA]
noncomputable def gpA (cur : Option (Nat × Bool)) (j : Nat) (want : Bool) (g after : List Oper) (s : Nat) (b : Bool) (pure : Bool) : Prop :=
  match pure, after with
  | true, p :: after' => match closes want s p.op with
    | some y => denOpsA P imp nt all m (some (j, want)) g ν n ρ A fun ν n ρ' A => bnd (evO ρ' y) fun c => joinK nt p.dst want b c (hid g ρ) fun ρ'' => denOpsA P imp nt all m cur after' ν n ρ'' A K
    | none => False
  | _, after => ifB (b == want) (denOpsA P imp nt all m (some (j, want)) g ν n ((s, some (.bool want)) :: ρ) A fun ν n ρ' A => denOpsA P imp nt all m cur after ν n ρ' A K) (denOpsA P imp nt all m cur after ν n (hid g ((s, some (.bool (!want))) :: ρ)) A K)
@[congr] theorem gpA_congr {P : Program} {imp : Imp} {nt : Nat} {all : List Oper} {m : Nat} {ν : Nu} {n : Nat} {ρ : Env} {A : AH} {K : Nu → Nat → Env → AH → Prop} {cur : Option (Nat × Bool)} {j : Nat} {want : Bool} {g g' after after' : List Oper} {s : Nat} {b pu pu' : Bool} (h1 : g = g') (h2 : after = after') (h3 : pu = pu') :
    gpA P imp nt all m ν n ρ A K cur j want g after s b pu = gpA P imp nt all m ν n ρ A K cur j want g' after' s b pu' := by rw [h1, h2, h3]
noncomputable def gvA (cur : Option (Nat × Bool)) (j : Nat) (want : Bool) (g after : List Oper) (s : Nat) (v : Value) : Prop :=
  match v with | .bool b => need (grpOk all s j want [] g = true) (gpA P imp nt all m ν n ρ A K cur j want g after s b (pureG g)) | _ => False
theorem gvA_bool (cur : Option (Nat × Bool)) (j : Nat) (want : Bool) (g after : List Oper) (s : Nat) (b : Bool) :
    gvA P imp nt all m ν n ρ A K cur j want g after s (.bool b) = need (grpOk all s j want [] g = true) (gpA P imp nt all m ν n ρ A K cur j want g after s b (pureG g)) := rfl
theorem oA_grp (op : Op) (cur : Option (Nat × Bool)) (j : Nat) (want : Bool) (hne : ¬ some (j, want) = cur) : denOpsA P imp nt all (m + 1) cur (⟨dst, op, ty, pos, aft, some (j, want)⟩ :: rest) ν n ρ A K =
    bnd (slotOf all j) fun s => bnd (get ρ s) fun v => gvA P imp nt all m ν n ρ A K cur j want
      (⟨dst, op, ty, pos, aft, some (j, want)⟩ :: grpOf cur rest) (aftOf cur rest) s v := by
  have h1 : grpOf cur (⟨dst, op, ty, pos, aft, some (j, want)⟩ :: rest) = ⟨dst, op, ty, pos, aft, some (j, want)⟩ :: grpOf cur rest := by simp [grpOf, hne]
  have h2 : aftOf cur (⟨dst, op, ty, pos, aft, some (j, want)⟩ :: rest) = aftOf cur rest := by simp [aftOf, hne]
  rw [denOpsA, if_neg hne, h1, h2]
  congr 1
theorem oA_grp0 (op : Op) (j : Nat) (want : Bool) : denOpsA P imp nt all (m + 1) none (⟨dst, op, ty, pos, aft, some (j, want)⟩ :: rest) ν n ρ A K =
    bnd (slotOf all j) fun s => bnd (get ρ s) fun v => gvA P imp nt all m ν n ρ A K none j want
      (⟨dst, op, ty, pos, aft, some (j, want)⟩ :: grpOf none rest) (aftOf none rest) s v := oA_grp P imp nt all m ν n ρ A K dst ty pos aft rest op none j want (by simp)
theorem gpA_no (cur : Option (Nat × Bool)) (j : Nat) (want : Bool) (g after : List Oper) (s : Nat) (b : Bool) : gpA P imp nt all m ν n ρ A K cur j want g after s b false =
    ifB (b == want) (withE ((s, some (.bool want)) :: ρ) fun ρ => denOpsA P imp nt all m (some (j, want)) g ν n ρ A fun ν n ρ' A => withE ρ' fun ρ' => denOpsA P imp nt all m cur after ν n ρ' A K) (withE (hid g ((s, some (.bool (!want))) :: ρ)) fun ρ => denOpsA P imp nt all m cur after ν n ρ A K) := rfl
theorem gpA_or (cur : Option (Nat × Bool)) (j : Nat) (g after : List Oper) (s : Nat) (b : Bool) (y : Operand) : gpA P imp nt all m ν n ρ A K cur j false g (⟨dst, .pick (.tmp s) (.const (.bool true)) y, ty, pos, aft, gd⟩ :: after) s b true =
    withE (hid g ρ) fun ρ2 => denOpsA P imp nt all m (some (j, false)) g ν n ρ A fun ν n ρ' A => bnd (evO ρ' y) fun c => joinK nt dst false b c ρ2 fun ρ'' => denOpsA P imp nt all m cur after ν n ρ'' A K := by simp [gpA, closes, withE]
theorem gpA_and (cur : Option (Nat × Bool)) (j : Nat) (g after : List Oper) (s : Nat) (b : Bool) (y : Operand) : gpA P imp nt all m ν n ρ A K cur j true g (⟨dst, .pick (.tmp s) y (.const (.bool false)), ty, pos, aft, gd⟩ :: after) s b true =
    withE (hid g ρ) fun ρ2 => denOpsA P imp nt all m (some (j, true)) g ν n ρ A fun ν n ρ' A => bnd (evO ρ' y) fun c => joinK nt dst true b c ρ2 fun ρ'' => denOpsA P imp nt all m cur after ν n ρ'' A K := by simp [gpA, closes, withE]
theorem sA_move (x : Operand) : stepA P imp nt ⟨dst, .move x, ty, pos, aft, gd⟩ ν n ρ A K = stepW P nt ⟨dst, .move x, ty, pos, aft, gd⟩ ρ #[] (fun ρ' _ => K ν n ρ' A) fun _ _ => False := need_rfl rfl
theorem sA_assign (x : Operand) : stepA P imp nt ⟨dst, .assign x, ty, pos, aft, gd⟩ ν n ρ A K = stepW P nt ⟨dst, .assign x, ty, pos, aft, gd⟩ ρ #[] (fun ρ' _ => K ν n ρ' A) fun _ _ => False := need_rfl rfl
theorem sA_pick (x a b : Operand) : stepA P imp nt ⟨dst, .pick x a b, ty, pos, aft, gd⟩ ν n ρ A K = stepW P nt ⟨dst, .pick x a b, ty, pos, aft, gd⟩ ρ #[] (fun ρ' _ => K ν n ρ' A) fun _ _ => False := need_rfl rfl
theorem sA_nilCheck (x : Operand) : stepA P imp nt ⟨dst, .nilCheck x, ty, pos, aft, gd⟩ ν n ρ A K = stepW P nt ⟨dst, .nilCheck x, ty, pos, aft, gd⟩ ρ #[] (fun ρ' _ => K ν n ρ' A) fun _ _ => False := need_rfl rfl
theorem sA_binOp (op : BinOp) (t : TypeId) (x y : Operand) (t2 : TypeId) : stepA P imp nt ⟨dst, .binOp op t x y t2, ty, pos, aft, gd⟩ ν n ρ A K = stepW P nt ⟨dst, .binOp op t x y t2, ty, pos, aft, gd⟩ ρ #[] (fun ρ' _ => K ν n ρ' A) fun _ _ => False := need_rfl rfl
theorem sA_unOp (op : UnOp) (t : TypeId) (x : Operand) : stepA P imp nt ⟨dst, .unOp op t x, ty, pos, aft, gd⟩ ν n ρ A K = stepW P nt ⟨dst, .unOp op t x, ty, pos, aft, gd⟩ ρ #[] (fun ρ' _ => K ν n ρ' A) fun _ _ => False := need_rfl rfl
theorem sA_makeInterface (t : TypeId) (x : Operand) : stepA P imp nt ⟨dst, .makeInterface t x, ty, pos, aft, gd⟩ ν n ρ A K = stepW P nt ⟨dst, .makeInterface t x, ty, pos, aft, gd⟩ ρ #[] (fun ρ' _ => K ν n ρ' A) fun _ _ => False := need_rfl rfl
theorem sA_fieldAddr (t : TypeId) (x : Operand) (i : Nat) : stepA P imp nt ⟨dst, .fieldAddr t x i, ty, pos, aft, gd⟩ ν n ρ A K = stepW P nt ⟨dst, .fieldAddr t x i, ty, pos, aft, gd⟩ ρ #[] (fun ρ' _ => K ν n ρ' A) fun _ _ => False := need_rfl rfl
theorem sA_field (t : TypeId) (x : Operand) (i : Nat) : stepA P imp nt ⟨dst, .field t x i, ty, pos, aft, gd⟩ ν n ρ A K = stepW P nt ⟨dst, .field t x i, ty, pos, aft, gd⟩ ρ #[] (fun ρ' _ => K ν n ρ' A) fun _ _ => False := need_rfl rfl
theorem sA_indexAddr (t : TypeId) (x i : Operand) : stepA P imp nt ⟨dst, .indexAddr t x i, ty, pos, aft, gd⟩ ν n ρ A K = stepW P nt ⟨dst, .indexAddr t x i, ty, pos, aft, gd⟩ ρ #[] (fun ρ' _ => K ν n ρ' A) fun _ _ => False := need_rfl rfl
theorem sA_index (t : TypeId) (x i : Operand) : stepA P imp nt ⟨dst, .index t x i, ty, pos, aft, gd⟩ ν n ρ A K = stepW P nt ⟨dst, .index t x i, ty, pos, aft, gd⟩ ρ #[] (fun ρ' _ => K ν n ρ' A) fun _ _ => False := need_rfl rfl
theorem sA_extract (x : Operand) (i : Nat) : stepA P imp nt ⟨dst, .extract x i, ty, pos, aft, gd⟩ ν n ρ A K = stepW P nt ⟨dst, .extract x i, ty, pos, aft, gd⟩ ρ #[] (fun ρ' _ => K ν n ρ' A) fun _ _ => False := need_rfl rfl
theorem sA_build (t : TypeId) (ps : List (Nat × Operand)) : stepA P imp nt ⟨dst, .build t ps.toArray, ty, pos, aft, gd⟩ ν n ρ A K = stepW P nt ⟨dst, .build t ps.toArray, ty, pos, aft, gd⟩ ρ #[] (fun ρ' _ => K ν n ρ' A) fun _ _ => False := need_rfl rfl
theorem sA_makeFunc (fn : Fn) (fs cs : List Operand) : stepA P imp nt ⟨dst, .makeFunc fn fs.toArray cs.toArray, ty, pos, aft, gd⟩ ν n ρ A K = stepW P nt ⟨dst, .makeFunc fn fs.toArray cs.toArray, ty, pos, aft, gd⟩ ρ #[] (fun ρ' _ => K ν n ρ' A) fun _ _ => False := need_rfl rfl
theorem sA_slice (t : TypeId) (x : Operand) (lo hi : Option Operand) : stepA P imp nt ⟨dst, .slice t x lo hi none, ty, pos, aft, gd⟩ ν n ρ A K = stepW P nt ⟨dst, .slice t x lo hi none, ty, pos, aft, gd⟩ ρ #[] (fun ρ' _ => K ν n ρ' A) fun _ _ => False := need_rfl rfl
theorem sA_slice3 (t : TypeId) (x m : Operand) (lo hi : Option Operand) : stepA P imp nt ⟨dst, .slice t x lo hi (some m), ty, pos, aft, gd⟩ ν n ρ A K = bnd (evO ρ x) fun v => bnd (optO ρ lo) fun l => bnd (optO ρ hi) fun r => bnd (evO ρ m) fun mv => slW3 P t v l r mv fun u => putK nt dst u ρ fun ρ' => K ν n ρ' A := need_rfl rfl
theorem sl3_slc {P : Program} {t : TypeId} (p : Option Addr) (n m : Nat) (lo hi : Option Value) (mx : Value) (K : Value → Prop) : slW3 P t (.slice p n m) lo hi mx K = bnd (slc P t) fun e => bnd (boundN lo 0) fun l => bnd (boundN hi n) fun r => bnd (boundN (some mx) m) fun c => need (hi ≠ none ∧ 0 ≤ l ∧ l ≤ r ∧ r ≤ c ∧ c ≤ m) (K (.slice (if c = l then p else p.map (·.add (l.toNat * e.2.1))) (r.toNat - l.toNat) (c.toNat - l.toNat))) := rfl
theorem sA_call (f : Operand) (xs : List Operand) (ts : Array TypeId) : stepA P imp nt ⟨dst, .call ⟨.value f, xs.toArray, ts⟩, ty, pos, aft, gd⟩ ν n ρ A K = bnd (evO ρ f) fun fv => bnd (evL ρ xs) fun vs => callN P imp fv vs A ν n fun ν n u A => putK nt dst u ρ fun ρ' => K ν n ρ' A := rfl
theorem sA_load (t : TypeId) (x : Operand) : stepA P imp nt ⟨dst, .load t x, ty, pos, aft, gd⟩ ν n ρ A K = bnd (evO ρ x) fun p => bnd (addrOf p) fun a => bnd (rdVarA P A t a) fun u => putK nt dst u ρ fun ρ' => K ν n ρ' A := rfl
theorem sA_store (t : TypeId) (x y : Operand) : stepA P imp nt ⟨dst, .store t x y, ty, pos, aft, gd⟩ ν n ρ A K = bnd (evO ρ x) fun p => bnd (addrOf p) fun a => bnd (evO ρ y) fun v => bnd (shp P t) fun s => need (v.cells.size = s.2) (bnd (wrA A a v.cells.toList) fun A' => putK nt dst undef ρ fun ρ' => K ν n ρ' A') := rfl
theorem sA_panic (l : List Nat) (X : List PanicEntry → AH → Prop) (x : Operand) : stepA P ⟨l, some X⟩ nt ⟨dst, .panic x, ty, pos, aft, gd⟩ ν n ρ A K = bnd (evO ρ x) fun v => panY X v A := by simp only [stepA]; congr; funext v; cases v <;> rfl
theorem sA_alloc (e : TypeId) : stepA P imp nt ⟨dst, .alloc e, ty, pos, aft, gd⟩ ν n ρ A K = bnd (zro P e) fun z => putK nt dst (.pointer (some ⟨ν n, 0, none⟩)) ρ fun ρ' => K ν (n + 1) ρ' ((ν n, .cells z.cells e) :: A) := rfl
theorem sA_box (e : TypeId) (x : Operand) : stepA P imp nt ⟨dst, .box e x, ty, pos, aft, gd⟩ ν n ρ A K = bnd (evO ρ x) fun v => putK nt dst (.pointer (some ⟨ν n, 0, none⟩)) ρ fun ρ' => K ν (n + 1) ρ' ((ν n, .cells v.cells e) :: A) := rfl
theorem sA_buildSlice (t : TypeId) (l : Nat) (ps : List (Nat × Operand)) : stepA P imp nt ⟨dst, .buildSlice t l ps.toArray, ty, pos, aft, gd⟩ ν n ρ A K = bnd (evP ρ ps) fun vs => bnd (sliceCells P t l vs) fun r => putK nt dst (.slice (some ⟨ν n, 0, none⟩) l l) ρ fun ρ' => K ν (n + 1) ρ' ((ν n, .cells r.2 r.1) :: A) := rfl
theorem sA_makeMap (t : TypeId) : stepA P imp nt ⟨dst, .makeMap t none, ty, pos, aft, gd⟩ ν n ρ A K = putK nt dst (.map (some (ν n))) ρ fun ρ' => K ν (n + 1) ρ' ((ν n, .map #[] 0) :: A) := rfl
theorem sA_convert (s d : TypeId) (x : Operand) : stepA P imp nt ⟨dst, .convert s d x, ty, pos, aft, gd⟩ ν n ρ A K = bnd (evO ρ x) fun v => cnvN P s d (P.underlying s) (P.underlying d) v A ν n fun ν n u A => putK nt dst u ρ fun ρ' => K ν n ρ' A := rfl
theorem sA_makeSlice (t : TypeId) (l cc : Operand) : stepA P imp nt ⟨dst, .makeSlice t l cc, ty, pos, aft, gd⟩ ν n ρ A K = bnd (evO ρ l) fun lv => bnd (evO ρ cc) fun cv => SemN P (Instr.makeSlice t lv cv) A ν n fun ν n u A => putK nt dst u ρ fun ρ' => K ν n ρ' A := rfl
theorem sA_lookup (t : TypeId) (x i : Operand) (ok : Bool) : stepA P imp nt ⟨dst, .lookup t x i ok, ty, pos, aft, gd⟩ ν n ρ A K = bnd (evO ρ x) fun m => bnd (evO ρ i) fun k => SemR P (Instr.lookup t m k ok) A ν n fun ν n u A => putK nt dst u ρ fun ρ' => K ν n ρ' A := rfl
theorem sA_mapUpdate (t : TypeId) (x i y : Operand) : stepA P imp nt ⟨dst, .mapUpdate t x i y, ty, pos, aft, gd⟩ ν n ρ A K = bnd (evO ρ x) fun m => bnd (evO ρ i) fun k => bnd (evO ρ y) fun v => SemN P (do Instr.mapUpdate t m k v; Pure.pure undef) A ν n fun ν n u A => putK nt dst u ρ fun ρ' => K ν n ρ' A := rfl
theorem sA_insert (t : TypeId) (x i y : Operand) : stepA P imp nt ⟨dst, .insert t x i y, ty, pos, aft, gd⟩ ν n ρ A K = bnd (evO ρ x) fun m => bnd (evO ρ i) fun k => bnd (evO ρ y) fun v => SemN P (do Instr.mapUpdate t m k v; Pure.pure undef) A ν n fun ν n u A => putK nt dst u ρ fun ρ' => K ν n ρ' A := rfl
theorem sA_range (t : TypeId) (x : Operand) : stepA P imp nt ⟨dst, .range t x, ty, pos, aft, gd⟩ ν n ρ A K = bnd (evO ρ x) fun v => rangeN P t v A ν n fun ν n u A => putK nt dst u ρ fun ρ' => K ν n ρ' A := rfl
theorem sA_next (x : Operand) (s : Bool) : stepA P imp nt ⟨dst, .next x s, ty, pos, aft, gd⟩ ν n ρ A K = bnd (evO ρ x) fun v => nextN P v s ty A ν n fun ν n u A => putK nt dst u ρ fun ρ' => K ν n ρ' A := rfl
theorem sA_typeAssert (x : Operand) (t a : TypeId) (ok : Bool) : stepA P imp nt ⟨dst, .typeAssert x t a ok, ty, pos, aft, gd⟩ ν n ρ A K = bnd (evO ρ x) fun v => SemR P (Instr.typeAssert v t a ok) A ν n fun ν n u A => putK nt dst u ρ fun ρ' => K ν n ρ' A := rfl
theorem sA_len (x : Operand) (t : TypeId) : stepA P imp nt ⟨dst, .call ⟨.builtin .len, #[x], #[t]⟩, ty, pos, aft, gd⟩ ν n ρ A K = bnd (evO ρ x) fun v => lenA P t v A fun u => putK nt dst u ρ fun ρ' => K ν n ρ' A := by
  unfold stepA
  simp only [evL]
  cases evO ρ x <;> simp [bnd, consL]
theorem sA_min (x y : Operand) (ts : Array TypeId) : stepA P imp nt ⟨dst, .call ⟨.builtin .min, #[x, y], ts⟩, ty, pos, aft, gd⟩ ν n ρ A K = bnd (evO ρ x) fun v => bnd (evO ρ y) fun u => mmW v u fun k a b => putK nt dst (.int k (if b < a then b else a)) ρ fun ρ' => K ν n ρ' A := by
  unfold stepA
  simp only [evL]
  cases evO ρ x <;> cases evO ρ y <;> simp [bnd, consL]
  rename_i v u
  cases v <;> cases u <;> simp [mmW]
theorem sA_max (x y : Operand) (ts : Array TypeId) : stepA P imp nt ⟨dst, .call ⟨.builtin .max, #[x, y], ts⟩, ty, pos, aft, gd⟩ ν n ρ A K = bnd (evO ρ x) fun v => bnd (evO ρ y) fun u => mmW v u fun k a b => putK nt dst (.int k (if a < b then b else a)) ρ fun ρ' => K ν n ρ' A := by
  unfold stepA
  simp only [evL]
  cases evO ρ x <;> cases evO ρ y <;> simp [bnd, consL]
  rename_i v u
  cases v <;> cases u <;> simp [mmW]
theorem sA_append (xs : List Operand) (ts : Array TypeId) : stepA P imp nt ⟨dst, .call ⟨.builtin .append, xs.toArray, ts⟩, ty, pos, aft, gd⟩ ν n ρ A K = bnd (evL ρ xs) fun vs => SemN P (Builtin.append_ ts ty vs.toArray) A ν n fun ν n u A => putK nt dst u ρ fun ρ' => K ν n ρ' A := rfl
theorem sA_copy (xs : List Operand) (ts : Array TypeId) : stepA P imp nt ⟨dst, .call ⟨.builtin .copy, xs.toArray, ts⟩, ty, pos, aft, gd⟩ ν n ρ A K = bnd (evL ρ xs) fun vs => SemN P (Builtin.copy_ ts ty vs.toArray) A ν n fun ν n u A => putK nt dst u ρ fun ρ' => K ν n ρ' A := rfl
theorem sA_delete (xs : List Operand) (ts : Array TypeId) : stepA P imp nt ⟨dst, .call ⟨.builtin .delete, xs.toArray, ts⟩, ty, pos, aft, gd⟩ ν n ρ A K = bnd (evL ρ xs) fun vs => SemN P (Builtin.delete_ ts ty vs.toArray) A ν n fun ν n u A => putK nt dst u ρ fun ρ' => K ν n ρ' A := rfl
theorem sA_clear (xs : List Operand) (ts : Array TypeId) : stepA P imp nt ⟨dst, .call ⟨.builtin .clear, xs.toArray, ts⟩, ty, pos, aft, gd⟩ ν n ρ A K = bnd (evL ρ xs) fun vs => SemN P (Builtin.clear_ ts ty vs.toArray) A ν n fun ν n u A => putK nt dst u ρ fun ρ' => K ν n ρ' A := rfl
theorem sA_cap (xs : List Operand) (ts : Array TypeId) : stepA P imp nt ⟨dst, .call ⟨.builtin .cap, xs.toArray, ts⟩, ty, pos, aft, gd⟩ ν n ρ A K = bnd (evL ρ xs) fun vs => SemR P (Builtin.cap_ ts ty vs.toArray) A ν n fun ν n u A => putK nt dst u ρ fun ρ' => K ν n ρ' A := rfl
end
section
variable (P : Program) (imp : Imp) (ν : Nu) (n : Nat) (A : AH) (K : Nu → Nat → Value → AH → Prop) (t : TypeId)
theorem callN_func (g : FuncId) (fs vs cs : List Value) : callN P imp (.func (.func g) fs.toArray cs.toArray) vs A ν n K = CalN P imp g (fs ++ vs ++ cs).toArray A ν n K := by
  unfold callN; simp
noncomputable def calM (X : Xp) (g : FuncId) (args : Array Value) (b : Prop) (K : Nu → Nat → Value → AH → Prop) (_t : Tg (X, K) := ()) : Prop := (b → callX X P g args A fun v A' => ∀ ν', Fresh ν' A' → K ν' 0 v A') ∧ (¬ b → bnd (valA P g args A) fun v => K ν n v A)
theorem CalN_eq (l : List Nat) (X : Xp) (g : FuncId) (args : Array Value) : CalN P ⟨l, X⟩ g args A ν n K = calM P ν n A X g args (g ∈ l) K := by
  unfold CalN calM
  by_cases h : g ∈ l <;> simp [h]
theorem calM_false (X : Xp) (g : FuncId) (args : Array Value) : calM P ν n A X g args False K = bnd (valA P g args A) fun v => K ν n v A := by simp [calM]
def CallS (P : Program) (g : FuncId) (args : Array Value) (A : AH) (K : Nu → Nat → Value → AH → Prop) (_t : Tg K := ()) : Prop := CallA P g args A fun v A' => ∀ ν', Fresh ν' A' → K ν' 0 v A'
theorem calM_true (g : FuncId) (args : Array Value) : calM P ν n A none g args True K = CallS P g args A K := by simp [calM, CallS, callX]
def CallSE (P : Program) (g : FuncId) (args : Array Value) (A : AH) (X : List PanicEntry → AH → Prop) (K : Nu → Nat → Value → AH → Prop) (_t : Tg (X, K) := ()) : Prop := CallE P g args A X fun v A' => ∀ ν', Fresh ν' A' → K ν' 0 v A'
theorem calM_trueE (X : List PanicEntry → AH → Prop) (g : FuncId) (args : Array Value) : calM P ν n A (some X) g args True K = CallSE P g args A X K := by simp [calM, CallSE, callX]
theorem lenA_str (x : ByteArray) (K : Value → Prop) : lenA P t (.string x) A K = lenS (P.underlying t) x K := rfl
theorem lenA_slc (p : Option Addr) (i j : Nat) (K : Value → Prop) : lenA P t (.slice p i j) A K = bnd (slc P t) fun _ => K (.int .i64 i) := rfl
theorem lenA_map (r : Nat) (K : Value → Prop) : lenA P t (.map (some r)) A K = lenM (P.underlying t) (look A r) K := rfl
theorem lenA_mapN (K : Value → Prop) : lenA P t (.map none) A K = lenN (P.underlying t) K := by
  unfold lenA lenW lenN; rfl
@[congr] theorem cnvN_congr {P : Program} {s d : TypeId} {us us' ud ud' : Option TypeDesc} {x : Value} {A : AH} {ν : Nu} {n : Nat} {K : Nu → Nat → Value → AH → Prop} (h1 : us = us') (h2 : ud = ud') : cnvN P s d us ud x A ν n K = cnvN P s d us' ud' x A ν n K := by rw [h1, h2]
theorem cnvN_int (s d : TypeId) (k k' : IntKind) (a : Int) (ds : TypeDesc) : cnvN P s d (some ds) (some (.int k)) (.int k' a) A ν n K = K ν n (.int k (k.wrap a)) A := by cases ds <;> rfl
theorem cnvN_rune (s d : TypeId) (k k' : IntKind) (a : Int) : cnvN P s d (some (.int k)) (some .string) (.int k' a) A ν n K = K ν n (.string (Utf8.encode a)) A := rfl
theorem cnvN_str (s d : TypeId) (x : ByteArray) : cnvN P s d (some .string) (some .string) (.string x) A ν n K = K ν n (.string x) A := rfl
theorem cnvN_bytes (s d e : TypeId) (x : Value) : cnvN P s d (some .string) (some (.slice e)) x A ν n K = SemN P (convert s d x) A ν n K := rfl
theorem cnvN_unbytes (s d e : TypeId) (x : Value) : cnvN P s d (some (.slice e)) (some .string) x A ν n K = SemR P (convert s d x) A ν n K := rfl
theorem SemR_eq (s : Sem Value) : SemR P s A ν n K = bnd (readA P s A) fun v => K ν n v A := rfl
theorem rangeN_str (x : ByteArray) : rangeN P t (.string x) A ν n K = need (P.underlying t = some .string) (K ν (n + 1) (.pointer (some ⟨ν n, 0, none⟩)) ((ν n, .stringIter x 0) :: A)) := rfl
theorem nextN_str (r : Nat) : nextN P (.pointer (some ⟨r, 0, none⟩)) true t A ν n K = nextO r (look A r) A ν n K := rfl
@[congr] theorem nextO_congr {r : Nat} {o o' : Option Obj} {A : AH} {ν : Nu} {n : Nat} {K : Nu → Nat → Value → AH → Prop} (h : o = o') : nextO r o A ν n K = nextO r o' A ν n K := by rw [h]
theorem nextO_str (r pos : Nat) (s : ByteArray) : nextO r (some (.stringIter s pos)) A ν n K = ifB (decide (pos < s.size)) (K ν n (.tuple #[.bool true, .int .i64 pos, .int .i32 (Utf8.decode s pos).1]) (putB A r (.stringIter s (pos + (Utf8.decode s pos).2)))) (K ν n (.tuple #[.bool false]) A) := rfl
end
section
variable (P : Program) (A : AH) (b x o n : Nat) (u : Obj)
theorem look_nil : look [] x = none := rfl
theorem look_cons : look ((b, u) :: A) x = if b = x then some u else look A x := rfl
theorem putB_nil : putB [] x u = [] := rfl
theorem putB_cons (u' : Obj) : putB ((b, u) :: A) x u' = if b = x then (b, u') :: A else (b, u) :: putB A x u' := rfl
def rdB (s : Option (Bool × Nat)) (ob : Option Obj) (o : Nat) : Option Value := match s with
  | some (true, n) => aggO (rdCS ob o n)
  | some (false, _) => cellS ob o
  | none => none
theorem rdVarA_eq (t : TypeId) : rdVarA P A t ⟨b, o, none⟩ = rdB (shp P t) (look A b) o := by
  unfold rdVarA rdA rdB
  cases shp P t with
  | none => rfl
  | some s => obtain ⟨q, n⟩ := s; cases q <;> rfl
theorem rdB_agg (ob : Option Obj) : rdB (some (true, n)) ob o = aggO (rdCS ob o n) := rfl
theorem rdB_one (ob : Option Obj) : rdB (some (false, n)) ob o = cellS ob o := rfl
theorem wrA_eq (vs : List Value) : wrA A ⟨b, o, none⟩ vs = wrO A b (look A b) o vs := by unfold wrA; simp
theorem wrO_cells (c : Array Value) (e : TypeId) (vs : List Value) : wrO A b (some (.cells c e (0, 0))) o vs = if o + vs.length ≤ c.size ∧ okCells vs = true then some (putB A b (.cells (splice c o vs) e)) else none := by simp [wrO]
theorem resLA_nil (ρ : Env) : resLA P ρ A [] = some [] := rfl
theorem resLA_cons (ρ : Env) (r : ResultVar) (l : List ResultVar) : resLA P ρ A (r :: l) = consL (resOA P ρ A r) (resLA P ρ A l) := rfl
theorem resOA_tmp (ρ : Env) (t : Nat) : resOA P ρ A (.tmp t) = get ρ t := rfl
def oRdA (P : Program) (A : AH) (ty : TypeId) (o : Option Addr) : Option Value := match o with | some a => rdVarA P A ty a | none => none
theorem resOA_cell (ρ : Env) (s : Nat) (t : TypeId) : resOA P ρ A (.cell s t) = oRdA P A t (oAddr (get ρ s)) := rfl
theorem oRdA_some (t : TypeId) (a : Addr) : oRdA P A t (some a) = rdVarA P A t a := rfl
end
theorem mmW_int (k k' : IntKind) (a b : Int) (K : IntKind → Int → Int → Prop) : mmW (.int k a) (.int k' b) K = K k a b := rfl
theorem lenN_map (x y : TypeId) (K : Value → Prop) : lenN (some (.map x y)) K = K (.int .i64 0) := rfl
theorem Fresh.nu {ν : Nu} {A : AH} (f : Fresh ν A) (i j : Nat) : (ν i = ν j) = (i = j) := propext ⟨f.1 i j, fun e => by rw [e]⟩
theorem Fresh.ne {ν : Nu} {A : AH} (f : Fresh ν A) {b : Nat} (h : look A b ≠ none) (i : Nat) : ((b = ν i) = False) ∧ ((ν i = b) = False) :=
  ⟨eq_false fun e => h (by rw [e]; exact f.2 i), eq_false fun e => h (by rw [← e]; exact f.2 i)⟩
theorem SubA_nil (A : AH) : SubA [] A = True := eq_true (SubA.nil A)
theorem SubE_nil (A : AH) : SubE [] A = True := rfl
theorem SubE_cons (b : Nat) (o : Obj) (A B : AH) : SubE ((b, o) :: A) B = (look B b = some o ∧ SubE A B) := rfl
theorem look_mem : ∀ {A : AH} {b : Nat}, b ∈ A.map (fun p => p.1) → look A b ≠ none
  | (x, o) :: A, b, h => by
    simp only [look]
    split
    · simp
    · rename_i hne
      rcases List.mem_cons.1 h with rfl | h
      · exact absurd rfl hne
      · exact look_mem h
theorem Fresh.mem {ν : Nu} {A : AH} (f : Fresh ν A) {b : Nat} (h : b ∈ A.map (fun p => p.1)) (i : Nat) : ((b = ν i) = False) ∧ ((ν i = b) = False) := f.ne (look_mem h) i
theorem look_append (A B : AH) (b : Nat) : look (A ++ B) b = match look A b with | some o => some o | none => look B b := by
  induction A with
  | nil => rfl
  | cons p A ih =>
    simp only [List.cons_append, look]
    split
    · rfl
    · exact ih
theorem CallA.frame {P : Program} {g : FuncId} {args : Array Value} {A A0 : AH} {K0 K : Value → AH → Prop} (hc : CallA P g args A0 K0) (hs : SubA A0 A)
    (hk : ∀ v B, K0 v B → (∀ b, look A0 b ≠ none → look B b ≠ none) ∧ ((∀ b, look B b ≠ none → look A0 b = none → look A b = none) → K v (B ++ A))) : CallA P g args A K := fun h hA =>
  (hc h (hA.sub hs)).mono fun e h' ⟨v, B, h1, h2, h3, h4⟩ => by
    obtain ⟨k1, k2⟩ := hk v B h4
    refine ⟨v, B ++ A, h1, fun b o hl => ?_, ⟨h3.1, fun b hb hl => ?_⟩, k2 fun b hb hn => ?_⟩
    · rw [look_append] at hl
      split at hl
      · rename_i u hu; cases hl; exact h2 b _ hu
      · rename_i hu
        have h0 : look A0 b = none := by
          cases ho : look A0 b with
          | none => rfl
          | some u => exact absurd hu (k1 b (by rw [ho]; simp))
        have hlt := hA.lt hl
        rw [(h3.2 b hlt h0).1]
        exact hA b o hl
    · have h0 := hs.none hl
      refine ⟨(h3.2 b hb h0).1, ?_⟩
      rw [look_append, (h3.2 b hb h0).2]
      exact hl
    · cases ho : look A b with
      | none => rfl
      | some u => exact absurd (h3.2 b (hA.lt ho) hn).2 hb
theorem LoopA.weak [dd : DefD] {c : CxA} {body : Code} {k : List It} {ρ ρ' : Env} {A A' : AH} (hl : @LoopA dd c body k ρ A ()) (hs : subE ρ ρ') (ha : SubA A A') : @LoopA dd c body k ρ' A' () := fun A0 h0 h hA kp =>
  LoopAt.weak (hl A0 h0 h (hA.sub ha) (kp.sub ha)) hs
section
variable (P : Program) (n : Nat) (sp : Bool) (all : List Oper) (m : Nat) (ρ : Env) (A : AH) (K : Env → Prop)
variable (dst : Option Nat) (ty : TypeId) (pos : String) (aft : Array Edge) (gd : Option (Nat × Bool)) (rest : List Oper)
theorem qA_nil (cur : Option (Nat × Bool)) : denQA P n sp all A (m + 1) cur [] ρ K = K ρ := rfl
theorem qA_plain (op : Op) : denQA P n sp all A (m + 1) none (⟨dst, op, ty, pos, aft, none⟩ :: rest) ρ K =
    stepQA P n ⟨dst, op, ty, pos, aft, none⟩ ρ A (fun ρ' => denQA P n sp all A m none rest ρ' K) := by simp [denQA]
theorem qA_in (op : Op) (g : Nat × Bool) : denQA P n sp all A (m + 1) (some g) (⟨dst, op, ty, pos, aft, some g⟩ :: rest) ρ K =
    stepQA P n ⟨dst, op, ty, pos, aft, some g⟩ ρ A (fun ρ' => denQA P n sp all A m (some g) rest ρ' K) := by simp [denQA]
noncomputable def gpQA (cur : Option (Nat × Bool)) (j : Nat) (want : Bool) (g after : List Oper) (s : Nat) (b : Bool) (pure : Bool) : Prop :=
  match pure, after with
  | true, p :: after' => match closes want s p.op with
    | some y => denQA P n sp all A m (some (j, want)) g ρ (fun ρ' => bnd (evO ρ' y) fun c => joinK n p.dst want b c (hid g ρ) fun ρ'' => denQA P n sp all A m cur after' ρ'' K)
    | none => False
  | _, after => ifB (b == want) (denQA P n sp all A m (some (j, want)) g ((s, some (.bool want)) :: ρ) (fun ρ' => denQA P n sp all A m cur after ρ' K)) (denQA P n sp all A m cur after (hid g ((s, some (.bool (!want))) :: ρ)) K)
@[congr] theorem gpQA_congr {P : Program} {n : Nat} {sp : Bool} {all : List Oper} {m : Nat} {ρ : Env} {A : AH} {K : Env → Prop} {cur : Option (Nat × Bool)} {j : Nat} {want : Bool} {g g' after after' : List Oper} {s : Nat} {b pu pu' : Bool} (h1 : g = g') (h2 : after = after') (h3 : pu = pu') :
    gpQA P n sp all m ρ A K cur j want g after s b pu = gpQA P n sp all m ρ A K cur j want g' after' s b pu' := by rw [h1, h2, h3]
noncomputable def gvQA (cur : Option (Nat × Bool)) (j : Nat) (want : Bool) (g after : List Oper) (s : Nat) (v : Value) : Prop :=
  match v with | .bool b => need (grpOk all s j want [] g = true) (gpQA P n sp all m ρ A K cur j want g after s b (semiG sp g)) | _ => False
theorem gvQA_bool (cur : Option (Nat × Bool)) (j : Nat) (want : Bool) (g after : List Oper) (s : Nat) (b : Bool) : gvQA P n sp all m ρ A K cur j want g after s (.bool b) =
    need (grpOk all s j want [] g = true) (gpQA P n sp all m ρ A K cur j want g after s b (semiG sp g)) := rfl
theorem qA_grp (op : Op) (cur : Option (Nat × Bool)) (j : Nat) (want : Bool) (hne : ¬ some (j, want) = cur) : denQA P n sp all A (m + 1) cur (⟨dst, op, ty, pos, aft, some (j, want)⟩ :: rest) ρ K =
    bnd (slotOf all j) fun s => bnd (get ρ s) fun v => gvQA P n sp all m ρ A K cur j want
      (⟨dst, op, ty, pos, aft, some (j, want)⟩ :: grpOf cur rest) (aftOf cur rest) s v := by
  have h1 : grpOf cur (⟨dst, op, ty, pos, aft, some (j, want)⟩ :: rest) = ⟨dst, op, ty, pos, aft, some (j, want)⟩ :: grpOf cur rest := by simp [grpOf, hne]
  have h2 : aftOf cur (⟨dst, op, ty, pos, aft, some (j, want)⟩ :: rest) = aftOf cur rest := by simp [aftOf, hne]
  rw [denQA, if_neg hne, h1, h2]
  congr 1
theorem qA_grp0 (op : Op) (j : Nat) (want : Bool) : denQA P n sp all A (m + 1) none (⟨dst, op, ty, pos, aft, some (j, want)⟩ :: rest) ρ K =
    bnd (slotOf all j) fun s => bnd (get ρ s) fun v => gvQA P n sp all m ρ A K none j want
      (⟨dst, op, ty, pos, aft, some (j, want)⟩ :: grpOf none rest) (aftOf none rest) s v := qA_grp P n sp all m ρ A K dst ty pos aft rest op none j want (by simp)
theorem gpQA_no (cur : Option (Nat × Bool)) (j : Nat) (want : Bool) (g after : List Oper) (s : Nat) (b : Bool) : gpQA P n sp all m ρ A K cur j want g after s b false =
    ifB (b == want) (denQA P n sp all A m (some (j, want)) g ((s, some (.bool want)) :: ρ) (fun ρ' => denQA P n sp all A m cur after ρ' K)) (denQA P n sp all A m cur after (hid g ((s, some (.bool (!want))) :: ρ)) K) := rfl
theorem gpQA_or (cur : Option (Nat × Bool)) (j : Nat) (g after : List Oper) (s : Nat) (b : Bool) (y : Operand) : gpQA P n sp all m ρ A K cur j false g (⟨dst, .pick (.tmp s) (.const (.bool true)) y, ty, pos, aft, gd⟩ :: after) s b true =
    denQA P n sp all A m (some (j, false)) g ρ (fun ρ' => bnd (evO ρ' y) fun c => joinK n dst false b c (hid g ρ) fun ρ'' => denQA P n sp all A m cur after ρ'' K) := by simp [gpQA, closes]
theorem gpQA_and (cur : Option (Nat × Bool)) (j : Nat) (g after : List Oper) (s : Nat) (b : Bool) (y : Operand) : gpQA P n sp all m ρ A K cur j true g (⟨dst, .pick (.tmp s) y (.const (.bool false)), ty, pos, aft, gd⟩ :: after) s b true =
    denQA P n sp all A m (some (j, true)) g ρ (fun ρ' => bnd (evO ρ' y) fun c => joinK n dst true b c (hid g ρ) fun ρ'' => denQA P n sp all A m cur after ρ'' K) := by simp [gpQA, closes]
theorem sqA_move (x : Operand) : stepQA P n ⟨dst, .move x, ty, pos, aft, gd⟩ ρ A K = stepW P n ⟨dst, .move x, ty, pos, aft, gd⟩ ρ #[] (fun ρ' _ => K ρ') fun _ _ => False := need_rfl rfl
theorem sqA_assign (x : Operand) : stepQA P n ⟨dst, .assign x, ty, pos, aft, gd⟩ ρ A K = stepW P n ⟨dst, .assign x, ty, pos, aft, gd⟩ ρ #[] (fun ρ' _ => K ρ') fun _ _ => False := need_rfl rfl
theorem sqA_pick (x a b : Operand) : stepQA P n ⟨dst, .pick x a b, ty, pos, aft, gd⟩ ρ A K = stepW P n ⟨dst, .pick x a b, ty, pos, aft, gd⟩ ρ #[] (fun ρ' _ => K ρ') fun _ _ => False := need_rfl rfl
theorem sqA_nilCheck (x : Operand) : stepQA P n ⟨dst, .nilCheck x, ty, pos, aft, gd⟩ ρ A K = stepW P n ⟨dst, .nilCheck x, ty, pos, aft, gd⟩ ρ #[] (fun ρ' _ => K ρ') fun _ _ => False := need_rfl rfl
theorem sqA_binOp (op : BinOp) (t : TypeId) (x y : Operand) (t2 : TypeId) : stepQA P n ⟨dst, .binOp op t x y t2, ty, pos, aft, gd⟩ ρ A K = stepW P n ⟨dst, .binOp op t x y t2, ty, pos, aft, gd⟩ ρ #[] (fun ρ' _ => K ρ') fun _ _ => False := need_rfl rfl
theorem sqA_unOp (op : UnOp) (t : TypeId) (x : Operand) : stepQA P n ⟨dst, .unOp op t x, ty, pos, aft, gd⟩ ρ A K = stepW P n ⟨dst, .unOp op t x, ty, pos, aft, gd⟩ ρ #[] (fun ρ' _ => K ρ') fun _ _ => False := need_rfl rfl
theorem sqA_makeInterface (t : TypeId) (x : Operand) : stepQA P n ⟨dst, .makeInterface t x, ty, pos, aft, gd⟩ ρ A K = stepW P n ⟨dst, .makeInterface t x, ty, pos, aft, gd⟩ ρ #[] (fun ρ' _ => K ρ') fun _ _ => False := need_rfl rfl
theorem sqA_fieldAddr (t : TypeId) (x : Operand) (i : Nat) : stepQA P n ⟨dst, .fieldAddr t x i, ty, pos, aft, gd⟩ ρ A K = stepW P n ⟨dst, .fieldAddr t x i, ty, pos, aft, gd⟩ ρ #[] (fun ρ' _ => K ρ') fun _ _ => False := need_rfl rfl
theorem sqA_field (t : TypeId) (x : Operand) (i : Nat) : stepQA P n ⟨dst, .field t x i, ty, pos, aft, gd⟩ ρ A K = stepW P n ⟨dst, .field t x i, ty, pos, aft, gd⟩ ρ #[] (fun ρ' _ => K ρ') fun _ _ => False := need_rfl rfl
theorem sqA_indexAddr (t : TypeId) (x i : Operand) : stepQA P n ⟨dst, .indexAddr t x i, ty, pos, aft, gd⟩ ρ A K = stepW P n ⟨dst, .indexAddr t x i, ty, pos, aft, gd⟩ ρ #[] (fun ρ' _ => K ρ') fun _ _ => False := need_rfl rfl
theorem sqA_index (t : TypeId) (x i : Operand) : stepQA P n ⟨dst, .index t x i, ty, pos, aft, gd⟩ ρ A K = stepW P n ⟨dst, .index t x i, ty, pos, aft, gd⟩ ρ #[] (fun ρ' _ => K ρ') fun _ _ => False := need_rfl rfl
theorem sqA_extract (x : Operand) (i : Nat) : stepQA P n ⟨dst, .extract x i, ty, pos, aft, gd⟩ ρ A K = stepW P n ⟨dst, .extract x i, ty, pos, aft, gd⟩ ρ #[] (fun ρ' _ => K ρ') fun _ _ => False := need_rfl rfl
theorem sqA_build (t : TypeId) (ps : List (Nat × Operand)) : stepQA P n ⟨dst, .build t ps.toArray, ty, pos, aft, gd⟩ ρ A K = stepW P n ⟨dst, .build t ps.toArray, ty, pos, aft, gd⟩ ρ #[] (fun ρ' _ => K ρ') fun _ _ => False := need_rfl rfl
theorem sqA_slice (t : TypeId) (x : Operand) (lo hi : Option Operand) : stepQA P n ⟨dst, .slice t x lo hi none, ty, pos, aft, gd⟩ ρ A K = stepW P n ⟨dst, .slice t x lo hi none, ty, pos, aft, gd⟩ ρ #[] (fun ρ' _ => K ρ') fun _ _ => False := need_rfl rfl
theorem sqA_slice3 (t : TypeId) (x m : Operand) (lo hi : Option Operand) : stepQA P n ⟨dst, .slice t x lo hi (some m), ty, pos, aft, gd⟩ ρ A K = bnd (evO ρ x) fun v => bnd (optO ρ lo) fun l => bnd (optO ρ hi) fun r => bnd (evO ρ m) fun mv => slW3 P t v l r mv fun u => putK n dst u ρ fun ρ' => K ρ' := need_rfl rfl
theorem sqA_call (f : Operand) (xs : List Operand) (ts : Array TypeId) : stepQA P n ⟨dst, .call ⟨.value f, xs.toArray, ts⟩, ty, pos, aft, gd⟩ ρ A K = bnd (evO ρ f) fun fv => bnd (evL ρ xs) fun vs => callQA P fv vs A fun u => putK n dst u ρ K := rfl
theorem sqA_load (t : TypeId) (x : Operand) : stepQA P n ⟨dst, .load t x, ty, pos, aft, gd⟩ ρ A K = bnd (evO ρ x) fun p => bnd (addrOf p) fun a => bnd (rdVarA P A t a) fun u => putK n dst u ρ K := rfl
theorem sqA_convert (s d : TypeId) (x : Operand) : stepQA P n ⟨dst, .convert s d x, ty, pos, aft, gd⟩ ρ A K = bnd (evO ρ x) fun v => cnvQA P s d (P.underlying s) (P.underlying d) v A fun u => putK n dst u ρ K := rfl
theorem sqA_lookup (t : TypeId) (x i : Operand) (ok : Bool) : stepQA P n ⟨dst, .lookup t x i ok, ty, pos, aft, gd⟩ ρ A K = bnd (evO ρ x) fun m => bnd (evO ρ i) fun k => bnd (readA P (Instr.lookup t m k ok) A) fun u => putK n dst u ρ K := rfl
theorem sqA_len (x : Operand) (t : TypeId) : stepQA P n ⟨dst, .call ⟨.builtin .len, #[x], #[t]⟩, ty, pos, aft, gd⟩ ρ A K = bnd (evO ρ x) fun v => lenA P t v A fun u => putK n dst u ρ K := by
  unfold stepQA
  simp only [evL]
  cases evO ρ x <;> simp [bnd, consL]
theorem semi_lookup (t : TypeId) (x i : Operand) (ok : Bool) : semiOp sp (.lookup t x i ok) = false := rfl
theorem callQA_func (g : FuncId) (fs vs cs : List Value) (K : Value → Prop) : callQA P (.func (.func g) fs.toArray cs.toArray) vs A K = need (callable P g = true) (bnd (valA P g (fs ++ vs ++ cs).toArray A) K) := by
  unfold callQA; simp
@[congr] theorem cnvQA_congr {P : Program} {s d : TypeId} {us us' ud ud' : Option TypeDesc} {x : Value} {A : AH} {K : Value → Prop} (h1 : us = us') (h2 : ud = ud') : cnvQA P s d us ud x A K = cnvQA P s d us' ud' x A K := by rw [h1, h2]
theorem cnvQA_int (s d : TypeId) (k k' : IntKind) (a : Int) (ds : TypeDesc) (K : Value → Prop) : cnvQA P s d (some ds) (some (.int k)) (.int k' a) A K = K (.int k (k.wrap a)) := by cases ds <;> rfl
theorem cnvQA_str (s d : TypeId) (ds : TypeDesc) (x : Value) (K : Value → Prop) : cnvQA P s d (some ds) (some .string) x A K = bnd (readA P (convert s d x) A) K := by cases ds <;> rfl
end
theorem pureA_h {P : Program} {g : FuncId} {args : Array Value} {A : AH} {v : Value} (hi : P.inits.idxOf? g = none) (hc : callable P g = true) (hp : ∀ h, CallsH P g args h fun e h' => e = .returned v ∧ Grew h h') : valA P g args A = some v :=
  valA_eq ⟨fun _ => hi, fun h _ => by unfold RunC; rw [if_pos hc]; exact hp h⟩
theorem pureA_e {P : Program} {g : FuncId} {args : Array Value} {A : AH} {v : Value} (hi : P.inits.idxOf? g = none) (hc : callable P g = true) (hp : ∀ h, CallsH P g args h fun e h' => e = .returned v ∧ h' = h) : valA P g args A = some v :=
  pureA_h hi hc fun h => (hp h).mono0 fun e h' ⟨h1, h2⟩ => ⟨h1, by rw [h2]; exact Grew.refl h⟩
@[congr] theorem opSG_congr {P : Program} {imp : Imp} {nt : Nat} {all : List Oper} {As : AH} {m : Nat} {ν : Nu} {n : Nat} {ρ : Env} {A : AH} {K : AH → Nu → Nat → Env → AH → Prop} {o o' : Option Oper} (e : o = o') : opSG P imp nt all As m ν n ρ A K o = opSG P imp nt all As m ν n ρ A K o' := by rw [e]
noncomputable def opSB (P : Program) (imp : Imp) (nt : Nat) (As : AH) (m : Nat) (ν : Nu) (n : Nat) (ρ : Env) (A : AH) (K : AH → Nu → Nat → Env → AH → Prop) (o : Oper) (b : Bool) : Prop := match b with
  | true => stepQA P nt o ρ As fun ρ' => K As ν n ρ' A
  | false => stepA P imp nt o ν n ρ A fun ν n ρ' A' => needS As A' m fun As' => K As' ν n ρ' A'
@[congr] theorem opSB_congr {P : Program} {imp : Imp} {nt : Nat} {As : AH} {m : Nat} {ν : Nu} {n : Nat} {ρ : Env} {A : AH} {K : AH → Nu → Nat → Env → AH → Prop} {o : Oper} {b b' : Bool} (e : b = b') : opSB P imp nt As m ν n ρ A K o b = opSB P imp nt As m ν n ρ A K o b' := by rw [e]
section
variable (P : Program) (imp : Imp) (nt : Nat) (all : List Oper) (As : AH) (m : Nat) (ν : Nu) (n : Nat) (ρ : Env) (A : AH) (K : AH → Nu → Nat → Env → AH → Prop) (K0 : Nu → Nat → Env → AH → Prop)
variable (dst : Option Nat) (ty : TypeId) (pos : String) (aft : Array Edge) (gd : Option (Nat × Bool))
theorem sS_nil : denSA P imp nt all [] As ν n ρ A K0 = K0 ν n ρ A := rfl
theorem sS_cons (i : Nat) (l : List (Nat × Nat)) : denSA P imp nt all ((i, m) :: l) As ν n ρ A K0 = opSG P imp nt all As m ν n ρ A (fun As ν n ρ' A => denSA P imp nt all l As ν n ρ' A K0) all[i]? := rfl
theorem opSG_none (op : Op) : opSG P imp nt all As m ν n ρ A K (some ⟨dst, op, ty, pos, aft, none⟩) = opSB P imp nt As m ν n ρ A K ⟨dst, op, ty, pos, aft, none⟩ (softOp imp op) := by
  simp only [opSG, opSK, opSB]; cases softOp imp op <;> simp
theorem opSG_some (op : Op) (j : Nat) (want : Bool) : opSG P imp nt all As m ν n ρ A K (some ⟨dst, op, ty, pos, aft, some (j, want)⟩) = bnd (slotOf all j) fun s => bnd (get ρ s) fun v => ifU want v (opSB P imp nt As m ν n ρ A K ⟨dst, op, ty, pos, aft, some (j, want)⟩ (softOp imp op)) (putK nt dst undef ρ fun ρ' => K As ν n ρ' A) := by
  simp only [opSG, opSK, opSB]; cases softOp imp op <;> simp
theorem opSB_true (o : Oper) : opSB P imp nt As m ν n ρ A K o true = stepQA P nt o ρ As fun ρ' => K As ν n ρ' A := rfl
theorem opSB_false (o : Oper) : opSB P imp nt As m ν n ρ A K o false = stepA P imp nt o ν n ρ A fun ν n ρ' A' => needS As A' m fun As' => K As' ν n ρ' A' := rfl
theorem needS_0 (A' : AH) (K : AH → Prop) : needS As A' 0 K = need (SubA As A') (K As) := rfl
theorem needS_1 (A' : AH) (K : AH → Prop) : needS As A' 1 K = need (SubA As A') (K A') := rfl
theorem SubA_cons {b : Nat} {o : Obj} {A B : AH} (h : look B b = some o) (k : SubA A B) : SubA ((b, o) :: A) B := fun x u hl => by
  simp only [look] at hl
  split at hl
  · rename_i e; subst e; cases hl; exact h
  · exact k x u hl
theorem needS_2 (A' : AH) (K : AH → Prop) : needS As A' 2 K = K A' := rfl
theorem soft_call (l : List Nat) (X : Xp) (g : Nat) (xs : Array Operand) (ts : Array TypeId) : softOp ⟨l, X⟩ (.call ⟨.value (.func g), xs, ts⟩) = !l.contains g := rfl
theorem soft_panic (x : Operand) : softOp imp (.panic x) = false := rfl
theorem soft_move (x : Operand) : softOp imp (.move x) = true := rfl
theorem soft_assign (x : Operand) : softOp imp (.assign x) = true := rfl
theorem soft_pick (x a b : Operand) : softOp imp (.pick x a b) = true := rfl
theorem soft_build (t : TypeId) (ps : Array (Nat × Operand)) : softOp imp (.build t ps) = true := rfl
theorem soft_load (t : TypeId) (x : Operand) : softOp imp (.load t x) = true := rfl
theorem soft_nilCheck (x : Operand) : softOp imp (.nilCheck x) = true := rfl
theorem soft_binOp (op : BinOp) (t : TypeId) (x y : Operand) (t' : TypeId) : softOp imp (.binOp op t x y t') = true := rfl
theorem soft_unOp (op : UnOp) (t : TypeId) (x : Operand) : softOp imp (.unOp op t x) = true := rfl
theorem soft_makeInterface (t : TypeId) (x : Operand) : softOp imp (.makeInterface t x) = true := rfl
theorem soft_makeFunc (f : Fn) (x y : Array Operand) : softOp imp (.makeFunc f x y) = true := rfl
theorem soft_fieldAddr (t : TypeId) (x : Operand) (i : Nat) : softOp imp (.fieldAddr t x i) = true := rfl
theorem soft_field (t : TypeId) (x : Operand) (i : Nat) : softOp imp (.field t x i) = true := rfl
theorem soft_indexAddr (t : TypeId) (x i : Operand) : softOp imp (.indexAddr t x i) = true := rfl
theorem soft_index (t : TypeId) (x i : Operand) : softOp imp (.index t x i) = true := rfl
theorem soft_extract (x : Operand) (i : Nat) : softOp imp (.extract x i) = true := rfl
theorem soft_slice (t : TypeId) (x : Operand) (a b c : Option Operand) : softOp imp (.slice t x a b c) = true := rfl
theorem soft_convert (s d : TypeId) (x : Operand) : softOp imp (.convert s d x) = true := rfl
theorem soft_lookup (t : TypeId) (x i : Operand) (ok : Bool) : softOp imp (.lookup t x i ok) = true := rfl
theorem soft_len (xs : Array Operand) (ts : Array TypeId) : softOp imp (.call ⟨.builtin .len, xs, ts⟩) = true := rfl
theorem soft_append (xs : Array Operand) (ts : Array TypeId) : softOp imp (.call ⟨.builtin .append, xs, ts⟩) = false := rfl
theorem soft_copy (xs : Array Operand) (ts : Array TypeId) : softOp imp (.call ⟨.builtin .copy, xs, ts⟩) = false := rfl
theorem soft_delete (xs : Array Operand) (ts : Array TypeId) : softOp imp (.call ⟨.builtin .delete, xs, ts⟩) = false := rfl
theorem soft_clear (xs : Array Operand) (ts : Array TypeId) : softOp imp (.call ⟨.builtin .clear, xs, ts⟩) = false := rfl
theorem soft_store (t : TypeId) (x y : Operand) : softOp imp (.store t x y) = false := rfl
theorem soft_alloc (t : TypeId) : softOp imp (.alloc t) = false := rfl
theorem soft_box (t : TypeId) (x : Operand) : softOp imp (.box t x) = false := rfl
theorem soft_buildSlice (t : TypeId) (m : Nat) (ps : Array (Nat × Operand)) : softOp imp (.buildSlice t m ps) = false := rfl
theorem soft_makeMap (t : TypeId) (x : Option Operand) : softOp imp (.makeMap t x) = false := rfl
theorem soft_mapUpdate (t : TypeId) (x i y : Operand) : softOp imp (.mapUpdate t x i y) = false := rfl
theorem soft_insert (t : TypeId) (x i y : Operand) : softOp imp (.insert t x i y) = false := rfl
theorem soft_makeSlice (t : TypeId) (l c : Operand) : softOp imp (.makeSlice t l c) = false := rfl
theorem contains_nil (g : Nat) : ([] : List Nat).contains g = false := rfl
theorem contains_cons (x g : Nat) (l : List Nat) : (x :: l).contains g = if g = x then true else l.contains g := by rw [List.contains_cons]; by_cases h : g = x <;> simp [h]
end
theorem vmDA : type_of% (An @stripL_nil (An @stripL_cons (An @stripL_app (An @stripL_app' (An @dA_nil (An @dA_blk (An @dA_sc (An @dA_lp (An @dA_skip (An @dA_label (An @dA_ret (An @dA_seq (An @dA_cond (An @dA_block (An @dA_scope (An @dA_loop (An @dA_region (An @dA_regionD (An @dA_exit (An @dXA_some (An @retA_eq (An @oA_nil (An @oA_plain (An @oA_in (An @oA_grp0 (An @oA_grp (An @gvA_bool (An @gpA_no (An @gpA_or (An @gpA_and (An @sA_move (An @sA_assign (An @sA_pick (An @sA_nilCheck (An @sA_binOp (An @sA_unOp (An @sA_makeInterface (An @sA_fieldAddr (An @sA_field (An @sA_indexAddr (An @sA_index (An @sA_extract (An @sA_build (An @sA_makeFunc (An @sA_slice (An @sA_slice3 (An @sl3_slc (An @sA_call (An @sA_load (An @sA_store (An @sA_panic (An @sA_alloc (An @sA_box (An @sA_buildSlice (An @sA_makeMap (An @sA_convert (An @sA_makeSlice (An @sA_lookup (An @sA_mapUpdate (An @sA_insert (An @sA_range (An @sA_next (An @sA_typeAssert (An @sA_len (An @sA_min (An @sA_max (An @sA_append (An @sA_copy (An @sA_delete (An @sA_clear (An @sA_cap (An @callN_func (An @lenA_str (An @lenA_slc (An @lenA_map (An @lenA_mapN (An @cnvN_int (An @cnvN_rune (An @cnvN_str (An @cnvN_bytes (An @cnvN_unbytes (An @rangeN_str (An @nextN_str (An @mmW_int @SemR_eq)))))))))))))))))))))))))))))))))))))))))))))))))))))))))))))))))))))))))))))))))))) := ⟨@stripL_nil, @stripL_cons, @stripL_app, @stripL_app', @dA_nil, @dA_blk, @dA_sc, @dA_lp, @dA_skip, @dA_label, @dA_ret, @dA_seq, @dA_cond, @dA_block, @dA_scope, @dA_loop, @dA_region, @dA_regionD, @dA_exit, @dXA_some, @retA_eq, @oA_nil, @oA_plain, @oA_in, @oA_grp0, @oA_grp, @gvA_bool, @gpA_no, @gpA_or, @gpA_and, @sA_move, @sA_assign, @sA_pick, @sA_nilCheck, @sA_binOp, @sA_unOp, @sA_makeInterface, @sA_fieldAddr, @sA_field, @sA_indexAddr, @sA_index, @sA_extract, @sA_build, @sA_makeFunc, @sA_slice, @sA_slice3, @sl3_slc, @sA_call, @sA_load, @sA_store, @sA_panic, @sA_alloc, @sA_box, @sA_buildSlice, @sA_makeMap, @sA_convert, @sA_makeSlice, @sA_lookup, @sA_mapUpdate, @sA_insert, @sA_range, @sA_next, @sA_typeAssert, @sA_len, @sA_min, @sA_max, @sA_append, @sA_copy, @sA_delete, @sA_clear, @sA_cap, @callN_func, @lenA_str, @lenA_slc, @lenA_map, @lenA_mapN, @cnvN_int, @cnvN_rune, @cnvN_str, @cnvN_bytes, @cnvN_unbytes, @rangeN_str, @nextN_str, @mmW_int, @SemR_eq⟩
theorem vmVA : type_of% (An @withL_eq (An @dRg_q (An @dRg_p (An @dRg_n (An @planOf_nil (An @planOf_cons (An @CalN_eq (An @calM_false (An @calM_true (An @calM_trueE (An @panY_if (An @cnvN_int (An @cnvN_rune (An @cnvN_str (An @cnvN_bytes (An @cnvN_unbytes (An @nextO_str (An @look_nil (An @look_cons (An @putB_nil (An @putB_cons (An @rdVarA_eq (An @rdB_agg (An @rdB_one (An @wrA_eq (An @wrO_cells (An @resLA_nil (An @resLA_cons (An @resOA_tmp (An @resOA_cell (An @oRdA_some (An @lenN_map (An @SubE_nil @SubE_cons))))))))))))))))))))))))))))))))) := ⟨@withL_eq, @dRg_q, @dRg_p, @dRg_n, @planOf_nil, @planOf_cons, @CalN_eq, @calM_false, @calM_true, @calM_trueE, @panY_if, @cnvN_int, @cnvN_rune, @cnvN_str, @cnvN_bytes, @cnvN_unbytes, @nextO_str, @look_nil, @look_cons, @putB_nil, @putB_cons, @rdVarA_eq, @rdB_agg, @rdB_one, @wrA_eq, @wrO_cells, @resLA_nil, @resLA_cons, @resOA_tmp, @resOA_cell, @oRdA_some, @lenN_map, @SubE_nil, @SubE_cons⟩
theorem vmSA : type_of% (An @sS_nil (An @sS_cons (An @opSG_none (An @opSG_some (An @needS_0 (An @needS_1 (An @needS_2 (An @SubA_nil (An @SubA_cons (An @ifU_bool @ifU_undef)))))))))) := ⟨@sS_nil, @sS_cons, @opSG_none, @opSG_some, @needS_0, @needS_1, @needS_2, @SubA_nil, @SubA_cons, @ifU_bool, @ifU_undef⟩
theorem vmSV : type_of% (An @opSB_true (An @opSB_false (An @soft_call (An @soft_panic (An @soft_move (An @soft_assign (An @soft_pick (An @soft_build (An @soft_load (An @soft_nilCheck (An @soft_binOp (An @soft_unOp (An @soft_makeInterface (An @soft_makeFunc (An @soft_fieldAddr (An @soft_field (An @soft_indexAddr (An @soft_index (An @soft_extract (An @soft_slice (An @soft_convert (An @soft_lookup (An @soft_len (An @soft_append (An @soft_copy (An @soft_delete (An @soft_clear (An @soft_store (An @soft_alloc (An @soft_box (An @soft_buildSlice (An @soft_makeMap (An @soft_mapUpdate (An @soft_insert (An @soft_makeSlice (An @contains_nil (An @contains_cons (An @ifU_bool @ifU_undef)))))))))))))))))))))))))))))))))))))) := ⟨@opSB_true, @opSB_false, @soft_call, @soft_panic, @soft_move, @soft_assign, @soft_pick, @soft_build, @soft_load, @soft_nilCheck, @soft_binOp, @soft_unOp, @soft_makeInterface, @soft_makeFunc, @soft_fieldAddr, @soft_field, @soft_indexAddr, @soft_index, @soft_extract, @soft_slice, @soft_convert, @soft_lookup, @soft_len, @soft_append, @soft_copy, @soft_delete, @soft_clear, @soft_store, @soft_alloc, @soft_box, @soft_buildSlice, @soft_makeMap, @soft_mapUpdate, @soft_insert, @soft_makeSlice, @contains_nil, @contains_cons, @ifU_bool, @ifU_undef⟩
theorem vmQA : type_of% (An @qA_nil (An @qA_plain (An @qA_in (An @gvQA_bool (An @qA_grp (An @qA_grp0 (An @gpQA_no (An @gpQA_or (An @gpQA_and (An @sqA_move (An @sqA_assign (An @sqA_pick (An @sqA_nilCheck (An @sqA_binOp (An @sqA_unOp (An @sqA_makeInterface (An @sqA_fieldAddr (An @sqA_field (An @sqA_indexAddr (An @sqA_index (An @sqA_extract (An @sqA_build (An @sqA_slice (An @sqA_slice3 (An @sqA_call (An @sqA_load (An @sqA_convert (An @sqA_lookup (An @sqA_len @callQA_func))))))))))))))))))))))))))))) := ⟨@qA_nil, @qA_plain, @qA_in, @gvQA_bool, @qA_grp, @qA_grp0, @gpQA_no, @gpQA_or, @gpQA_and, @sqA_move, @sqA_assign, @sqA_pick, @sqA_nilCheck, @sqA_binOp, @sqA_unOp, @sqA_makeInterface, @sqA_fieldAddr, @sqA_field, @sqA_indexAddr, @sqA_index, @sqA_extract, @sqA_build, @sqA_slice, @sqA_slice3, @sqA_call, @sqA_load, @sqA_convert, @sqA_lookup, @sqA_len, @callQA_func⟩
theorem vmRA : type_of% (An @semiG_nil (An @semiG_cons (An @semi_lookup (An @cnvQA_int @cnvQA_str)))) := ⟨@semiG_nil, @semiG_cons, @semi_lookup, @cnvQA_int, @cnvQA_str⟩
end Go.Vm
