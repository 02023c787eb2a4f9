/-
The scanner in memory.
Conditions: none.
-/
import Derived.Test.YtfphceknmgadgaaDoorQa
import Derived.Test.YtfphceknmgadgaaDoorQb
import Derived.Test.YtfphceknmgadgaaDoorVmAU
set_option linter.unusedSimpArgs false
set_option linter.unusedVariables false
namespace Go.Proofs.YtfphceknmgadgaaDoor
open Go.Vm
set_option maxHeartbeats 2000000
set_option maxRecDepth 20000
theorem vbQc : type_of% (An @slIndexByte_v (An @indexByte_v (An @indexRune_v (An @containsRune_v (An @slHasPrefix_v (An @hasPrefix_v (An @classOf_v (An @isWordByte_v (An @wordAt_v (An @skip_v (An @number_v (An @literal_v (An @lexemeAt_v @isName_v))))))))))))) := ⟨@slIndexByte_v, @indexByte_v, @indexRune_v, @containsRune_v, @slHasPrefix_v, @hasPrefix_v, @classOf_v, @isWordByte_v, @wordAt_v, @skip_v, @number_v, @literal_v, @lexemeAt_v, @isName_v⟩
def scB (lp : Option Addr) (lcap : Nat) (L : List LR) (i : Nat) : Obj := (Obj.cells #[.slice lp L.length lcap, .int .i64 (i : Int)] 116)
def tx (x : LR) : Txt := x.t.toList
def lexV (x : LR) : Value := .agg #[.int .i64 x.k, .string x.t, .int .i64 x.n, .int .i64 x.a]
theorem CallA.put {P : Program} {g : FuncId} {args : Array Value} {A K0 : AH} {cb : Nat} {o o' : Obj} {v : Value} {K : Value → AH → Prop} (hc : CallA P g args ((cb, o) :: A) fun u D => u = v ∧ SubA ((cb, o') :: A) D) (hs : SubA ((cb, o) :: A) K0)
    (hk : K v ((cb, o') :: A)) : CallA P g args K0 K :=
  CallA.useX hc hs [] (SubA.nil _) (fun x hx => absurd rfl hx) fun u D ⟨h1, h2⟩ _ => ⟨(cb, o') :: A, h2, by rw [List.append_nil, h1]; exact hk⟩
theorem _root_.Go.Vm.SubA.swap {A : AH} {a b : Nat} {o u : Obj} (h : (a = b) = False) : SubA ((a, o) :: (b, u) :: A) ((b, u) :: (a, o) :: A) := fun c v hl => by
  simp only [Vm.look] at hl ⊢
  by_cases h1 : a = c
  · subst h1
    have : ¬ b = a := fun e => by simp [e] at h
    simp only [this, if_false, if_true] at hl ⊢
    exact hl
  · simp only [h1, if_false] at hl ⊢
    exact hl
theorem look_c1 {A : AH} {cb b : Nat} {o : Obj} (h : (cb = b) = False) (ha : Vm.look A b = none) : Vm.look ((cb, o) :: A) b = none := by simp only [Vm.look, h, if_false]; exact ha
theorem peekS_h (A : AH) (cb : Nat) (L : List LR) (lp : Option Addr) (lcap : Nat) (hn : Vm.look A cb = none) (hL : StR LR.cells 4 A lp L) (i : Nat) (x : LR) (hx : L[i]? = some x) : CallA Tryd.prog 68 #[.pointer (some ⟨cb, 0, none⟩)] ((cb, scB lp lcap L i) :: A) (fun u_ A_ => u_ = lexV x ∧ SubA ((cb, scB lp lcap L i) :: A) A_) := by
  refine callA_of_denA ⟨Tryd.prog, 68, Tryd.f68, 28, [0, 2], ⟨[], none⟩, [(1, .q false), (3, .p [(0, 0), (1, 0), (2, 0), (3, 0), (4, 0), (5, 0), (6, 0), (7, 0), (8, 0), (9, 0), (10, 2)])], _⟩ rfl (args := [_]) Tryd.func68 rfl (by kernel_rfl) Tryd.ntmps68 (by simp) (by kernel_rfl) ?_
  intro ν fr; have nuE := fr.nu
  have f0 := fr.2 0
  obtain ⟨m3, m4⟩ := look_ne f0 (show Vm.look ((cb, scB lp lcap L i) :: A) cb = some (scB lp lcap L i) by simp [Vm.look])
  obtain ⟨bk, off, cs, ty, fr0, hp0, hbk, hcr, hcc⟩ := hL.at hx
  have hlt := (List.getElem?_eq_some_iff.1 hx).1
  have lt : ((L.length : Int) ≤ (i : Int)) = False := eq_false (by omega)
  have lt2 : ((i : Int) < (L.length : Int)) = True := eq_true (by omega)
  have li : ((i : Int) < 0) = False := eq_false (by omega)
  obtain ⟨n1, n2⟩ := look_ne hn hbk
  have hbk2 : Vm.look ((cb, scB lp lcap L i) :: A) bk = some (.cells cs ty fr0) := by simp only [Vm.look, n1, if_false]; exact hbk
  obtain ⟨m1, m2⟩ := look_ne f0 hbk2
  simp only [LR.cells] at hcr
  simp only [scB, lexV]
  simp (maxDischargeDepth := 16) only [evN, ↓evP, simprocAttr, forall_const, nuE, fr.2, vbQc, lt, lt2, li, hp0, hbk, hcr, n1, n2, m1, m2, m3, m4]
  exact SubA.skip (look_c1 m4 ((SubA.skip hn (SubA.refl A)).none f0)) (SubA.refl _)
theorem peekS_w (A : AH) (cb : Nat) (L : List LR) (lp : Option Addr) (lcap : Nat) (hn : Vm.look A cb = none) (hL : StR LR.cells 4 A lp L) (i : Nat) (x : LR) (hx : L[i]? = some x) (B_ : AH) (hB_ : SubA ((cb, scB lp lcap L i) :: A) B_) : valA Tryd.prog 68 #[.pointer (some ⟨cb, 0, none⟩)] B_ = some (lexV x) := valA_eq (pureA_at (by kernel_rfl) (peekS_h A cb L lp lcap hn hL i x hx) hB_)
theorem peekS_v (A : AH) (cb : Nat) (L : List LR) (lp : Option Addr) (lcap : Nat) (hn : Vm.look A cb = none) (hL : StR LR.cells 4 A lp L) (i : Nat) (x : LR) (hx : L[i]? = some x) : valA Tryd.prog 68 #[.pointer (some ⟨cb, 0, none⟩)] ((cb, scB lp lcap L i) :: A) = some (lexV x) := valA_eq (pureA_at (by kernel_rfl) (peekS_h A cb L lp lcap hn hL i x hx) (SubA.refl _))
def nxS (L : List LR) (i : Nat) : Nat := if i + 1 < L.length then i + 1 else i
theorem nextS_h (A : AH) (cb : Nat) (L : List LR) (lp : Option Addr) (lcap : Nat) (hn : Vm.look A cb = none) (hL : StR LR.cells 4 A lp L) (hl : L.length ≤ 100000) (i : Nat) (x : LR) (hx : L[i]? = some x) : CallA Tryd.prog 88 #[.pointer (some ⟨cb, 0, none⟩)] ((cb, scB lp lcap L i) :: A) (fun u_ A_ => u_ = lexV x ∧ SubA ((cb, scB lp lcap L (nxS L i)) :: A) A_) := by
  refine callA_of_denA ⟨Tryd.prog, 88, Tryd.f88, 29, [0, 2, 3], ⟨[], none⟩, [(2, .q false)], _⟩ rfl (args := [_]) Tryd.func88 rfl (by kernel_rfl) Tryd.ntmps88 (by simp) (by kernel_rfl) ?_
  intro ν fr; have nuE := fr.nu
  have f0 := fr.2 0
  have pk := fun o => peekS_w A cb L lp lcap hn hL i x hx ((ν 0, o) :: (cb, scB lp lcap L i) :: A) (SubA.fresh f0 (SubA.refl _))
  have hlt := (List.getElem?_eq_some_iff.1 hx).1
  have we : IntKind.i64.wrap ((i : Int) + 1) = ((i + 1 : Nat) : Int) := by rw [w_i64 (by omega) (by omega)]; omega
  obtain ⟨m3, m4⟩ := look_ne f0 (show Vm.look ((cb, scB lp lcap L i) :: A) cb = some (scB lp lcap L i) by simp [Vm.look])
  have f1 : Vm.look ((cb, scB lp lcap L i) :: A) (ν 1) = none := fr.2 1
  obtain ⟨m5, m6⟩ := look_ne f1 (show Vm.look ((cb, scB lp lcap L i) :: A) cb = some (scB lp lcap L i) by simp [Vm.look])
  have f2 : Vm.look ((cb, scB lp lcap L i) :: A) (ν 2) = none := fr.2 2
  obtain ⟨m7, m8⟩ := look_ne f2 (show Vm.look ((cb, scB lp lcap L i) :: A) cb = some (scB lp lcap L i) by simp [Vm.look])
  have ha0 : Vm.look A (ν 0) = none := (SubA.skip hn (SubA.refl A)).none f0
  have ha1 : Vm.look A (ν 1) = none := (SubA.skip hn (SubA.refl A)).none f1
  simp only [scB, lexV] at pk ⊢
  by_cases h : i + 1 < L.length
  · have lt : (((i + 1 : Nat) : Int) < (L.length : Int)) = True := eq_true (by omega)
    have hnx : nxS L i = i + 1 := if_pos h
    rw [hnx]
    simp (maxDischargeDepth := 16) only [evN, ↓evP, simprocAttr, forall_const, nuE, fr.2, vbQc, pk, we, lt, m3, m4, m5, m6, m7, m8]
    exact SubA.skip (look_c1 m6 ha1) (SubA.skip (look_c1 m4 ha0) (SubA.refl _))
  · have lt : (((i + 1 : Nat) : Int) < (L.length : Int)) = False := eq_false (by omega)
    have hnx : nxS L i = i := if_neg h
    rw [hnx]
    simp (maxDischargeDepth := 16) only [evN, ↓evP, simprocAttr, forall_const, nuE, fr.2, vbQc, pk, we, lt, m3, m4, m5, m6, m7, m8]
    exact SubA.skip (look_c1 m6 ha1) (SubA.skip (look_c1 m4 ha0) (SubA.refl _))
def isL (x : LR) (k : Int) (t : ByteArray) : Bool := decide (x.k = k) && decide (x.t.toList = t.toList)
theorem acceptS_h (A : AH) (cb : Nat) (L : List LR) (lp : Option Addr) (lcap : Nat) (hn : Vm.look A cb = none) (hL : StR LR.cells 4 A lp L) (hl : L.length ≤ 100000) (i : Nat) (x : LR) (hx : L[i]? = some x) (k : Int) (t : ByteArray) : CallA Tryd.prog 81 #[.pointer (some ⟨cb, 0, none⟩), .int .i64 k, .string t] ((cb, scB lp lcap L i) :: A) (fun u_ A_ => u_ = .bool (isL x k t) ∧ SubA ((cb, scB lp lcap L (if isL x k t = true then nxS L i else i)) :: A) A_) := by
  refine callA_of_denA ⟨Tryd.prog, 81, Tryd.f81, 22, [0, 1, 2, 6, 7], ⟨[88], none⟩, [], _⟩ rfl (args := [_, _, _]) Tryd.func81 rfl (by kernel_rfl) Tryd.ntmps81 (by simp) (by kernel_rfl) ?_
  intro ν fr; have nuE := fr.nu
  have f0 := fr.2 0
  have pk := peekS_v A cb L lp lcap hn hL i x hx
  obtain ⟨m3, m4⟩ := look_ne f0 (show Vm.look ((cb, scB lp lcap L i) :: A) cb = some (scB lp lcap L i) by simp [Vm.look])
  have ha0 : Vm.look A (ν 0) = none := (SubA.skip hn (SubA.refl A)).none f0
  have s0 : ∀ o, SubA ((cb, scB lp lcap L i) :: A) ((ν 0, o) :: (cb, scB lp lcap L i) :: A) := fun o => SubA.skip f0 (SubA.refl _)
  simp only [lexV] at pk
  by_cases h1 : x.k = k
  · have e1 : (x.k != k) = false := by simp [h1]
    by_cases h2 : x.t.toList = t.toList
    · have hb : isL x k t = true := by simp [isL, h1, h2]
      rw [hb, if_pos rfl]
      simp (maxDischargeDepth := 16) only [evN, ↓evP, simprocAttr, forall_const, nuE, fr.2, vbQc, pk, e1, eq_true h1, eq_true h2, m3, m4]
      refine CallA.put (nextS_h A cb L lp lcap hn hL hl i x hx) (s0 _) ?_
      intro ν fr; have nuE := And.intro (fr.mem (b := cb) (by simp)) (fr.nu)
      simp (maxDischargeDepth := 16) only [evN, ↓evP, simprocAttr, forall_const, nuE, fr.2, vbQc]
    · have hb : isL x k t = false := by simp [isL, h1, h2]
      rw [hb, if_neg (by simp)]
      simp (maxDischargeDepth := 16) only [evN, ↓evP, simprocAttr, forall_const, nuE, fr.2, vbQc, pk, e1, eq_true h1, eq_false h2, m3, m4]
  · have hb : isL x k t = false := by simp [isL, h1]
    rw [hb, if_neg (by simp)]
    have e1 : (x.k != k) = true := by simp [h1]
    simp (maxDischargeDepth := 16) only [evN, ↓evP, simprocAttr, forall_const, nuE, fr.2, vbQc, pk, e1, eq_false h1, m3, m4]
theorem wordS_h (A : AH) (cb : Nat) (L : List LR) (lp : Option Addr) (lcap : Nat) (hn : Vm.look A cb = none) (hL : StR LR.cells 4 A lp L) (hl : L.length ≤ 100000) (i : Nat) (x : LR) (hx : L[i]? = some x) (t : ByteArray) : CallA Tryd.prog 71 #[.pointer (some ⟨cb, 0, none⟩), .string t] ((cb, scB lp lcap L i) :: A) (fun u_ A_ => u_ = .bool (isL x 1 t) ∧ SubA ((cb, scB lp lcap L (if isL x 1 t = true then nxS L i else i)) :: A) A_) := by
  refine callA_of_denA ⟨Tryd.prog, 71, Tryd.f71, 8, [0, 1, 4], ⟨[81], none⟩, [], _⟩ rfl (args := [_, _]) Tryd.func71 rfl (by kernel_rfl) Tryd.ntmps71 (by simp) (by kernel_rfl) ?_
  intro ν fr; have nuE := fr.nu
  simp (maxDischargeDepth := 16) only [evN, ↓evP, simprocAttr, forall_const, nuE, fr.2, vbQc]
  refine CallA.put (acceptS_h A cb L lp lcap hn hL hl i x hx 1 t) (SubA.refl _) ?_
  intro ν fr; have nuE := And.intro (fr.mem (b := cb) (by simp)) (fr.nu)
  simp (maxDischargeDepth := 16) only [evN, ↓evP, simprocAttr, forall_const, nuE, fr.2, vbQc]
theorem markS_h (A : AH) (cb : Nat) (L : List LR) (lp : Option Addr) (lcap : Nat) (hn : Vm.look A cb = none) (hL : StR LR.cells 4 A lp L) (hl : L.length ≤ 100000) (i : Nat) (x : LR) (hx : L[i]? = some x) (t : ByteArray) : CallA Tryd.prog 86 #[.pointer (some ⟨cb, 0, none⟩), .string t] ((cb, scB lp lcap L i) :: A) (fun u_ A_ => u_ = .bool (isL x 4 t) ∧ SubA ((cb, scB lp lcap L (if isL x 4 t = true then nxS L i else i)) :: A) A_) := by
  refine callA_of_denA ⟨Tryd.prog, 86, Tryd.f86, 8, [0, 1, 4], ⟨[81], none⟩, [], _⟩ rfl (args := [_, _]) Tryd.func86 rfl (by kernel_rfl) Tryd.ntmps86 (by simp) (by kernel_rfl) ?_
  intro ν fr; have nuE := fr.nu
  simp (maxDischargeDepth := 16) only [evN, ↓evP, simprocAttr, forall_const, nuE, fr.2, vbQc]
  refine CallA.put (acceptS_h A cb L lp lcap hn hL hl i x hx 4 t) (SubA.refl _) ?_
  intro ν fr; have nuE := And.intro (fr.mem (b := cb) (by simp)) (fr.nu)
  simp (maxDischargeDepth := 16) only [evN, ↓evP, simprocAttr, forall_const, nuE, fr.2, vbQc]
set_option maxHeartbeats 2000000
set_option maxRecDepth 20000
theorem own_ha {h' : Heap} {base : Nat} {e : TypeId} {size : Nat} {v : Value} {n : Nat} {xs : List Value} (o : OwnH h' base e size v n xs) : ∃ B, OwnA e size v B n xs ∧ Sat B h' ∧ ∀ b, Vm.look B b ≠ none → base ≤ b := by
  unfold OwnH World.ownsRow at o
  obtain ⟨h1, ⟨h2, h3⟩ | ⟨g, cap, cur, h2, h3, h4, h5⟩⟩ := o
  · exact ⟨[], ⟨h1, .inl ⟨h2, rfl, h3⟩⟩, Sat.nil _, fun b hb => absurd rfl hb⟩
  · refine ⟨[(g, .cells cur e)], ⟨h1, .inr ⟨g, cap, cur, h2, rfl, h5⟩⟩, fun b o hl => ?_, fun b hb => ?_⟩
    · simp only [Vm.look] at hl
      split at hl
      · rename_i e1; subst e1; cases hl; exact h4
      · cases hl
    · simp only [Vm.look] at hb
      split at hb
      · rename_i e1; rw [← e1]; exact h3
      · exact absurd rfl hb
theorem scan_a (A : AH) (s : ByteArray) (hs : s.size ≤ 100000) : CallA Tryd.prog 11 #[.string s] A fun u D => ∃ v B, u = v ∧ (∃ w, v = .tuple #[w, .int .i64 (scanF s).1, .int .i64 ((scanF s).2.1 : Nat)] ∧ OwnL LR.cells 4 49 w B (scanF s).2.2) ∧ Dis B A ∧ SubA (B ++ A) D := by
  intro h hA
  unfold RunC
  rw [if_pos (by kernel_rfl)]
  refine (scan_h s hs h).mono0 ?_
  rintro r h' ⟨v, rfl, o, g⟩
  obtain ⟨B, o2, sB, hb⟩ := own_ha o
  have dB : Dis B A := fun x hx => by
    cases hl : Vm.look A x with
    | none => exact absurd hl hx
    | some ob =>
      have := hA.lt hl
      cases hB : Vm.look B x with
      | none => rfl
      | some o3 => have := hb x (by rw [hB]; simp); omega
  refine ⟨_, B ++ A, rfl, Sat.both sB (hA.grew g), ⟨g.le, fun b hlt hl => ⟨g.old b hlt, look_app_none ?_ hl⟩⟩, _, B, rfl, ⟨v, rfl, .inl o2⟩, dB, SubA.refl _⟩
  cases hB : Vm.look B b with
  | none => rfl
  | some o3 => have := hb b (by rw [hB]; simp); omega
theorem scanG_len (s : ByteArray) : ∀ m i, (scanG s m i).2.2.length ≤ m := by
  intro m
  induction m with
  | zero => intro i; simp [scanG]
  | succ m ih =>
    intro i
    simp only [scanG]
    split
    · simp
    · split
      · simp
      · split
        · simp only [List.length_cons]; have := ih ((lexR s i).nx + skN false (s.toList.drop (lexR s i).nx)); omega
        · simp
def EndL (L : List LR) : Prop := ∀ i x, L[i]? = some x → x.k ≠ 0 → i + 1 < L.length
theorem scan_out {s : ByteArray} (h0 : (scanF s).1 = 0) : ∃ K, (scanF s).2.2 = K ++ [endR s] ∧ (∀ x ∈ K, wfX x) ∧ s.size ≤ 4000 ∧ (scanF s).2.2.length ≤ 4001 := by
  have hh := h0
  unfold scanF at hh
  split at hh
  · cases hh
  · rename_i h4
    have sk := skN_end s 0 (by omega)
    simp only [Nat.zero_add, List.drop_zero] at sk
    obtain ⟨K, k1, k2, k3⟩ := scanG_wf s (s.size + 1) (skN false s.toList) (by omega) sk hh
    have hS : (scanF s).2.2 = K ++ [endR s] := by unfold scanF; rw [if_neg h4, k1]
    refine ⟨K, hS, k2, by omega, ?_⟩
    have := scanG_len s (s.size + 1) (skN false s.toList)
    unfold scanF
    rw [if_neg h4]
    omega
theorem scan_end {s : ByteArray} (h0 : (scanF s).1 = 0) : EndL (scanF s).2.2 := by
  obtain ⟨K, hS, _⟩ := scan_out h0
  rw [hS]
  intro i x hx hk
  have hi := (List.getElem?_eq_some_iff.1 hx).1
  simp only [List.length_append, List.length_singleton] at hi ⊢
  by_cases e : i < K.length
  · omega
  · rw [List.getElem?_append_right (by omega), show i - K.length = 0 by omega] at hx
    simp at hx
    subst hx
    exact absurd rfl hk
def NsP (A : AH) (s : ByteArray) (u : Value) (D : AH) : Prop :=
  ((scanF s).1 ≠ 0 ∧ u = .tuple #[.pointer none, .int .i64 (scanF s).1, .int .i64 ((scanF s).2.1 : Nat)] ∧ SubA A D) ∨ ((scanF s).1 = 0 ∧ ∃ cb lp lcap B, u = .tuple #[.pointer (some ⟨cb, 0, none⟩), .int .i64 0, .int .i64 0] ∧ StR LR.cells 4 B lp (scanF s).2.2 ∧ Sep [[(cb, scB lp lcap (scanF s).2.2 0)], B, A] ∧ SubA (cat [[(cb, scB lp lcap (scanF s).2.2 0)], B, A]) D)
theorem newScS_h (A : AH) (s : ByteArray) (hs : s.size ≤ 100000) : CallA Tryd.prog 66 #[.string s] A (fun u_ A_ => NsP A s u_ A_) := by
  refine callA_of_denA ⟨Tryd.prog, 66, Tryd.f66, 21, [0, 2, 3, 4, 5, 6, 7], ⟨[11], none⟩, [], _⟩ rfl (args := [_]) Tryd.func66 rfl (by kernel_rfl) Tryd.ntmps66 (by simp) (by kernel_rfl) ?_
  intro ν fr; have nuE := fr.nu
  simp (maxDischargeDepth := 16) only [evN, ↓evP, simprocAttr, forall_const, nuE, fr.2, vbQc]
  refine CallA.newX (scan_a A s hs) (SubA.refl _) ?_
  rintro v B ⟨w, rfl, ho⟩ hd
  refine ⟨_, SubA.refl _, ?_⟩
  clear nuE fr
  intro ν fr; have nuE := fr.nu
  by_cases h0 : (scanF s).1 = 0
  · obtain ⟨p, cap, rfl, h1, h2⟩ := OwnL.read (f := LR.cells) (n := 4) (fun x => rfl) ho
    have f0 : Vm.look (cat [B, A]) (ν 0) = none := fr.2 0
    simp (maxDischargeDepth := 16) only [evN, ↓evP, simprocAttr, forall_const, nuE, fr.2, vbQc, h0]
    have sp : Sep [B, A] := Sep.cons hd (Sep.one A)
    exact ⟨ν 0, p, cap, B, rfl, h2, Sep.fresh f0 _ sp, SubA.refl _⟩
  · simp (maxDischargeDepth := 16) only [evN, ↓evP, simprocAttr, forall_const, nuE, fr.2, vbQc, eq_false h0]
    exact hd.right
set_option maxHeartbeats 2000000
set_option maxRecDepth 20000
def lxA (L : List LR) (i : Nat) : LR := L.getD i ⟨0, ⟨#[]⟩, 0, 0, 0, 0⟩
theorem lxA_of {L : List LR} {i : Nat} {x : LR} (h : L[i]? = some x) : lxA L i = x := by unfold lxA; rw [List.getD_eq_getElem?_getD, h]; rfl
theorem dis_cons' {B X : AH} {x : Nat} {o : Obj} (h : Vm.look B x = none) (d : Dis B X) : Dis B ((x, o) :: X) := fun b hb => by
  simp only [Vm.look] at hb
  by_cases e : x = b
  · subst e; exact h
  · rw [if_neg e] at hb; exact d b hb
theorem _root_.Go.Vm.Sep.hd {b : Nat} {o : Obj} {l : List AH} (h : Sep ([(b, o)] :: l)) : Vm.look (cat l) b = none := (Sep.dis h).symm b (by simp [Vm.look])
theorem isL_k {x : LR} {k : Int} {t : ByteArray} (h : isL x k t = true) : x.k = k := by simp only [isL, Bool.and_eq_true, decide_eq_true_eq] at h; exact h.1
theorem Sep.set : ∀ {l : List AH} (i : Nat) (y : AH), Sep l → (∀ b, Vm.look (at_ l i) b = none → Vm.look y b = none) → Sep (l.set i y)
  | [], _, _, h, _ => h
  | x :: l, 0, y, h, hy => Sep.cons ((Sep.dis h).less hy) h.2
  | x :: l, i + 1, y, h, hy => by
    refine ⟨SepT.of fun z hz => ?_, Sep.set i y h.2 hy⟩
    by_cases hi : i < l.length
    · rcases List.mem_or_eq_of_mem_set hz with e | e
      · exact h.1.all z e
      · subst e
        exact ((h.1.all _ (at_mem hi)).symm.less hy).symm
    · rw [List.set_eq_of_length_le (by omega)] at hz
      exact h.1.all z hz
end Go.Proofs.YtfphceknmgadgaaDoor
