/-
Stand-in: the walk of the law StandinLimits.
Conditions: none.
-/
import Derived.Test.YtmjkjpjjckcihaaStX
import Derived.Test.YtmjkjpjjckcihaaVmAB
namespace Go.Proofs.Ytmjkjpjjckcihaa
open Go.Vm
set_option linter.unusedSimpArgs false
set_option linter.unusedVariables false
set_option maxHeartbeats 8000000
set_option maxRecDepth 20000
theorem lit256I : (#[.int .i64 0, .int .i64 0, .int .i64 0, .int .i64 0, .int .i64 0, .int .i64 0, .int .i64 0, .int .i64 0, .int .i64 0, .int .i64 0, .int .i64 0, .int .i64 0, .int .i64 0, .int .i64 0, .int .i64 0, .int .i64 0, .int .i64 0, .int .i64 0, .int .i64 0, .int .i64 0, .int .i64 0, .int .i64 0, .int .i64 0, .int .i64 0, .int .i64 0, .int .i64 0, .int .i64 0, .int .i64 0, .int .i64 0, .int .i64 0, .int .i64 0, .int .i64 0, .int .i64 0, .int .i64 0, .int .i64 0, .int .i64 0, .int .i64 0, .int .i64 0, .int .i64 0, .int .i64 0, .int .i64 0, .int .i64 0, .int .i64 0, .int .i64 0, .int .i64 0, .int .i64 0, .int .i64 0, .int .i64 0, .int .i64 0, .int .i64 0, .int .i64 0, .int .i64 0, .int .i64 0, .int .i64 0, .int .i64 0, .int .i64 0, .int .i64 0, .int .i64 0, .int .i64 0, .int .i64 0, .int .i64 0, .int .i64 0, .int .i64 0, .int .i64 0, .int .i64 0, .int .i64 0, .int .i64 0, .int .i64 0, .int .i64 0, .int .i64 0, .int .i64 0, .int .i64 0, .int .i64 0, .int .i64 0, .int .i64 0, .int .i64 0, .int .i64 0, .int .i64 0, .int .i64 0, .int .i64 0, .int .i64 0, .int .i64 0, .int .i64 0, .int .i64 0, .int .i64 0, .int .i64 0, .int .i64 0, .int .i64 0, .int .i64 0, .int .i64 0, .int .i64 0, .int .i64 0, .int .i64 0, .int .i64 0, .int .i64 0, .int .i64 0, .int .i64 0, .int .i64 0, .int .i64 0, .int .i64 0, .int .i64 0, .int .i64 0, .int .i64 0, .int .i64 0, .int .i64 0, .int .i64 0, .int .i64 0, .int .i64 0, .int .i64 0, .int .i64 0, .int .i64 0, .int .i64 0, .int .i64 0, .int .i64 0, .int .i64 0, .int .i64 0, .int .i64 0, .int .i64 0, .int .i64 0, .int .i64 0, .int .i64 0, .int .i64 0, .int .i64 0, .int .i64 0, .int .i64 0, .int .i64 0, .int .i64 0, .int .i64 0, .int .i64 0, .int .i64 0, .int .i64 0, .int .i64 0, .int .i64 0, .int .i64 0, .int .i64 0, .int .i64 0, .int .i64 0, .int .i64 0, .int .i64 0, .int .i64 0, .int .i64 0, .int .i64 0, .int .i64 0, .int .i64 0, .int .i64 0, .int .i64 0, .int .i64 0, .int .i64 0, .int .i64 0, .int .i64 0, .int .i64 0, .int .i64 0, .int .i64 0, .int .i64 0, .int .i64 0, .int .i64 0, .int .i64 0, .int .i64 0, .int .i64 0, .int .i64 0, .int .i64 0, .int .i64 0, .int .i64 0, .int .i64 0, .int .i64 0, .int .i64 0, .int .i64 0, .int .i64 0, .int .i64 0, .int .i64 0, .int .i64 0, .int .i64 0, .int .i64 0, .int .i64 0, .int .i64 0, .int .i64 0, .int .i64 0, .int .i64 0, .int .i64 0, .int .i64 0, .int .i64 0, .int .i64 0, .int .i64 0, .int .i64 0, .int .i64 0, .int .i64 0, .int .i64 0, .int .i64 0, .int .i64 0, .int .i64 0, .int .i64 0, .int .i64 0, .int .i64 0, .int .i64 0, .int .i64 0, .int .i64 0, .int .i64 0, .int .i64 0, .int .i64 0, .int .i64 0, .int .i64 0, .int .i64 0, .int .i64 0, .int .i64 0, .int .i64 0, .int .i64 0, .int .i64 0, .int .i64 0, .int .i64 0, .int .i64 0, .int .i64 0, .int .i64 0, .int .i64 0, .int .i64 0, .int .i64 0, .int .i64 0, .int .i64 0, .int .i64 0, .int .i64 0, .int .i64 0, .int .i64 0, .int .i64 0, .int .i64 0, .int .i64 0, .int .i64 0, .int .i64 0, .int .i64 0, .int .i64 0, .int .i64 0, .int .i64 0, .int .i64 0, .int .i64 0, .int .i64 0, .int .i64 0, .int .i64 0, .int .i64 0, .int .i64 0, .int .i64 0, .int .i64 0, .int .i64 0, .int .i64 0, .int .i64 0, .int .i64 0, .int .i64 0, .int .i64 0, .int .i64 0, .int .i64 0, .int .i64 0, .int .i64 0, .int .i64 0, .int .i64 0, .int .i64 0, .int .i64 0, .int .i64 0, .int .i64 0, .int .i64 0] : Array Value) = (List.replicate 256 (Value.int .i64 0)).toArray := by kernel_rfl
theorem lit256B : (#[.bool false, .bool false, .bool false, .bool false, .bool false, .bool false, .bool false, .bool false, .bool false, .bool false, .bool false, .bool false, .bool false, .bool false, .bool false, .bool false, .bool false, .bool false, .bool false, .bool false, .bool false, .bool false, .bool false, .bool false, .bool false, .bool false, .bool false, .bool false, .bool false, .bool false, .bool false, .bool false, .bool false, .bool false, .bool false, .bool false, .bool false, .bool false, .bool false, .bool false, .bool false, .bool false, .bool false, .bool false, .bool false, .bool false, .bool false, .bool false, .bool false, .bool false, .bool false, .bool false, .bool false, .bool false, .bool false, .bool false, .bool false, .bool false, .bool false, .bool false, .bool false, .bool false, .bool false, .bool false, .bool false, .bool false, .bool false, .bool false, .bool false, .bool false, .bool false, .bool false, .bool false, .bool false, .bool false, .bool false, .bool false, .bool false, .bool false, .bool false, .bool false, .bool false, .bool false, .bool false, .bool false, .bool false, .bool false, .bool false, .bool false, .bool false, .bool false, .bool false, .bool false, .bool false, .bool false, .bool false, .bool false, .bool false, .bool false, .bool false, .bool false, .bool false, .bool false, .bool false, .bool false, .bool false, .bool false, .bool false, .bool false, .bool false, .bool false, .bool false, .bool false, .bool false, .bool false, .bool false, .bool false, .bool false, .bool false, .bool false, .bool false, .bool false, .bool false, .bool false, .bool false, .bool false, .bool false, .bool false, .bool false, .bool false, .bool false, .bool false, .bool false, .bool false, .bool false, .bool false, .bool false, .bool false, .bool false, .bool false, .bool false, .bool false, .bool false, .bool false, .bool false, .bool false, .bool false, .bool false, .bool false, .bool false, .bool false, .bool false, .bool false, .bool false, .bool false, .bool false, .bool false, .bool false, .bool false, .bool false, .bool false, .bool false, .bool false, .bool false, .bool false, .bool false, .bool false, .bool false, .bool false, .bool false, .bool false, .bool false, .bool false, .bool false, .bool false, .bool false, .bool false, .bool false, .bool false, .bool false, .bool false, .bool false, .bool false, .bool false, .bool false, .bool false, .bool false, .bool false, .bool false, .bool false, .bool false, .bool false, .bool false, .bool false, .bool false, .bool false, .bool false, .bool false, .bool false, .bool false, .bool false, .bool false, .bool false, .bool false, .bool false, .bool false, .bool false, .bool false, .bool false, .bool false, .bool false, .bool false, .bool false, .bool false, .bool false, .bool false, .bool false, .bool false, .bool false, .bool false, .bool false, .bool false, .bool false, .bool false, .bool false, .bool false, .bool false, .bool false, .bool false, .bool false, .bool false, .bool false, .bool false, .bool false, .bool false, .bool false, .bool false, .bool false, .bool false, .bool false, .bool false, .bool false, .bool false, .bool false, .bool false, .bool false, .bool false, .bool false, .bool false, .bool false, .bool false, .bool false, .bool false, .bool false, .bool false, .bool false] : Array Value) = (List.replicate 256 (Value.bool false)).toArray := by kernel_rfl
theorem lit16I : (#[.int .i64 0, .int .i64 0, .int .i64 0, .int .i64 0, .int .i64 0, .int .i64 0, .int .i64 0, .int .i64 0, .int .i64 0, .int .i64 0, .int .i64 0, .int .i64 0, .int .i64 0, .int .i64 0, .int .i64 0, .int .i64 0] : Array Value) = (List.replicate 16 (Value.int .i64 0)).toArray := by kernel_rfl
theorem ixA {P : Program} {t e : TypeId} {len : Nat} {b : Bool} (hu : P.underlying t = some (.array len e)) (hs : shp P e = some (b, 1)) (a : Addr) (k : IntKind) (n : Int) (K : Value → Prop) : ixaW P t (.pointer (some a)) (.int k n) K = need (0 ≤ n ∧ n < (len : Int)) (K (.pointer (some (a.add (n.toNat * 1))))) := by
  simp only [ixaW, hu, hs, bnd]
theorem ixS (a : Addr) (k : IntKind) (n : Int) (K : Value → Prop) : ixaW Try.prog 53 (.pointer (some a)) (.int k n) K = need (0 ≤ n ∧ n < 16) (K (.pointer (some (a.add (n.toNat * 1))))) := ixA (e := 2) (b := false) (by kernel_rfl) (by kernel_rfl) a k n K
theorem ixN (a : Addr) (k : IntKind) (n : Int) (K : Value → Prop) : ixaW Try.prog 54 (.pointer (some a)) (.int k n) K = need (0 ≤ n ∧ n < 16) (K (.pointer (some (a.add (n.toNat * 1))))) := ixA (e := 3) (b := false) (by kernel_rfl) (by kernel_rfl) a k n K
theorem ixB (a : Addr) (k : IntKind) (n : Int) (K : Value → Prop) : ixaW Try.prog 55 (.pointer (some a)) (.int k n) K = need (0 ≤ n ∧ n < 256) (K (.pointer (some (a.add (n.toNat * 1))))) := ixA (e := 4) (b := false) (by kernel_rfl) (by kernel_rfl) a k n K
theorem ixP (a : Addr) (k : IntKind) (n : Int) (K : Value → Prop) : ixaW Try.prog 56 (.pointer (some a)) (.int k n) K = need (0 ≤ n ∧ n < 256) (K (.pointer (some (a.add (n.toNat * 1))))) := ixA (e := 3) (b := false) (by kernel_rfl) (by kernel_rfl) a k n K
theorem ixM (a : Addr) (k : IntKind) (n : Int) (K : Value → Prop) : ixaW Try.prog 57 (.pointer (some a)) (.int k n) K = need (0 ≤ n ∧ n < 256) (K (.pointer (some (a.add (n.toNat * 1))))) := ixA (e := 2) (b := false) (by kernel_rfl) (by kernel_rfl) a k n K
theorem upF_cast (f : Nat → Nat) (k v : Nat) : upF (fun m => (f m : Int)) k (v : Int) = fun m => ((upF f k v m : Nat) : Int) := funext fun m => by unfold upF; split <;> rfl
theorem numL_len (c : Nat) : (numL c).length ≤ 100000 := by
  unfold numL
  split
  · decide
  split
  · decide
  split <;> decide
def BANK : List UInt8 := [98, 97, 110, 107]
structure BuyT where
  card : Nat
  date : Nat
  key : Nat
  amt : Nat
  back : Bool
def buyC (x : BuyT) : List Value := [.int .u8 (x.card : Int), .int .u8 (x.date : Int), .int .u8 (x.key : Int), .int .u16 (x.amt : Int), .bool x.back]
theorem buyC_len (x : BuyT) : (buyC x).length = 5 := rfl
def BuyOk (x : BuyT) : Prop := x.card ≤ 255 ∧ x.date ≤ 255 ∧ x.key ≤ 255 ∧ x.amt ≤ 65535
theorem number_h (n : Nat) : CallA Try.prog 25 #[.int .u8 (n : Int)] [] (fun u_ _ => u_ = .string (bs (numL (n % 4)))) := by
  refine callA_of_denA ⟨Try.prog, 25, Try.f25, 11, [0, 2, 4], [], [], _⟩ (args := [_]) Try.func25 rfl (by kernel_rfl) Try.ntmps25 (by simp) (by kernel_rfl) ?_
  intro ν fr; have nuE := fr.nu
  have tm : ((n : Int)).tmod 4 = ((n % 4 : Nat) : Int) := by rw [Int.tmod_eq_emod_of_nonneg (by omega)]; omega
  rcases (show n % 4 = 0 ∨ n % 4 = 1 ∨ n % 4 = 2 ∨ n % 4 = 3 by omega) with h | h | h | h
  · rw [h] at tm
    have e : bs (numL (n % 4)) = ⟨#[52, 48, 48, 48, 48, 48, 48, 48, 48, 48, 48, 48, 48, 48, 55, 55]⟩ := by rw [h]; rfl
    simp (maxDischargeDepth := 16) only [argE_nil, argE_cons, ↓vmD, vmV, vmStd, Nat.reduceMul, ↓reduceIte, Nat.reduceAdd, Nat.reduceSub, Nat.reduceEqDiff, Nat.reduceLT, Nat.reduceLeDiff, reduceCtorEq, Int.reduceToNat, Int.reduceLT, Int.reduceLE, Int.reduceEq, Int.reduceNeg, Int.reduceBEq, Int.reduceBNe, String.reduceEq, forall_const, ↓vmDA, vmVA, ↓vmQA, vmR, vmRA, ↓vmSA, vmSV, tyS, nuE, SubA.skip, SubA.refl, fr.2, areDigits_v, panSum_v, rdigits_v, rsum_v, panLuhn_v, rLuhn_v, panCheck_v, rCheck_v, calIsDate_v, calDay_v, stLim_v, slIndexByte_v, indexByte_v, indexRune_v, containsRune_v, classOf_v, isWordByte_v, letter_v, digit_v, wordAt_v, rword_v, isName_v, risName_v, awk_v, tm, e]
  · rw [h] at tm
    have e : bs (numL (n % 4)) = ⟨#[52, 48, 48, 48, 48, 48, 48, 48, 48, 48, 48, 48, 48, 48, 48, 50]⟩ := by rw [h]; rfl
    simp (maxDischargeDepth := 16) only [argE_nil, argE_cons, ↓vmD, vmV, vmStd, Nat.reduceMul, ↓reduceIte, Nat.reduceAdd, Nat.reduceSub, Nat.reduceEqDiff, Nat.reduceLT, Nat.reduceLeDiff, reduceCtorEq, Int.reduceToNat, Int.reduceLT, Int.reduceLE, Int.reduceEq, Int.reduceNeg, Int.reduceBEq, Int.reduceBNe, String.reduceEq, forall_const, ↓vmDA, vmVA, ↓vmQA, vmR, vmRA, ↓vmSA, vmSV, tyS, nuE, SubA.skip, SubA.refl, fr.2, areDigits_v, panSum_v, rdigits_v, rsum_v, panLuhn_v, rLuhn_v, panCheck_v, rCheck_v, calIsDate_v, calDay_v, stLim_v, slIndexByte_v, indexByte_v, indexRune_v, containsRune_v, classOf_v, isWordByte_v, letter_v, digit_v, wordAt_v, rword_v, isName_v, risName_v, awk_v, tm, e]
  · rw [h] at tm
    have e : bs (numL (n % 4)) = ⟨#[52, 49, 49, 49, 49, 49, 49, 49, 49, 49, 49, 49, 49, 49, 49, 49]⟩ := by rw [h]; rfl
    simp (maxDischargeDepth := 16) only [argE_nil, argE_cons, ↓vmD, vmV, vmStd, Nat.reduceMul, ↓reduceIte, Nat.reduceAdd, Nat.reduceSub, Nat.reduceEqDiff, Nat.reduceLT, Nat.reduceLeDiff, reduceCtorEq, Int.reduceToNat, Int.reduceLT, Int.reduceLE, Int.reduceEq, Int.reduceNeg, Int.reduceBEq, Int.reduceBNe, String.reduceEq, forall_const, ↓vmDA, vmVA, ↓vmQA, vmR, vmRA, ↓vmSA, vmSV, tyS, nuE, SubA.skip, SubA.refl, fr.2, areDigits_v, panSum_v, rdigits_v, rsum_v, panLuhn_v, rLuhn_v, panCheck_v, rCheck_v, calIsDate_v, calDay_v, stLim_v, slIndexByte_v, indexByte_v, indexRune_v, containsRune_v, classOf_v, isWordByte_v, letter_v, digit_v, wordAt_v, rword_v, isName_v, risName_v, awk_v, tm, e]
  · rw [h] at tm
    have e : bs (numL (n % 4)) = ⟨#[48, 48, 48, 48, 48, 48, 48, 48, 48, 48, 48, 48]⟩ := by rw [h]; rfl
    simp (maxDischargeDepth := 16) only [argE_nil, argE_cons, ↓vmD, vmV, vmStd, Nat.reduceMul, ↓reduceIte, Nat.reduceAdd, Nat.reduceSub, Nat.reduceEqDiff, Nat.reduceLT, Nat.reduceLeDiff, reduceCtorEq, Int.reduceToNat, Int.reduceLT, Int.reduceLE, Int.reduceEq, Int.reduceNeg, Int.reduceBEq, Int.reduceBNe, String.reduceEq, forall_const, ↓vmDA, vmVA, ↓vmQA, vmR, vmRA, ↓vmSA, vmSV, tyS, nuE, SubA.skip, SubA.refl, fr.2, areDigits_v, panSum_v, rdigits_v, rsum_v, panLuhn_v, rLuhn_v, panCheck_v, rCheck_v, calIsDate_v, calDay_v, stLim_v, slIndexByte_v, indexByte_v, indexRune_v, containsRune_v, classOf_v, isWordByte_v, letter_v, digit_v, wordAt_v, rword_v, isName_v, risName_v, awk_v, tm, e]
theorem number_v (n : Nat) (A_ : AH) : valA Try.prog 25 #[.int .u8 (n : Int)] A_ = some (.string (bs (numL (n % 4)))) := valA_eq (pureA_of (by kernel_rfl) (number_h n))
theorem rd_b2 {A : AH} {g c : Nat} {ty : TypeId} {fr : Nat × Nat} {m n : Nat} (hm : m < 256) (hn : n < 256) (hg : Vm.look A g = some (.cells #[.int .u8 (m : Int), .int .u8 (n : Int)] ty fr)) : readA Try.prog (convert 60 9 (.slice (some ⟨g, 0, none⟩) 2 c)) A = some (.string (bs [UInt8.ofNat m, UInt8.ofNat n])) :=
  rd_bytes (l := [UInt8.ofNat m, UInt8.ofNat n]) Try.underlying60 Try.underlying5 Try.underlying9 hg (fun i y hy => by
    match i, hy with
    | 0, hy => simp at hy; subst hy; simp; omega
    | 1, hy => simp at hy; subst hy; simp; omega)
theorem sc_b2 (m n : Int) : sliceCells Try.prog 60 2 [(0, .int .u8 m), (1, .int .u8 n)] = some (5, #[.int .u8 m, .int .u8 n]) := by kernel_rfl
theorem CallA.weaken {P : Program} {g : FuncId} {args : Array Value} {A : AH} {K : Value → AH → Prop} (hf : CallA P g args A fun v A' => ∃ A'', SubA A'' A' ∧ K v A'') : CallA P g args A K := by
  intro h hA
  have := hf h hA
  unfold RunC at this ⊢
  have mono : ∀ e h', ResA A h (fun v A' => ∃ A'', SubA A'' A' ∧ K v A'') e h' → ResA A h K e h' := by
    rintro e h' ⟨v, A', h1, h2, h3, A'', h4, h5⟩
    exact ⟨v, A'', h1, h2.sub h4, h3.sub h4, h5⟩
  split
  · rename_i hcal
    rw [if_pos hcal] at this
    exact this.mono0 mono
  · rename_i hcal
    rw [if_neg hcal] at this
    intro w hw
    obtain ⟨v, w', r1, r2, r3⟩ := this w hw
    exact ⟨v, w', r1, r2, mono _ _ r3⟩
theorem StS.useL {E X A1 : AH} {P : Program} {g : FuncId} {args : Array Value} {K : Value → AH → Prop} {u0 : Value} {sb : Nat} {lm : List Lim} {L' : List Dec}
    (hc : CallA P g args E fun u D => u = u0 ∧ ∃ E' D', StP E' sb lm D' ∧ D'.map Prod.snd = L' ∧ SubA E' D ∧ ∀ x, Vm.look E x ≠ none → Vm.look D x ≠ none) (hs : SubA E A1) (hX : SubA X A1) (hd : Dis E X)
    (hk : ∀ E' D', StP E' sb lm D' → D'.map Prod.snd = L' → Dis E' X → K u0 (X ++ E')) : CallA P g args A1 K :=
  CallA.weaken (StS.use hc hs hX hd fun E' D' h1 h2 h3 => ⟨X ++ E', SubA.both h3.right (SubA.left E' X), hk E' D' h1 h2 h3⟩)
theorem NewS.useY {A A1 X : AH} {P : Program} {g : FuncId} {args : Array Value} {K : Value → AH → Prop} {L : List Lim} (h0 : newE [] L = 0)
    (hc : CallA P g args A fun u_ A_ => (newE [] L ≠ 0 ∧ u_ = .tuple #[.pointer none, .int .i64 (newE [] L)] ∧ SubA A A_) ∨ (newE [] L = 0 ∧ ∃ sb E, u_ = .tuple #[.pointer (some ⟨sb, 0, none⟩), .int .i64 0] ∧ StP E sb L [] ∧ Dis E A ∧ SubA (E ++ A) A_)) (hs : SubA A A1) (hX : SubA X A1) (hd : Dis A X)
    (hk : ∀ sb E, StP E sb L [] → Dis E X → K (.tuple #[.pointer (some ⟨sb, 0, none⟩), .int .i64 0]) (X ++ E)) : CallA P g args A1 K :=
  CallA.weaken (CallA.use hc hs (fun v D h b hb => by
    rcases h with ⟨h, _⟩ | ⟨_, sb, E, _, _, d, h⟩
    · exact absurd h0 h
    · have := (SubA.trans d.right h)
      cases hx : Vm.look A b with
      | none => exact absurd hx hb
      | some o => rw [this b o hx]; simp) X hX hd (by
    rintro v D (⟨h, _⟩ | ⟨_, sb, E, rfl, h1, d, h⟩) dD
    · exact absurd h0 h
    · have hs := SubA.trans (SubA.left E A) h
      exact ⟨E, hs, X ++ E, SubA.both (dD.subl hs).right (SubA.left E X), hk sb E h1 (dD.subl hs)⟩))
theorem newE_bank (ea da ct : Nat) (h1 : ea ≤ 65535) (h2 : da ≤ 65535) (h3 : ct ≤ 255) : newE [] [⟨BANK, ea, da, ct⟩] = 0 := by
  have hn : nameF (bs BANK) = true := by decide +kernel
  have hl : limOk ⟨BANK, (ea : Int), (da : Int), (ct : Int)⟩ = true := by unfold limOk; simp; omega
  unfold newE
  rw [if_neg (by simp [hn]), if_neg (by simp [limF]), if_neg (by simp [hl])]
  rfl
theorem permD_bank (ea da ct : Int) (L : List Dec) (card : List UInt8) (amt date : Int) : permD [⟨BANK, ea, da, ct⟩] L BANK card amt date = (decide (amt ≤ ea) && (decide (sumD card date L + amt ≤ da) && decide ((cntD card date L : Int) + 1 ≤ ct))) := by
  unfold permD; simp [limF]
theorem limLaw_h (A : AH) (ea da ct : Nat) (he1 : ea ≤ 65535) (he2 : da ≤ 65535) (he3 : ct ≤ 255) (L : List BuyT) (q : Option Addr) (cap : Nat) (hL : StR buyC 5 A q L) (hb : ∀ x ∈ L, BuyOk x) (hl : L.length ≤ 9223372036854775807) : CallA Try.prog 4 #[.int .u16 (ea : Int), .int .u16 (da : Int), .int .u8 (ct : Int), .slice q L.length cap] A (fun u_ A_ => u_ = .bool true ∧ SubA A A_) := by
  refine callA_of_denA ⟨Try.prog, 4, Try.f4, 274, [0, 1, 2, 3, 8, 9, 10, 11, 12, 13, 14, 15, 16, 17, 18, 19, 20, 21, 22, 23, 24, 25, 26, 27, 28, 29, 30], [9, 12, 14], [(23, .p [(0, 0), (1, 0), (2, 0), (3, 0), (4, 0), (5, 0), (6, 0), (7, 0), (8, 0), (9, 0), (10, 0), (11, 0), (12, 0), (13, 2)]), (24, .p [(0, 0), (1, 0), (2, 0), (3, 0), (4, 0), (5, 0), (6, 0), (7, 0), (8, 0), (9, 0), (10, 2)])], _⟩ (args := [_, _, _, _]) Try.func4 rfl (by kernel_rfl) Try.ntmps4 (by simp) (by kernel_rfl) ?_
  intro ν fr; have nuE := fr.nu
  have w1 : IntKind.i64.wrap (ea : Int) = (ea : Int) := w_i64 (by omega) (by omega)
  have w2 : IntKind.i64.wrap (da : Int) = (da : Int) := w_i64 (by omega) (by omega)
  have w3 : IntKind.i64.wrap (ct : Int) = (ct : Int) := w_i64 (by omega) (by omega)
  simp (maxDischargeDepth := 16) only [argE_nil, argE_cons, ↓vmD, vmV, vmStd, Nat.reduceMul, ↓reduceIte, Nat.reduceAdd, Nat.reduceSub, Nat.reduceEqDiff, Nat.reduceLT, Nat.reduceLeDiff, reduceCtorEq, Int.reduceToNat, Int.reduceLT, Int.reduceLE, Int.reduceEq, Int.reduceNeg, Int.reduceBEq, Int.reduceBNe, String.reduceEq, forall_const, ↓vmDA, vmVA, ↓vmQA, vmR, vmRA, ↓vmSA, vmSV, tyS, nuE, SubA.skip, SubA.refl, fr.2, areDigits_v, panSum_v, rdigits_v, rsum_v, panLuhn_v, rLuhn_v, panCheck_v, rCheck_v, calIsDate_v, calDay_v, stLim_v, slIndexByte_v, indexByte_v, indexRune_v, containsRune_v, classOf_v, isWordByte_v, letter_v, digit_v, wordAt_v, rword_v, isName_v, risName_v, awk_v, number_v, sc_lim, w1, w2, w3]
  have f0 := fr.2 0
  have hLm : StR limC 4 [(ν 0, Obj.cells #[.string ⟨#[98, 97, 110, 107]⟩, .int .i64 (ea : Int), .int .i64 (da : Int), .int .i64 (ct : Int)] 52)] (some ⟨ν 0, 0, none⟩) ([⟨BANK, (ea : Int), (da : Int), (ct : Int)⟩] : List Lim) := .inr ⟨ν 0, 0, _, _, _, rfl, by simp [Vm.look]; exact ⟨rfl, rfl, rfl⟩, fun i a hi => by
    match i, hi with
    | 0, hi => cases hi; rfl
    | i + 1, hi => simp at hi⟩
  refine NewS.useY (X := A) (newE_bank ea da ct he1 he2 he3) (newS_h _ ([⟨BANK, (ea : Int), (da : Int), (ct : Int)⟩] : List Lim) _ 1 hLm (by simp [BANK]) (by simp)) (SubA.left [_] A) (SubA.skip f0 (SubA.refl _)) (Dis.one f0) ?_
  intro sb E0 hE0 dx0
  intro ν1 fr1
  have fr := fr1
  have nuE := fr.nu
  by_cases h60 : 60 < L.length
  · have q60 : ((60 : Int) < (L.length : Int)) = True := eq_true (by omega)
    simp (maxDischargeDepth := 16) only [argE_nil, argE_cons, ↓vmD, vmV, vmStd, Nat.reduceMul, ↓reduceIte, Nat.reduceAdd, Nat.reduceSub, Nat.reduceEqDiff, Nat.reduceLT, Nat.reduceLeDiff, reduceCtorEq, Int.reduceToNat, Int.reduceLT, Int.reduceLE, Int.reduceEq, Int.reduceNeg, Int.reduceBEq, Int.reduceBNe, String.reduceEq, forall_const, ↓vmDA, vmVA, ↓vmQA, vmR, vmRA, ↓vmSA, vmSV, tyS, nuE, SubA.skip, SubA.refl, fr.2, areDigits_v, panSum_v, rdigits_v, rsum_v, panLuhn_v, rLuhn_v, panCheck_v, rCheck_v, calIsDate_v, calDay_v, stLim_v, slIndexByte_v, indexByte_v, indexRune_v, containsRune_v, classOf_v, isWordByte_v, letter_v, digit_v, wordAt_v, rword_v, isName_v, risName_v, awk_v, number_v, q60]
    exact SubA.left A E0
  have q60 : ((60 : Int) < (L.length : Int)) = False := eq_false (by omega)
  simp (maxDischargeDepth := 16) only [argE_nil, argE_cons, ↓vmD, vmV, vmStd, Nat.reduceMul, ↓reduceIte, Nat.reduceAdd, Nat.reduceSub, Nat.reduceEqDiff, Nat.reduceLT, Nat.reduceLeDiff, reduceCtorEq, Int.reduceToNat, Int.reduceLT, Int.reduceLE, Int.reduceEq, Int.reduceNeg, Int.reduceBEq, Int.reduceBNe, String.reduceEq, forall_const, ↓vmDA, vmVA, ↓vmQA, vmR, vmRA, ↓vmSA, vmSV, tyS, nuE, SubA.skip, SubA.refl, fr.2, areDigits_v, panSum_v, rdigits_v, rsum_v, panLuhn_v, rLuhn_v, panCheck_v, rCheck_v, calIsDate_v, calDay_v, stLim_v, slIndexByte_v, indexByte_v, indexRune_v, containsRune_v, classOf_v, isWordByte_v, letter_v, digit_v, wordAt_v, rword_v, isName_v, risName_v, awk_v, number_v, q60]
  simp only [lit256I, lit256B, lit16I]
  obtain ⟨b0, b1, b2, b3, b4, b5, b6, hb0, hb1, hb2, hb3, hb4, hb5, hb6⟩ : ∃ b0 b1 b2 b3 b4 b5 b6, b0 = ν1 0 ∧ b1 = ν1 1 ∧ b2 = ν1 2 ∧ b3 = ν1 3 ∧ b4 = ν1 4 ∧ b5 = ν1 5 ∧ b6 = ν1 6 := ⟨_, _, _, _, _, _, _, rfl, rfl, rfl, rfl, rfl, rfl, rfl⟩
  have m65 : ((b6 = b5) = False) ∧ ((b5 = b6) = False) := by rw [hb6, hb5]; simp [nuE]
  have m64 : ((b6 = b4) = False) ∧ ((b4 = b6) = False) := by rw [hb6, hb4]; simp [nuE]
  have m63 : ((b6 = b3) = False) ∧ ((b3 = b6) = False) := by rw [hb6, hb3]; simp [nuE]
  have m62 : ((b6 = b2) = False) ∧ ((b2 = b6) = False) := by rw [hb6, hb2]; simp [nuE]
  have m61 : ((b6 = b1) = False) ∧ ((b1 = b6) = False) := by rw [hb6, hb1]; simp [nuE]
  have m60 : ((b6 = b0) = False) ∧ ((b0 = b6) = False) := by rw [hb6, hb0]; simp [nuE]
  have m54 : ((b5 = b4) = False) ∧ ((b4 = b5) = False) := by rw [hb5, hb4]; simp [nuE]
  have m53 : ((b5 = b3) = False) ∧ ((b3 = b5) = False) := by rw [hb5, hb3]; simp [nuE]
  have m52 : ((b5 = b2) = False) ∧ ((b2 = b5) = False) := by rw [hb5, hb2]; simp [nuE]
  have m51 : ((b5 = b1) = False) ∧ ((b1 = b5) = False) := by rw [hb5, hb1]; simp [nuE]
  have m50 : ((b5 = b0) = False) ∧ ((b0 = b5) = False) := by rw [hb5, hb0]; simp [nuE]
  have m43 : ((b4 = b3) = False) ∧ ((b3 = b4) = False) := by rw [hb4, hb3]; simp [nuE]
  have m42 : ((b4 = b2) = False) ∧ ((b2 = b4) = False) := by rw [hb4, hb2]; simp [nuE]
  have m41 : ((b4 = b1) = False) ∧ ((b1 = b4) = False) := by rw [hb4, hb1]; simp [nuE]
  have m40 : ((b4 = b0) = False) ∧ ((b0 = b4) = False) := by rw [hb4, hb0]; simp [nuE]
  have m32 : ((b3 = b2) = False) ∧ ((b2 = b3) = False) := by rw [hb3, hb2]; simp [nuE]
  have m31 : ((b3 = b1) = False) ∧ ((b1 = b3) = False) := by rw [hb3, hb1]; simp [nuE]
  have m30 : ((b3 = b0) = False) ∧ ((b0 = b3) = False) := by rw [hb3, hb0]; simp [nuE]
  have m21 : ((b2 = b1) = False) ∧ ((b1 = b2) = False) := by rw [hb2, hb1]; simp [nuE]
  have m20 : ((b2 = b0) = False) ∧ ((b0 = b2) = False) := by rw [hb2, hb0]; simp [nuE]
  have m10 : ((b1 = b0) = False) ∧ ((b0 = b1) = False) := by rw [hb1, hb0]; simp [nuE]
  have g0 : Vm.look (A ++ E0) b0 = none := by rw [hb0]; exact fr1.2 0
  have g1 : Vm.look (A ++ E0) b1 = none := by rw [hb1]; exact fr1.2 1
  have g2 : Vm.look (A ++ E0) b2 = none := by rw [hb2]; exact fr1.2 2
  have g3 : Vm.look (A ++ E0) b3 = none := by rw [hb3]; exact fr1.2 3
  have g4 : Vm.look (A ++ E0) b4 = none := by rw [hb4]; exact fr1.2 4
  have g5 : Vm.look (A ++ E0) b5 = none := by rw [hb5]; exact fr1.2 5
  have g6 : Vm.look (A ++ E0) b6 = none := by rw [hb6]; exact fr1.2 6
  rw [← hb0, ← hb1, ← hb2, ← hb3, ← hb4, ← hb5, ← hb6]
  obtain ⟨e, l, D, E, S, N, kn, ap, rv, pl, am, c0, c1, c2, c3, c4, c5, c6, he, hEE, hc0, hc1, hc2, hc3, hc4, hc5, hc6, hd, hle, hE, hlen, hS, hN, hkn, hap, hrv, hpl, ham, hI, sp⟩ : ∃ (e : Nat) (l : List BuyT) (D : List (Nat × Dec)) (E : AH) (S N : Nat → Int) (kn ap rv : Nat → Bool) (pl : Nat → Nat) (am : Nat → Int) (c0 c1 c2 c3 c4 c5 c6 : Array Value), e = 0 ∧ E = E0 ∧ c0 = (List.replicate 16 (Value.int .i64 0)).toArray ∧ c1 = (List.replicate 16 (Value.int .i64 0)).toArray ∧ c2 = (List.replicate 256 (Value.bool false)).toArray ∧ c3 = (List.replicate 256 (Value.bool false)).toArray ∧ c4 = (List.replicate 256 (Value.bool false)).toArray ∧ c5 = (List.replicate 256 (Value.int .i64 0)).toArray ∧ c6 = (List.replicate 256 (Value.int .i64 0)).toArray ∧ l = L.drop e ∧ e ≤ L.length ∧ StP E sb ([⟨BANK, (ea : Int), (da : Int), (ct : Int)⟩] : List Lim) D ∧ D.length ≤ e ∧ ArrI c0 16 S ∧ ArrI c1 16 N ∧ ArrB c2 256 kn ∧ ArrB c3 256 ap ∧ ArrB c4 256 rv ∧ ArrI c5 256 (fun k => (pl k : Int)) ∧ ArrI c6 256 am ∧ LimI (D.map Prod.snd) S N kn ap rv pl am ∧ Sep [[(b6, (Obj.cells (c6) 57))], [(b5, (Obj.cells (c5) 56))], [(b4, (Obj.cells (c4) 55))], [(b3, (Obj.cells (c3) 55))], [(b2, (Obj.cells (c2) 55))], [(b1, (Obj.cells (c1) 54))], [(b0, (Obj.cells (c0) 53))], A, E] :=
    ⟨0, L, [], E0, fun _ => 0, fun _ => 0, fun _ => false, fun _ => false, fun _ => false, fun _ => 0, fun _ => 0, _, _, _, _, _, _, _, rfl, rfl, rfl, rfl, rfl, rfl, rfl, rfl, rfl, rfl, by simp, hE0, by simp, ArrI.zero 16, ArrI.zero 16, ArrB.zero 256, ArrB.zero 256, ArrB.zero 256, ArrI.zero 256, ArrI.zero 256, lim_init, Sep.fresh (by simp [cat, Vm.look, m65, m64, m63, m62, m61, m60, m54, m53, m52, m51, m50, m43, m42, m41, m40, m32, m31, m30, m21, m20, m10, g6]) _ (Sep.fresh (by simp [cat, Vm.look, m65, m64, m63, m62, m61, m60, m54, m53, m52, m51, m50, m43, m42, m41, m40, m32, m31, m30, m21, m20, m10, g5]) _ (Sep.fresh (by simp [cat, Vm.look, m65, m64, m63, m62, m61, m60, m54, m53, m52, m51, m50, m43, m42, m41, m40, m32, m31, m30, m21, m20, m10, g4]) _ (Sep.fresh (by simp [cat, Vm.look, m65, m64, m63, m62, m61, m60, m54, m53, m52, m51, m50, m43, m42, m41, m40, m32, m31, m30, m21, m20, m10, g3]) _ (Sep.fresh (by simp [cat, Vm.look, m65, m64, m63, m62, m61, m60, m54, m53, m52, m51, m50, m43, m42, m41, m40, m32, m31, m30, m21, m20, m10, g2]) _ (Sep.fresh (by simp [cat, Vm.look, m65, m64, m63, m62, m61, m60, m54, m53, m52, m51, m50, m43, m42, m41, m40, m32, m31, m30, m21, m20, m10, g1]) _ (Sep.fresh (by simp [cat, g0]) _ (Sep.cons (show Dis A E0 from dx0.symm) (Sep.one E0))))))))⟩
  rw [show (18, some (Value.int .i64 0)) = (18, some (Value.int .i64 (e : Int))) by rw [he]; rfl]
  refine LoopA.at (A := cat [[(b6, (Obj.cells (c6) 57))], [(b5, (Obj.cells (c5) 56))], [(b4, (Obj.cells (c4) 55))], [(b3, (Obj.cells (c3) 55))], [(b2, (Obj.cells (c2) 55))], [(b1, (Obj.cells (c1) 54))], [(b0, (Obj.cells (c0) 53))], A, E]) (by rw [hEE, hc0, hc1, hc2, hc3, hc4, hc5, hc6]; exact SubA.refl _) ?_
  clear he hc0 hc1 hc2 hc3 hc4 hc5 hc6 hEE hb0 hb1 hb2 hb3 hb4 hb5 hb6 g0 g1 g2 g3 g4 g5 g6 nuE fr fr1 hE0 dx0 f0 hLm
  simp only [cat, List.cons_append, List.nil_append]
  induction l generalizing e D E S N kn ap rv pl am c0 c1 c2 c3 c4 c5 c6 with
  | nil =>
    obtain ⟨hn1, hn2⟩ := drop_nil hd hle
    have lt : ((e : Int) < (L.length : Int)) = False := eq_false (by omega)
    have sA : SubA A (cat [[(b6, (Obj.cells (c6) 57))], [(b5, (Obj.cells (c5) 56))], [(b4, (Obj.cells (c4) 55))], [(b3, (Obj.cells (c3) 55))], [(b2, (Obj.cells (c2) 55))], [(b1, (Obj.cells (c1) 54))], [(b0, (Obj.cells (c0) 53))], A, E]) := sp.subs [7] rfl
    refine LoopA.intro (by kernel_rfl) ?_
    intro ν fr; have nuE := fr.nu
    simp (maxDischargeDepth := 16) only [argE_nil, argE_cons, ↓vmD, vmV, vmStd, Nat.reduceMul, ↓reduceIte, Nat.reduceAdd, Nat.reduceSub, Nat.reduceEqDiff, Nat.reduceLT, Nat.reduceLeDiff, reduceCtorEq, Int.reduceToNat, Int.reduceLT, Int.reduceLE, Int.reduceEq, Int.reduceNeg, Int.reduceBEq, Int.reduceBNe, String.reduceEq, forall_const, ↓vmDA, vmVA, ↓vmQA, vmR, vmRA, ↓vmSA, vmSV, tyS, nuE, SubA.skip, SubA.refl, fr.2, areDigits_v, panSum_v, rdigits_v, rsum_v, panLuhn_v, rLuhn_v, panCheck_v, rCheck_v, calIsDate_v, calDay_v, stLim_v, slIndexByte_v, indexByte_v, indexRune_v, containsRune_v, classOf_v, isWordByte_v, letter_v, digit_v, wordAt_v, rword_v, isName_v, risName_v, awk_v, number_v, lt]
    exact sA
  | cons x l ih =>
    obtain ⟨ha, hlt, hd', htk⟩ := drop_some hd
    have lt : ((e : Int) < (L.length : Int)) = True := eq_true (by omega)
    have we : IntKind.i64.wrap ((e : Int) + 1) = ((e + 1 : Nat) : Int) := by rw [w_i64 (by omega) (by omega)]; omega
    obtain ⟨bk, off, cs, ty, fr0, hp0, hbk, hcr, hcc⟩ := hL.at ha
    subst hp0
    have sA : SubA A (cat [[(b6, (Obj.cells (c6) 57))], [(b5, (Obj.cells (c5) 56))], [(b4, (Obj.cells (c4) 55))], [(b3, (Obj.cells (c3) 55))], [(b2, (Obj.cells (c2) 55))], [(b1, (Obj.cells (c1) 54))], [(b0, (Obj.cells (c0) 53))], A, E]) := sp.subs [7] rfl
    have lbk := sA _ _ hbk
    simp only [cat, List.cons_append, List.nil_append] at lbk
    obtain ⟨_, _, _, _, _, _, _, _, _, _, _, _, _, _, _, _, _, _, _, hu, hamt, hlen2, _⟩ := hE.out
    have hbx := hb x (List.mem_of_getElem? ha)
    obtain ⟨bc1, bc2, bc3, bc4⟩ := hbx
    have hk256 : x.key < 256 := by omega
    have k0 : cs[off + e * 5]? = some (.int .u8 (x.card : Int)) := hcc 0 _ rfl
    have k1 := hcc 1 _ rfl
    have k2 := hcc 2 _ rfl
    have k3 := hcc 3 _ rfl
    have kw : IntKind.i64.wrap (x.key : Int) = (x.key : Int) := w_i64 (by omega) (by omega)
    have f1 : IntKind.i64.wrap ((x.key : Int).tdiv 16) = ((x.key / 16 : Nat) : Int) := by rw [Int.tdiv_eq_ediv_of_nonneg (by omega), w_i64 (by omega) (by omega)]; omega
    have f2 : IntKind.i64.wrap (97 + ((x.key / 16 : Nat) : Int)) = ((97 + x.key / 16 : Nat) : Int) := by rw [w_i64 (by omega) (by omega)]; omega
    have f3 : IntKind.u8.wrap ((97 + x.key / 16 : Nat) : Int) = ((97 + x.key / 16 : Nat) : Int) := w_u8 (by omega) (by omega)
    have g1 : ((x.key : Int)).tmod 16 = ((x.key % 16 : Nat) : Int) := by rw [Int.tmod_eq_emod_of_nonneg (by omega)]; omega
    have g2 : IntKind.i64.wrap (97 + ((x.key % 16 : Nat) : Int)) = ((97 + x.key % 16 : Nat) : Int) := by rw [w_i64 (by omega) (by omega)]; omega
    have g3 : IntKind.u8.wrap ((97 + x.key % 16 : Nat) : Int) = ((97 + x.key % 16 : Nat) : Int) := w_u8 (by omega) (by omega)
    have kk0 : ((0 : Int) ≤ (x.key : Int)) = True := eq_true (by omega)
    have kk1 : ((x.key : Int) < 256) = True := eq_true (by omega)
    have r2 := hkn.2 x.key hk256
    have r3 := hap.2 x.key hk256
    have r4 := hrv.2 x.key hk256
    have und8 := Try.underlying60
    refine LoopA.intro (by kernel_rfl) ?_
    intro ν fr; have nuE := fr.nu
    have f0' := fr.2 0
    have rdk := rd_b2 (c := 2) (A := (ν 0, Obj.cells #[.int .u8 ((97 + x.key / 16 : Nat) : Int), .int .u8 ((97 + x.key % 16 : Nat) : Int)] 5) :: (b6, (Obj.cells c6 57)) :: (b5, (Obj.cells c5 56)) :: (b4, (Obj.cells c4 55)) :: (b3, (Obj.cells c3 55)) :: (b2, (Obj.cells c2 55)) :: (b1, (Obj.cells c1 54)) :: (b0, (Obj.cells c0 53)) :: (A ++ E)) (g := ν 0) (ty := 5) (fr := (0, 0)) (m := 97 + x.key / 16) (n := 97 + x.key % 16) (by omega) (by omega) (by simp [Vm.look])
    have szK : ((ByteArray.mk #[107]).size + (bs [UInt8.ofNat (97 + x.key / 16), UInt8.ofNat (97 + x.key % 16)]).size ≤ 9223372036854775807) = True := eq_true (by rw [bs_size]; simp [ByteArray.size])
    have nbk := fr.ne (b := bk) (by rw [lbk]; simp)
    have catK : (ByteArray.mk #[107]) ++ bs [UInt8.ofNat (97 + x.key / 16), UInt8.ofNat (97 + x.key % 16)] = bs (keyK x.key) := bs_app [107] _
    cases hbk2 : x.back with
    | true =>
      have kb := hcc 4 _ rfl
      rw [hbk2] at kb
      simp (maxDischargeDepth := 16) only [argE_nil, argE_cons, ↓vmD, vmV, vmStd, Nat.reduceMul, ↓reduceIte, Nat.reduceAdd, Nat.reduceSub, Nat.reduceEqDiff, Nat.reduceLT, Nat.reduceLeDiff, reduceCtorEq, Int.reduceToNat, Int.reduceLT, Int.reduceLE, Int.reduceEq, Int.reduceNeg, Int.reduceBEq, Int.reduceBNe, String.reduceEq, forall_const, ↓vmDA, vmVA, ↓vmQA, vmR, vmRA, ↓vmSA, vmSV, tyS, nuE, SubA.skip, SubA.refl, fr.2, areDigits_v, panSum_v, rdigits_v, rsum_v, panLuhn_v, rLuhn_v, panCheck_v, rCheck_v, calIsDate_v, calDay_v, stLim_v, slIndexByte_v, indexByte_v, indexRune_v, containsRune_v, classOf_v, isWordByte_v, letter_v, digit_v, wordAt_v, rword_v, isName_v, risName_v, awk_v, number_v, lt, lbk, k2, kb, kw, f1, f2, f3, g1, g2, g3, sc_b2, und8, rdk, szK, catK, nbk]
      rcases hI.2 x.key hk256 with ⟨q1, q2, q3, q4⟩ | ⟨i, d, q1, q2, q3, q4, q5, q6⟩
      · have hrX : revX (keyK x.key) (D.map Prod.snd) = (6, D.map Prod.snd) := by unfold revX; rw [q1]
        rw [q2] at r2
        rw [q3] at r3
        rw [q4] at r4
        refine StS.useL (X := cat [[(b6, (Obj.cells (c6) 57))], [(b5, (Obj.cells (c5) 56))], [(b4, (Obj.cells (c4) 55))], [(b3, (Obj.cells (c3) 55))], [(b2, (Obj.cells (c2) 55))], [(b1, (Obj.cells (c1) 54))], [(b0, (Obj.cells (c0) 53))], A]) (reverse_h E sb ([⟨BANK, (ea : Int), (da : Int), (ct : Int)⟩] : List Lim) D hE (keyK x.key)) (SubA.fresh f0' (sp.subs [8] rfl)) (SubA.fresh f0' (sp.subs [0, 1, 2, 3, 4, 5, 6, 7] rfl)) (sp.pick [8, 0, 1, 2, 3, 4, 5, 6, 7] rfl rfl).dis ?_
        rw [hrX]
        intro E1 D1 hE1 hD1 d1
        have sp1 : Sep [[(b6, (Obj.cells (c6) 57))], [(b5, (Obj.cells (c5) 56))], [(b4, (Obj.cells (c4) 55))], [(b3, (Obj.cells (c3) 55))], [(b2, (Obj.cells (c2) 55))], [(b1, (Obj.cells (c1) 54))], [(b0, (Obj.cells (c0) 53))], A, E1] := (Sep.cons d1 (sp.pick [0, 1, 2, 3, 4, 5, 6, 7] rfl rfl)).pick [1, 2, 3, 4, 5, 6, 7, 8, 0] rfl rfl
        have sA1 : SubA A (cat [[(b6, (Obj.cells (c6) 57))], [(b5, (Obj.cells (c5) 56))], [(b4, (Obj.cells (c4) 55))], [(b3, (Obj.cells (c3) 55))], [(b2, (Obj.cells (c2) 55))], [(b1, (Obj.cells (c1) 54))], [(b0, (Obj.cells (c0) 53))], A, E1]) := sp1.subs [7] rfl
        have lbk1 := sA1 _ _ hbk
        simp only [cat, List.cons_append, List.nil_append, List.append_assoc] at lbk1 ⊢
        intro ν2 fr2
        have fr := fr2
        have nuE := fr.nu
        simp (maxDischargeDepth := 16) only [argE_nil, argE_cons, ↓vmD, vmV, vmStd, Nat.reduceMul, ↓reduceIte, Nat.reduceAdd, Nat.reduceSub, Nat.reduceEqDiff, Nat.reduceLT, Nat.reduceLeDiff, reduceCtorEq, Int.reduceToNat, Int.reduceLT, Int.reduceLE, Int.reduceEq, Int.reduceNeg, Int.reduceBEq, Int.reduceBNe, String.reduceEq, forall_const, ↓vmDA, vmVA, ↓vmQA, vmR, vmRA, ↓vmSA, vmSV, tyS, nuE, SubA.skip, SubA.refl, fr.2, areDigits_v, panSum_v, rdigits_v, rsum_v, panLuhn_v, rLuhn_v, panCheck_v, rCheck_v, calIsDate_v, calDay_v, stLim_v, slIndexByte_v, indexByte_v, indexRune_v, containsRune_v, classOf_v, isWordByte_v, letter_v, digit_v, wordAt_v, rword_v, isName_v, risName_v, awk_v, number_v, m65, m64, m63, m62, m61, m60, m54, m53, m52, m51, m50, m43, m42, m41, m40, m32, m31, m30, m21, m20, m10, ixS, ixN, ixB, ixP, ixM, kk0, kk1, r2, r3, r4, Nat.mul_one, Nat.zero_add, we]
        exact LoopA.weak (ih (e := e + 1) (D := D1) (E := E1) (hd := hd') (hle := by omega) (hE := hE1) (hlen := by rw [← List.length_map (f := Prod.snd), hD1]; simp; omega) (hS := hS) (hN := hN) (hkn := hkn) (hap := hap) (hrv := hrv) (hpl := hpl) (ham := ham) (hI := by rw [hD1]; exact hI) (sp := sp1)) (by simp only [subE, get_cons, Nat.reduceEqDiff, ↓reduceIte, reduceCtorEq, Nat.reduceAdd, and_self, and_true]) (SubA.refl _)
      · cases ha : d.app with
        | false =>
          have hrX : revX (keyK x.key) (D.map Prod.snd) = (8, D.map Prod.snd) := by unfold revX; simp only [q1, q2]; rw [if_pos (.inl ha)]
          rw [q3] at r2
          rw [q4, ha] at r3
          refine StS.useL (X := cat [[(b6, (Obj.cells (c6) 57))], [(b5, (Obj.cells (c5) 56))], [(b4, (Obj.cells (c4) 55))], [(b3, (Obj.cells (c3) 55))], [(b2, (Obj.cells (c2) 55))], [(b1, (Obj.cells (c1) 54))], [(b0, (Obj.cells (c0) 53))], A]) (reverse_h E sb ([⟨BANK, (ea : Int), (da : Int), (ct : Int)⟩] : List Lim) D hE (keyK x.key)) (SubA.fresh f0' (sp.subs [8] rfl)) (SubA.fresh f0' (sp.subs [0, 1, 2, 3, 4, 5, 6, 7] rfl)) (sp.pick [8, 0, 1, 2, 3, 4, 5, 6, 7] rfl rfl).dis ?_
          rw [hrX]
          intro E1 D1 hE1 hD1 d1
          have sp1 : Sep [[(b6, (Obj.cells (c6) 57))], [(b5, (Obj.cells (c5) 56))], [(b4, (Obj.cells (c4) 55))], [(b3, (Obj.cells (c3) 55))], [(b2, (Obj.cells (c2) 55))], [(b1, (Obj.cells (c1) 54))], [(b0, (Obj.cells (c0) 53))], A, E1] := (Sep.cons d1 (sp.pick [0, 1, 2, 3, 4, 5, 6, 7] rfl rfl)).pick [1, 2, 3, 4, 5, 6, 7, 8, 0] rfl rfl
          have sA1 : SubA A (cat [[(b6, (Obj.cells (c6) 57))], [(b5, (Obj.cells (c5) 56))], [(b4, (Obj.cells (c4) 55))], [(b3, (Obj.cells (c3) 55))], [(b2, (Obj.cells (c2) 55))], [(b1, (Obj.cells (c1) 54))], [(b0, (Obj.cells (c0) 53))], A, E1]) := sp1.subs [7] rfl
          have lbk1 := sA1 _ _ hbk
          simp only [cat, List.cons_append, List.nil_append, List.append_assoc] at lbk1 ⊢
          intro ν2 fr2
          have fr := fr2
          have nuE := fr.nu
          simp (maxDischargeDepth := 16) only [argE_nil, argE_cons, ↓vmD, vmV, vmStd, Nat.reduceMul, ↓reduceIte, Nat.reduceAdd, Nat.reduceSub, Nat.reduceEqDiff, Nat.reduceLT, Nat.reduceLeDiff, reduceCtorEq, Int.reduceToNat, Int.reduceLT, Int.reduceLE, Int.reduceEq, Int.reduceNeg, Int.reduceBEq, Int.reduceBNe, String.reduceEq, forall_const, ↓vmDA, vmVA, ↓vmQA, vmR, vmRA, ↓vmSA, vmSV, tyS, nuE, SubA.skip, SubA.refl, fr.2, areDigits_v, panSum_v, rdigits_v, rsum_v, panLuhn_v, rLuhn_v, panCheck_v, rCheck_v, calIsDate_v, calDay_v, stLim_v, slIndexByte_v, indexByte_v, indexRune_v, containsRune_v, classOf_v, isWordByte_v, letter_v, digit_v, wordAt_v, rword_v, isName_v, risName_v, awk_v, number_v, m65, m64, m63, m62, m61, m60, m54, m53, m52, m51, m50, m43, m42, m41, m40, m32, m31, m30, m21, m20, m10, ixS, ixN, ixB, ixP, ixM, kk0, kk1, r2, r3, r4, Nat.mul_one, Nat.zero_add, we]
          exact LoopA.weak (ih (e := e + 1) (D := D1) (E := E1) (hd := hd') (hle := by omega) (hE := hE1) (hlen := by rw [← List.length_map (f := Prod.snd), hD1]; simp; omega) (hS := hS) (hN := hN) (hkn := hkn) (hap := hap) (hrv := hrv) (hpl := hpl) (ham := ham) (hI := by rw [hD1]; exact hI) (sp := sp1)) (by simp only [subE, get_cons, Nat.reduceEqDiff, ↓reduceIte, reduceCtorEq, Nat.reduceAdd, and_self, and_true]) (SubA.refl _)
        | true =>
        cases hr : d.rev with
        | true =>
          have hrX : revX (keyK x.key) (D.map Prod.snd) = (8, D.map Prod.snd) := by unfold revX; simp only [q1, q2]; rw [if_pos (.inr hr)]
          rw [q3] at r2
          rw [q4, ha] at r3
          rw [q5, hr] at r4
          refine StS.useL (X := cat [[(b6, (Obj.cells (c6) 57))], [(b5, (Obj.cells (c5) 56))], [(b4, (Obj.cells (c4) 55))], [(b3, (Obj.cells (c3) 55))], [(b2, (Obj.cells (c2) 55))], [(b1, (Obj.cells (c1) 54))], [(b0, (Obj.cells (c0) 53))], A]) (reverse_h E sb ([⟨BANK, (ea : Int), (da : Int), (ct : Int)⟩] : List Lim) D hE (keyK x.key)) (SubA.fresh f0' (sp.subs [8] rfl)) (SubA.fresh f0' (sp.subs [0, 1, 2, 3, 4, 5, 6, 7] rfl)) (sp.pick [8, 0, 1, 2, 3, 4, 5, 6, 7] rfl rfl).dis ?_
          rw [hrX]
          intro E1 D1 hE1 hD1 d1
          have sp1 : Sep [[(b6, (Obj.cells (c6) 57))], [(b5, (Obj.cells (c5) 56))], [(b4, (Obj.cells (c4) 55))], [(b3, (Obj.cells (c3) 55))], [(b2, (Obj.cells (c2) 55))], [(b1, (Obj.cells (c1) 54))], [(b0, (Obj.cells (c0) 53))], A, E1] := (Sep.cons d1 (sp.pick [0, 1, 2, 3, 4, 5, 6, 7] rfl rfl)).pick [1, 2, 3, 4, 5, 6, 7, 8, 0] rfl rfl
          have sA1 : SubA A (cat [[(b6, (Obj.cells (c6) 57))], [(b5, (Obj.cells (c5) 56))], [(b4, (Obj.cells (c4) 55))], [(b3, (Obj.cells (c3) 55))], [(b2, (Obj.cells (c2) 55))], [(b1, (Obj.cells (c1) 54))], [(b0, (Obj.cells (c0) 53))], A, E1]) := sp1.subs [7] rfl
          have lbk1 := sA1 _ _ hbk
          simp only [cat, List.cons_append, List.nil_append, List.append_assoc] at lbk1 ⊢
          intro ν2 fr2
          have fr := fr2
          have nuE := fr.nu
          simp (maxDischargeDepth := 16) only [argE_nil, argE_cons, ↓vmD, vmV, vmStd, Nat.reduceMul, ↓reduceIte, Nat.reduceAdd, Nat.reduceSub, Nat.reduceEqDiff, Nat.reduceLT, Nat.reduceLeDiff, reduceCtorEq, Int.reduceToNat, Int.reduceLT, Int.reduceLE, Int.reduceEq, Int.reduceNeg, Int.reduceBEq, Int.reduceBNe, String.reduceEq, forall_const, ↓vmDA, vmVA, ↓vmQA, vmR, vmRA, ↓vmSA, vmSV, tyS, nuE, SubA.skip, SubA.refl, fr.2, areDigits_v, panSum_v, rdigits_v, rsum_v, panLuhn_v, rLuhn_v, panCheck_v, rCheck_v, calIsDate_v, calDay_v, stLim_v, slIndexByte_v, indexByte_v, indexRune_v, containsRune_v, classOf_v, isWordByte_v, letter_v, digit_v, wordAt_v, rword_v, isName_v, risName_v, awk_v, number_v, m65, m64, m63, m62, m61, m60, m54, m53, m52, m51, m50, m43, m42, m41, m40, m32, m31, m30, m21, m20, m10, ixS, ixN, ixB, ixP, ixM, kk0, kk1, r2, r3, r4, Nat.mul_one, Nat.zero_add, we]
          exact LoopA.weak (ih (e := e + 1) (D := D1) (E := E1) (hd := hd') (hle := by omega) (hE := hE1) (hlen := by rw [← List.length_map (f := Prod.snd), hD1]; simp; omega) (hS := hS) (hN := hN) (hkn := hkn) (hap := hap) (hrv := hrv) (hpl := hpl) (ham := ham) (hI := by rw [hD1]; exact hI) (sp := sp1)) (by simp only [subE, get_cons, Nat.reduceEqDiff, ↓reduceIte, reduceCtorEq, Nat.reduceAdd, and_self, and_true]) (SubA.refl _)
        | false =>
          have hrX : revX (keyK x.key) (D.map Prod.snd) = (0, (D.map Prod.snd).set i { d with rev := true, wai := false }) := by unfold revX; simp only [q1, q2]; rw [if_neg (by rw [ha, hr]; simp)]
          obtain ⟨p16, hI1⟩ := lim_rev hu hI hk256 q1 q2 ha hr
          obtain ⟨_, _, _, pam⟩ := q6 ha
          obtain ⟨u1, u2⟩ := hI.1 (pl x.key) p16
          have am1 := hamt d (List.mem_of_getElem? q2)
          have sm1 := sumD_le (numL (pl x.key % 4)) ((pl x.key / 4 : Nat) : Int) _ hamt
          have cm1 := cntD_le (numL (pl x.key % 4)) ((pl x.key / 4 : Nat) : Int) (D.map Prod.snd)
          rw [q3] at r2
          rw [q4, ha] at r3
          rw [q5, hr] at r4
          have r5 := hpl.2 x.key hk256
          have r6 := ham.2 x.key hk256
          have r0 := hS.2 (pl x.key) p16
          have r1 := hN.2 (pl x.key) p16
          have p0 : ((0 : Int) ≤ (pl x.key : Int)) = True := eq_true (by omega)
          have p1 : ((pl x.key : Int) < 16) = True := eq_true (by omega)
          have ws : IntKind.i64.wrap (S (pl x.key) - am x.key) = S (pl x.key) - am x.key := w_i64 (by omega) (by omega)
          have wn : IntKind.i64.wrap (N (pl x.key) - 1) = N (pl x.key) - 1 := w_i64 (by omega) (by omega)
          have z4 : (x.key + 1 ≤ c4.size) = True := eq_true (by rw [hrv.1]; omega)
          have z0 : (pl x.key + 1 ≤ c0.size) = True := eq_true (by rw [hS.1]; omega)
          have z1 : (pl x.key + 1 ≤ c1.size) = True := eq_true (by rw [hN.1]; omega)
          refine StS.useL (X := cat [[(b6, (Obj.cells (c6) 57))], [(b5, (Obj.cells (c5) 56))], [(b4, (Obj.cells (c4) 55))], [(b3, (Obj.cells (c3) 55))], [(b2, (Obj.cells (c2) 55))], [(b1, (Obj.cells (c1) 54))], [(b0, (Obj.cells (c0) 53))], A]) (reverse_h E sb ([⟨BANK, (ea : Int), (da : Int), (ct : Int)⟩] : List Lim) D hE (keyK x.key)) (SubA.fresh f0' (sp.subs [8] rfl)) (SubA.fresh f0' (sp.subs [0, 1, 2, 3, 4, 5, 6, 7] rfl)) (sp.pick [8, 0, 1, 2, 3, 4, 5, 6, 7] rfl rfl).dis ?_
          rw [hrX]
          intro E1 D1 hE1 hD1 d1
          have sp1 : Sep [[(b6, (Obj.cells (c6) 57))], [(b5, (Obj.cells (c5) 56))], [(b4, (Obj.cells (c4) 55))], [(b3, (Obj.cells (c3) 55))], [(b2, (Obj.cells (c2) 55))], [(b1, (Obj.cells (c1) 54))], [(b0, (Obj.cells (c0) 53))], A, E1] := (Sep.cons d1 (sp.pick [0, 1, 2, 3, 4, 5, 6, 7] rfl rfl)).pick [1, 2, 3, 4, 5, 6, 7, 8, 0] rfl rfl
          have sA1 : SubA A (cat [[(b6, (Obj.cells (c6) 57))], [(b5, (Obj.cells (c5) 56))], [(b4, (Obj.cells (c4) 55))], [(b3, (Obj.cells (c3) 55))], [(b2, (Obj.cells (c2) 55))], [(b1, (Obj.cells (c1) 54))], [(b0, (Obj.cells (c0) 53))], A, E1]) := sp1.subs [7] rfl
          have lbk1 := sA1 _ _ hbk
          simp only [cat, List.cons_append, List.nil_append, List.append_assoc] at lbk1 ⊢
          intro ν2 fr2
          have fr := fr2
          have nuE := fr.nu
          have sp2 : Sep [[(b6, (Obj.cells (c6) 57))], [(b5, (Obj.cells (c5) 56))], [(b4, (Obj.cells (c4.setIfInBounds x.key (.bool true)) 55))], [(b3, (Obj.cells (c3) 55))], [(b2, (Obj.cells (c2) 55))], [(b1, (Obj.cells (c1.setIfInBounds (pl x.key) (.int .i64 (N (pl x.key) - 1))) 54))], [(b0, (Obj.cells (c0.setIfInBounds (pl x.key) (.int .i64 (S (pl x.key) - am x.key))) 53))], A, E1] := Sep.set (l := [[(b6, (Obj.cells (c6) 57))], [(b5, (Obj.cells (c5) 56))], [(b4, (Obj.cells (c4.setIfInBounds x.key (.bool true)) 55))], [(b3, (Obj.cells (c3) 55))], [(b2, (Obj.cells (c2) 55))], [(b1, (Obj.cells (c1) 54))], [(b0, (Obj.cells (c0.setIfInBounds (pl x.key) (.int .i64 (S (pl x.key) - am x.key))) 53))], A, E1]) 5 [(b1, (Obj.cells (c1.setIfInBounds (pl x.key) (.int .i64 (N (pl x.key) - 1))) 54))] (Sep.set (l := [[(b6, (Obj.cells (c6) 57))], [(b5, (Obj.cells (c5) 56))], [(b4, (Obj.cells (c4.setIfInBounds x.key (.bool true)) 55))], [(b3, (Obj.cells (c3) 55))], [(b2, (Obj.cells (c2) 55))], [(b1, (Obj.cells (c1) 54))], [(b0, (Obj.cells (c0) 53))], A, E1]) 6 [(b0, (Obj.cells (c0.setIfInBounds (pl x.key) (.int .i64 (S (pl x.key) - am x.key))) 53))] (Sep.set (l := [[(b6, (Obj.cells (c6) 57))], [(b5, (Obj.cells (c5) 56))], [(b4, (Obj.cells (c4) 55))], [(b3, (Obj.cells (c3) 55))], [(b2, (Obj.cells (c2) 55))], [(b1, (Obj.cells (c1) 54))], [(b0, (Obj.cells (c0) 53))], A, E1]) 2 [(b4, (Obj.cells (c4.setIfInBounds x.key (.bool true)) 55))] (sp1) one_less) one_less) one_less
          simp (maxDischargeDepth := 16) only [argE_nil, argE_cons, ↓vmD, vmV, vmStd, Nat.reduceMul, ↓reduceIte, Nat.reduceAdd, Nat.reduceSub, Nat.reduceEqDiff, Nat.reduceLT, Nat.reduceLeDiff, reduceCtorEq, Int.reduceToNat, Int.reduceLT, Int.reduceLE, Int.reduceEq, Int.reduceNeg, Int.reduceBEq, Int.reduceBNe, String.reduceEq, forall_const, ↓vmDA, vmVA, ↓vmQA, vmR, vmRA, ↓vmSA, vmSV, tyS, nuE, SubA.skip, SubA.refl, fr.2, areDigits_v, panSum_v, rdigits_v, rsum_v, panLuhn_v, rLuhn_v, panCheck_v, rCheck_v, calIsDate_v, calDay_v, stLim_v, slIndexByte_v, indexByte_v, indexRune_v, containsRune_v, classOf_v, isWordByte_v, letter_v, digit_v, wordAt_v, rword_v, isName_v, risName_v, awk_v, number_v, m65, m64, m63, m62, m61, m60, m54, m53, m52, m51, m50, m43, m42, m41, m40, m32, m31, m30, m21, m20, m10, ixS, ixN, ixB, ixP, ixM, kk0, kk1, r2, r3, r4, r5, r6, r0, r1, p0, p1, ws, wn, z4, z0, z1, Nat.mul_one, Nat.zero_add, we]
          exact LoopA.weak (ih (e := e + 1) (D := D1) (E := E1) (hd := hd') (hle := by omega) (hE := hE1) (hlen := by rw [← List.length_map (f := Prod.snd), hD1]; simp; omega) (hS := hS.set p16 _) (hN := hN.set p16 _) (hkn := hkn) (hap := hap) (hrv := hrv.set hk256 true) (hpl := hpl) (ham := ham) (hI := by rw [hD1]; exact hI1) (sp := sp2)) (by simp only [subE, get_cons, Nat.reduceEqDiff, ↓reduceIte, reduceCtorEq, Nat.reduceAdd, and_self, and_true]) (SubA.refl _)
    | false =>
      have kb := hcc 4 _ rfl
      rw [hbk2] at kb
      obtain ⟨P, hP⟩ : ∃ P, P = 4 * (x.date % 4) + x.card % 4 := ⟨_, rfl⟩
      have hP16 : P < 16 := by omega
      have tD : ((x.date : Int)).tmod 4 = ((x.date % 4 : Nat) : Int) := by rw [Int.tmod_eq_emod_of_nonneg (by omega)]; omega
      have tC : ((x.card : Int)).tmod 4 = ((x.card % 4 : Nat) : Int) := by rw [Int.tmod_eq_emod_of_nonneg (by omega)]; omega
      have wD : IntKind.i64.wrap ((x.date % 4 : Nat) : Int) = ((x.date % 4 : Nat) : Int) := w_i64 (by omega) (by omega)
      have wC : IntKind.i64.wrap ((x.card % 4 : Nat) : Int) = ((x.card % 4 : Nat) : Int) := w_i64 (by omega) (by omega)
      have wP1 : IntKind.i64.wrap (4 * ((x.date % 4 : Nat) : Int)) = ((4 * (x.date % 4) : Nat) : Int) := by rw [w_i64 (by omega) (by omega)]; omega
      have wP2 : IntKind.i64.wrap (((4 * (x.date % 4) : Nat) : Int) + ((x.card % 4 : Nat) : Int)) = (P : Int) := by rw [w_i64 (by omega) (by omega)]; omega
      have wA : IntKind.i64.wrap (x.amt : Int) = (x.amt : Int) := w_i64 (by omega) (by omega)
      have wA2 : IntKind.i64.wrap (1 + (x.amt : Int)) = ((1 + x.amt : Nat) : Int) := by rw [w_i64 (by omega) (by omega)]; omega
      have wT1 : IntKind.i64.wrap (86400 * ((x.date % 4 : Nat) : Int)) = ((86400 * (x.date % 4) : Nat) : Int) := by rw [w_i64 (by omega) (by omega)]; omega
      have wT2 : IntKind.i64.wrap (((86400 * (x.date % 4) : Nat) : Int) + (e : Int)) = ((86400 * (x.date % 4) + e : Nat) : Int) := by rw [w_i64 (by omega) (by omega)]; omega
      have nvc := fun A => number_v x.card A
      simp (maxDischargeDepth := 16) only [argE_nil, argE_cons, ↓vmD, vmV, vmStd, Nat.reduceMul, ↓reduceIte, Nat.reduceAdd, Nat.reduceSub, Nat.reduceEqDiff, Nat.reduceLT, Nat.reduceLeDiff, reduceCtorEq, Int.reduceToNat, Int.reduceLT, Int.reduceLE, Int.reduceEq, Int.reduceNeg, Int.reduceBEq, Int.reduceBNe, String.reduceEq, forall_const, ↓vmDA, vmVA, ↓vmQA, vmR, vmRA, ↓vmSA, vmSV, tyS, nuE, SubA.skip, SubA.refl, fr.2, areDigits_v, panSum_v, rdigits_v, rsum_v, panLuhn_v, rLuhn_v, panCheck_v, rCheck_v, calIsDate_v, calDay_v, stLim_v, slIndexByte_v, indexByte_v, indexRune_v, containsRune_v, classOf_v, isWordByte_v, letter_v, digit_v, wordAt_v, rword_v, isName_v, risName_v, awk_v, number_v, lt, lbk, k0, k1, k2, k3, kb, kw, f1, f2, f3, g1, g2, g3, sc_b2, und8, rdk, szK, catK, nbk, tD, tC, wD, wC, wP1, wP2, wA, wA2, wT1, wT2, nvc]
      have hdt : dayD ((86400 * (x.date % 4) + e : Nat) : Int) = ((P / 4 : Nat) : Int) := by
        unfold dayD
        rw [if_pos (by omega)]
        omega
      have hc2 : numL (x.card % 4) = numL (P % 4) := by congr 1; omega
      have hde : decE ((86400 * (x.date % 4) + e : Nat) : Int) (keyK x.key) (numL (x.card % 4)) ((1 + x.amt : Nat) : Int) = 0 := by
        unfold decE
        rw [hdt, if_neg (by omega), if_neg (by simp [keyK]), if_neg (fun h => h (numL_chk _ (by omega))), if_neg (by omega)]
      have hDl : (D.map Prod.snd).length ≤ e := by rw [List.length_map]; exact hlen
      obtain ⟨u1, u2⟩ := hI.1 P hP16
      have sm1 := sumD_le (numL (P % 4)) ((P / 4 : Nat) : Int) _ hamt
      have cm1 := cntD_le (numL (P % 4)) ((P / 4 : Nat) : Int) (D.map Prod.snd)
      have p0 : ((0 : Int) ≤ (P : Int)) = True := eq_true (by omega)
      have p1 : ((P : Int) < 16) = True := eq_true (by omega)
      have r0 := hS.2 P hP16
      have r1 := hN.2 P hP16
      have wS : IntKind.i64.wrap (S P + ((1 + x.amt : Nat) : Int)) = S P + ((1 + x.amt : Nat) : Int) := w_i64 (by omega) (by omega)
      have wN : IntKind.i64.wrap (N P + 1) = N P + 1 := w_i64 (by omega) (by omega)
      have z2 : (x.key + 1 ≤ c2.size) = True := eq_true (by rw [hkn.1]; omega)
      have z3 : (x.key + 1 ≤ c3.size) = True := eq_true (by rw [hap.1]; omega)
      have z5 : (x.key + 1 ≤ c5.size) = True := eq_true (by rw [hpl.1]; omega)
      have z6 : (x.key + 1 ≤ c6.size) = True := eq_true (by rw [ham.1]; omega)
      have z0 : (P + 1 ≤ c0.size) = True := eq_true (by rw [hS.1]; omega)
      have z1 : (P + 1 ≤ c1.size) = True := eq_true (by rw [hN.1]; omega)
      have r3T : (c3.setIfInBounds x.key (.bool true))[x.key]? = some (.bool true) := by have := (hap.set hk256 true).2 x.key hk256; rwa [upF_self] at this
      have r3F : (c3.setIfInBounds x.key (.bool false))[x.key]? = some (.bool false) := by have := (hap.set hk256 false).2 x.key hk256; rwa [upF_self] at this
      rcases hI.2 x.key hk256 with ⟨q1, q2, q3, q4⟩ | ⟨i, d, q1, q2, q3, q4, q5, q6⟩
      · have hdx : decX ([⟨BANK, (ea : Int), (da : Int), (ct : Int)⟩] : List Lim) (D.map Prod.snd) ((86400 * (x.date % 4) + e : Nat) : Int) (keyK x.key) BANK (numL (x.card % 4)) ((1 + x.amt : Nat) : Int) = ((permD ([⟨BANK, (ea : Int), (da : Int), (ct : Int)⟩] : List Lim) (D.map Prod.snd) BANK (numL (x.card % 4)) ((1 + x.amt : Nat) : Int) (dayD ((86400 * (x.date % 4) + e : Nat) : Int)), 0), D.map Prod.snd ++ [newD ([⟨BANK, (ea : Int), (da : Int), (ct : Int)⟩] : List Lim) (D.map Prod.snd) ((86400 * (x.date % 4) + e : Nat) : Int) (keyK x.key) BANK (numL (x.card % 4)) ((1 + x.amt : Nat) : Int)]) := by
          unfold decX; rw [if_neg (fun h => h hde)]; simp only [q1]; rw [if_neg (by omega)]
        have hpm : permD ([⟨BANK, (ea : Int), (da : Int), (ct : Int)⟩] : List Lim) (D.map Prod.snd) BANK (numL (x.card % 4)) ((1 + x.amt : Nat) : Int) (dayD ((86400 * (x.date % 4) + e : Nat) : Int)) = (decide (((1 + x.amt : Nat) : Int) ≤ (ea : Int)) && (decide (S P + ((1 + x.amt : Nat) : Int) ≤ (da : Int)) && decide (N P + 1 ≤ (ct : Int)))) := by
          rw [permD_bank, hdt, hc2, u1, u2]
        rw [q2] at r2
        by_cases a1 : ((1 + x.amt : Nat) : Int) ≤ (ea : Int)
        rotate_left
        · have hpmv : permD ([⟨BANK, (ea : Int), (da : Int), (ct : Int)⟩] : List Lim) (D.map Prod.snd) BANK (numL (x.card % 4)) ((1 + x.amt : Nat) : Int) (dayD ((86400 * (x.date % 4) + e : Nat) : Int)) = false := by rw [hpm]; simp only [a1, decide_false, Bool.false_and]
          rw [hpmv] at hdx
          have hI1 := (lim_add hI hk256 hP16 q1 (d := newD ([⟨BANK, (ea : Int), (da : Int), (ct : Int)⟩] : List Lim) (D.map Prod.snd) ((86400 * (x.date % 4) + e : Nat) : Int) (keyK x.key) BANK (numL (x.card % 4)) ((1 + x.amt : Nat) : Int)) rfl hc2 hdt rfl).2 hpmv
          refine StS.useL (X := cat [[(b6, (Obj.cells (c6) 57))], [(b5, (Obj.cells (c5) 56))], [(b4, (Obj.cells (c4) 55))], [(b3, (Obj.cells (c3) 55))], [(b2, (Obj.cells (c2) 55))], [(b1, (Obj.cells (c1) 54))], [(b0, (Obj.cells (c0) 53))], A]) (decide_h E sb ([⟨BANK, (ea : Int), (da : Int), (ct : Int)⟩] : List Lim) D hE ((86400 * (x.date % 4) + e : Nat) : Int) (keyK x.key) BANK (numL (x.card % 4)) ((1 + x.amt : Nat) : Int) (numL_len _)) (SubA.fresh f0' (sp.subs [8] rfl)) (SubA.fresh f0' (sp.subs [0, 1, 2, 3, 4, 5, 6, 7] rfl)) (sp.pick [8, 0, 1, 2, 3, 4, 5, 6, 7] rfl rfl).dis ?_
          rw [hdx]
          intro E1 D1 hE1 hD1 d1
          have sp1 : Sep [[(b6, (Obj.cells (c6) 57))], [(b5, (Obj.cells (c5) 56))], [(b4, (Obj.cells (c4) 55))], [(b3, (Obj.cells (c3) 55))], [(b2, (Obj.cells (c2) 55))], [(b1, (Obj.cells (c1) 54))], [(b0, (Obj.cells (c0) 53))], A, E1] := (Sep.cons d1 (sp.pick [0, 1, 2, 3, 4, 5, 6, 7] rfl rfl)).pick [1, 2, 3, 4, 5, 6, 7, 8, 0] rfl rfl
          have sA1 : SubA A (cat [[(b6, (Obj.cells (c6) 57))], [(b5, (Obj.cells (c5) 56))], [(b4, (Obj.cells (c4) 55))], [(b3, (Obj.cells (c3) 55))], [(b2, (Obj.cells (c2) 55))], [(b1, (Obj.cells (c1) 54))], [(b0, (Obj.cells (c0) 53))], A, E1]) := sp1.subs [7] rfl
          have lbk1 := sA1 _ _ hbk
          simp only [cat, List.cons_append, List.nil_append, List.append_assoc] at lbk1 ⊢
          intro ν2 fr2
          have fr := fr2
          have nuE := fr.nu
          have sp2 : Sep [[(b6, (Obj.cells (c6) 57))], [(b5, (Obj.cells (c5) 56))], [(b4, (Obj.cells (c4) 55))], [(b3, (Obj.cells (c3.setIfInBounds x.key (.bool false)) 55))], [(b2, (Obj.cells (c2.setIfInBounds x.key (.bool true)) 55))], [(b1, (Obj.cells (c1) 54))], [(b0, (Obj.cells (c0) 53))], A, E1] := Sep.set (l := [[(b6, (Obj.cells (c6) 57))], [(b5, (Obj.cells (c5) 56))], [(b4, (Obj.cells (c4) 55))], [(b3, (Obj.cells (c3) 55))], [(b2, (Obj.cells (c2.setIfInBounds x.key (.bool true)) 55))], [(b1, (Obj.cells (c1) 54))], [(b0, (Obj.cells (c0) 53))], A, E1]) 3 [(b3, (Obj.cells (c3.setIfInBounds x.key (.bool false)) 55))] (Sep.set (l := [[(b6, (Obj.cells (c6) 57))], [(b5, (Obj.cells (c5) 56))], [(b4, (Obj.cells (c4) 55))], [(b3, (Obj.cells (c3) 55))], [(b2, (Obj.cells (c2) 55))], [(b1, (Obj.cells (c1) 54))], [(b0, (Obj.cells (c0) 53))], A, E1]) 4 [(b2, (Obj.cells (c2.setIfInBounds x.key (.bool true)) 55))] (sp1) one_less) one_less
          simp (maxDischargeDepth := 16) only [argE_nil, argE_cons, ↓vmD, vmV, vmStd, Nat.reduceMul, ↓reduceIte, Nat.reduceAdd, Nat.reduceSub, Nat.reduceEqDiff, Nat.reduceLT, Nat.reduceLeDiff, reduceCtorEq, Int.reduceToNat, Int.reduceLT, Int.reduceLE, Int.reduceEq, Int.reduceNeg, Int.reduceBEq, Int.reduceBNe, String.reduceEq, forall_const, ↓vmDA, vmVA, ↓vmQA, vmR, vmRA, ↓vmSA, vmSV, tyS, nuE, SubA.skip, SubA.refl, fr.2, areDigits_v, panSum_v, rdigits_v, rsum_v, panLuhn_v, rLuhn_v, panCheck_v, rCheck_v, calIsDate_v, calDay_v, stLim_v, slIndexByte_v, indexByte_v, indexRune_v, containsRune_v, classOf_v, isWordByte_v, letter_v, digit_v, wordAt_v, rword_v, isName_v, risName_v, awk_v, number_v, m65, m64, m63, m62, m61, m60, m54, m53, m52, m51, m50, m43, m42, m41, m40, m32, m31, m30, m21, m20, m10, ixS, ixN, ixB, ixP, ixM, kk0, kk1, p0, p1, r2, r3, r0, r1, r3T, r3F, w1, w2, w3, wS, wN, z2, z3, z5, z6, z0, z1, Nat.mul_one, Nat.zero_add, bne_self_eq_false, a1]
          obtain ⟨j, hj, hj16⟩ : ∃ j : Nat, j = 0 ∧ j ≤ 16 := ⟨0, rfl, by omega⟩
          rw [show (28, some (Value.int .i64 0)) = (28, some (Value.int .i64 (j : Int))) by rw [hj]; rfl]
          obtain ⟨r, hr⟩ : ∃ r, r + j = 16 := ⟨16, by omega⟩
          clear hj nuE fr
          induction r generalizing j with
          | zero =>
            have jl : ((j : Int) < 16) = False := eq_false (by omega)
            refine LoopA.intro (by kernel_rfl) ?_
            intro ν fr; have nuE := fr.nu
            simp (maxDischargeDepth := 16) only [argE_nil, argE_cons, ↓vmD, vmV, vmStd, Nat.reduceMul, ↓reduceIte, Nat.reduceAdd, Nat.reduceSub, Nat.reduceEqDiff, Nat.reduceLT, Nat.reduceLeDiff, reduceCtorEq, Int.reduceToNat, Int.reduceLT, Int.reduceLE, Int.reduceEq, Int.reduceNeg, Int.reduceBEq, Int.reduceBNe, String.reduceEq, forall_const, ↓vmDA, vmVA, ↓vmQA, vmR, vmRA, ↓vmSA, vmSV, tyS, nuE, SubA.skip, SubA.refl, fr.2, areDigits_v, panSum_v, rdigits_v, rsum_v, panLuhn_v, rLuhn_v, panCheck_v, rCheck_v, calIsDate_v, calDay_v, stLim_v, slIndexByte_v, indexByte_v, indexRune_v, containsRune_v, classOf_v, isWordByte_v, letter_v, digit_v, wordAt_v, rword_v, isName_v, risName_v, awk_v, number_v, jl, we]
            exact LoopA.weak (ih (e := e + 1) (D := D1) (E := E1) (hd := hd') (hle := by omega) (hE := hE1) (hlen := by rw [← List.length_map (f := Prod.snd), hD1]; simp; omega) (hS := hS) (hN := hN) (hkn := (hkn.set hk256 true)) (hap := (hap.set hk256 false)) (hrv := hrv) (hpl := hpl) (ham := ham) (hI := by rw [hD1]; exact hI1) (sp := sp2)) (by simp only [subE, get_cons, Nat.reduceEqDiff, ↓reduceIte, reduceCtorEq, Nat.reduceAdd, and_self, and_true]) (SubA.refl _)
          | succ r ihr =>
            have jl : ((j : Int) < 16) = True := eq_true (by omega)
            have jt : ((j : Int)).tmod 4 = ((j % 4 : Nat) : Int) := by rw [Int.tmod_eq_emod_of_nonneg (by omega)]; omega
            have jd : ((j : Int)).tdiv 4 = ((j / 4 : Nat) : Int) := by rw [Int.tdiv_eq_ediv_of_nonneg (by omega)]; omega
            have jw1 : IntKind.i64.wrap ((j / 4 : Nat) : Int) = ((j / 4 : Nat) : Int) := w_i64 (by omega) (by omega)
            have jw2 : IntKind.u8.wrap ((j % 4 : Nat) : Int) = ((j % 4 : Nat) : Int) := w_u8 (by omega) (by omega)
            have jw3 : IntKind.i64.wrap ((j % 4 : Nat) : Int) = ((j % 4 : Nat) : Int) := w_i64 (by omega) (by omega)
            have jw : IntKind.i64.wrap ((j : Int) + 1) = ((j + 1 : Nat) : Int) := by rw [w_i64 (by omega) (by omega)]; omega
            obtain ⟨u1, u2⟩ := hI1.1 j (by omega)
            have uv := used_w E1 sb ([⟨BANK, (ea : Int), (da : Int), (ct : Int)⟩] : List Lim) D1 hE1 (numL (j % 4)) ((j / 4 : Nat) : Int) _ (sp2.subs [8] rfl)
            rw [hD1, ← u1, ← u2] at uv
            have nv := fun A => number_v (j % 4) A
            rw [Nat.mod_mod] at nv
            have j0 := (hS).2 j (by omega)
            have j1 := (hN).2 j (by omega)
            have jj : ((j : Int) < 16) = True := jl
            have j00 : ((0 : Int) ≤ (j : Int)) = True := eq_true (by omega)
            simp only [cat, pick, at_, List.cons_append, List.nil_append] at uv
            refine LoopA.intro (by kernel_rfl) ?_
            intro ν fr; have nuE := fr.nu
            simp (maxDischargeDepth := 16) only [argE_nil, argE_cons, ↓vmD, vmV, vmStd, Nat.reduceMul, ↓reduceIte, Nat.reduceAdd, Nat.reduceSub, Nat.reduceEqDiff, Nat.reduceLT, Nat.reduceLeDiff, reduceCtorEq, Int.reduceToNat, Int.reduceLT, Int.reduceLE, Int.reduceEq, Int.reduceNeg, Int.reduceBEq, Int.reduceBNe, String.reduceEq, forall_const, ↓vmDA, vmVA, ↓vmQA, vmR, vmRA, ↓vmSA, vmSV, tyS, nuE, SubA.skip, SubA.refl, fr.2, areDigits_v, panSum_v, rdigits_v, rsum_v, panLuhn_v, rLuhn_v, panCheck_v, rCheck_v, calIsDate_v, calDay_v, stLim_v, slIndexByte_v, indexByte_v, indexRune_v, containsRune_v, classOf_v, isWordByte_v, letter_v, digit_v, wordAt_v, rword_v, isName_v, risName_v, awk_v, number_v, jl, jt, jd, jw1, jw2, jw3, nv, uv, m65, m64, m63, m62, m61, m60, m54, m53, m52, m51, m50, m43, m42, m41, m40, m32, m31, m30, m21, m20, m10, ixS, ixN, ixB, ixP, ixM, j00, j0, j1, bne_self_eq_false, jw, Nat.mul_one, Nat.zero_add]
            exact LoopA.weak (ihr (j + 1) (by omega) (by omega)) (by simp only [subE, get_cons, Nat.reduceEqDiff, ↓reduceIte, reduceCtorEq, Nat.reduceAdd, and_self, and_true]) (SubA.refl _)
        by_cases a2 : S P + ((1 + x.amt : Nat) : Int) ≤ (da : Int)
        rotate_left
        · have hpmv : permD ([⟨BANK, (ea : Int), (da : Int), (ct : Int)⟩] : List Lim) (D.map Prod.snd) BANK (numL (x.card % 4)) ((1 + x.amt : Nat) : Int) (dayD ((86400 * (x.date % 4) + e : Nat) : Int)) = false := by rw [hpm]; simp only [a2, decide_false, Bool.false_and, Bool.and_false]
          rw [hpmv] at hdx
          have hI1 := (lim_add hI hk256 hP16 q1 (d := newD ([⟨BANK, (ea : Int), (da : Int), (ct : Int)⟩] : List Lim) (D.map Prod.snd) ((86400 * (x.date % 4) + e : Nat) : Int) (keyK x.key) BANK (numL (x.card % 4)) ((1 + x.amt : Nat) : Int)) rfl hc2 hdt rfl).2 hpmv
          refine StS.useL (X := cat [[(b6, (Obj.cells (c6) 57))], [(b5, (Obj.cells (c5) 56))], [(b4, (Obj.cells (c4) 55))], [(b3, (Obj.cells (c3) 55))], [(b2, (Obj.cells (c2) 55))], [(b1, (Obj.cells (c1) 54))], [(b0, (Obj.cells (c0) 53))], A]) (decide_h E sb ([⟨BANK, (ea : Int), (da : Int), (ct : Int)⟩] : List Lim) D hE ((86400 * (x.date % 4) + e : Nat) : Int) (keyK x.key) BANK (numL (x.card % 4)) ((1 + x.amt : Nat) : Int) (numL_len _)) (SubA.fresh f0' (sp.subs [8] rfl)) (SubA.fresh f0' (sp.subs [0, 1, 2, 3, 4, 5, 6, 7] rfl)) (sp.pick [8, 0, 1, 2, 3, 4, 5, 6, 7] rfl rfl).dis ?_
          rw [hdx]
          intro E1 D1 hE1 hD1 d1
          have sp1 : Sep [[(b6, (Obj.cells (c6) 57))], [(b5, (Obj.cells (c5) 56))], [(b4, (Obj.cells (c4) 55))], [(b3, (Obj.cells (c3) 55))], [(b2, (Obj.cells (c2) 55))], [(b1, (Obj.cells (c1) 54))], [(b0, (Obj.cells (c0) 53))], A, E1] := (Sep.cons d1 (sp.pick [0, 1, 2, 3, 4, 5, 6, 7] rfl rfl)).pick [1, 2, 3, 4, 5, 6, 7, 8, 0] rfl rfl
          have sA1 : SubA A (cat [[(b6, (Obj.cells (c6) 57))], [(b5, (Obj.cells (c5) 56))], [(b4, (Obj.cells (c4) 55))], [(b3, (Obj.cells (c3) 55))], [(b2, (Obj.cells (c2) 55))], [(b1, (Obj.cells (c1) 54))], [(b0, (Obj.cells (c0) 53))], A, E1]) := sp1.subs [7] rfl
          have lbk1 := sA1 _ _ hbk
          simp only [cat, List.cons_append, List.nil_append, List.append_assoc] at lbk1 ⊢
          intro ν2 fr2
          have fr := fr2
          have nuE := fr.nu
          have sp2 : Sep [[(b6, (Obj.cells (c6) 57))], [(b5, (Obj.cells (c5) 56))], [(b4, (Obj.cells (c4) 55))], [(b3, (Obj.cells (c3.setIfInBounds x.key (.bool false)) 55))], [(b2, (Obj.cells (c2.setIfInBounds x.key (.bool true)) 55))], [(b1, (Obj.cells (c1) 54))], [(b0, (Obj.cells (c0) 53))], A, E1] := Sep.set (l := [[(b6, (Obj.cells (c6) 57))], [(b5, (Obj.cells (c5) 56))], [(b4, (Obj.cells (c4) 55))], [(b3, (Obj.cells (c3) 55))], [(b2, (Obj.cells (c2.setIfInBounds x.key (.bool true)) 55))], [(b1, (Obj.cells (c1) 54))], [(b0, (Obj.cells (c0) 53))], A, E1]) 3 [(b3, (Obj.cells (c3.setIfInBounds x.key (.bool false)) 55))] (Sep.set (l := [[(b6, (Obj.cells (c6) 57))], [(b5, (Obj.cells (c5) 56))], [(b4, (Obj.cells (c4) 55))], [(b3, (Obj.cells (c3) 55))], [(b2, (Obj.cells (c2) 55))], [(b1, (Obj.cells (c1) 54))], [(b0, (Obj.cells (c0) 53))], A, E1]) 4 [(b2, (Obj.cells (c2.setIfInBounds x.key (.bool true)) 55))] (sp1) one_less) one_less
          simp (maxDischargeDepth := 16) only [argE_nil, argE_cons, ↓vmD, vmV, vmStd, Nat.reduceMul, ↓reduceIte, Nat.reduceAdd, Nat.reduceSub, Nat.reduceEqDiff, Nat.reduceLT, Nat.reduceLeDiff, reduceCtorEq, Int.reduceToNat, Int.reduceLT, Int.reduceLE, Int.reduceEq, Int.reduceNeg, Int.reduceBEq, Int.reduceBNe, String.reduceEq, forall_const, ↓vmDA, vmVA, ↓vmQA, vmR, vmRA, ↓vmSA, vmSV, tyS, nuE, SubA.skip, SubA.refl, fr.2, areDigits_v, panSum_v, rdigits_v, rsum_v, panLuhn_v, rLuhn_v, panCheck_v, rCheck_v, calIsDate_v, calDay_v, stLim_v, slIndexByte_v, indexByte_v, indexRune_v, containsRune_v, classOf_v, isWordByte_v, letter_v, digit_v, wordAt_v, rword_v, isName_v, risName_v, awk_v, number_v, m65, m64, m63, m62, m61, m60, m54, m53, m52, m51, m50, m43, m42, m41, m40, m32, m31, m30, m21, m20, m10, ixS, ixN, ixB, ixP, ixM, kk0, kk1, p0, p1, r2, r3, r0, r1, r3T, r3F, w1, w2, w3, wS, wN, z2, z3, z5, z6, z0, z1, Nat.mul_one, Nat.zero_add, bne_self_eq_false, a1, a2]
          obtain ⟨j, hj, hj16⟩ : ∃ j : Nat, j = 0 ∧ j ≤ 16 := ⟨0, rfl, by omega⟩
          rw [show (28, some (Value.int .i64 0)) = (28, some (Value.int .i64 (j : Int))) by rw [hj]; rfl]
          obtain ⟨r, hr⟩ : ∃ r, r + j = 16 := ⟨16, by omega⟩
          clear hj nuE fr
          induction r generalizing j with
          | zero =>
            have jl : ((j : Int) < 16) = False := eq_false (by omega)
            refine LoopA.intro (by kernel_rfl) ?_
            intro ν fr; have nuE := fr.nu
            simp (maxDischargeDepth := 16) only [argE_nil, argE_cons, ↓vmD, vmV, vmStd, Nat.reduceMul, ↓reduceIte, Nat.reduceAdd, Nat.reduceSub, Nat.reduceEqDiff, Nat.reduceLT, Nat.reduceLeDiff, reduceCtorEq, Int.reduceToNat, Int.reduceLT, Int.reduceLE, Int.reduceEq, Int.reduceNeg, Int.reduceBEq, Int.reduceBNe, String.reduceEq, forall_const, ↓vmDA, vmVA, ↓vmQA, vmR, vmRA, ↓vmSA, vmSV, tyS, nuE, SubA.skip, SubA.refl, fr.2, areDigits_v, panSum_v, rdigits_v, rsum_v, panLuhn_v, rLuhn_v, panCheck_v, rCheck_v, calIsDate_v, calDay_v, stLim_v, slIndexByte_v, indexByte_v, indexRune_v, containsRune_v, classOf_v, isWordByte_v, letter_v, digit_v, wordAt_v, rword_v, isName_v, risName_v, awk_v, number_v, jl, we]
            exact LoopA.weak (ih (e := e + 1) (D := D1) (E := E1) (hd := hd') (hle := by omega) (hE := hE1) (hlen := by rw [← List.length_map (f := Prod.snd), hD1]; simp; omega) (hS := hS) (hN := hN) (hkn := (hkn.set hk256 true)) (hap := (hap.set hk256 false)) (hrv := hrv) (hpl := hpl) (ham := ham) (hI := by rw [hD1]; exact hI1) (sp := sp2)) (by simp only [subE, get_cons, Nat.reduceEqDiff, ↓reduceIte, reduceCtorEq, Nat.reduceAdd, and_self, and_true]) (SubA.refl _)
          | succ r ihr =>
            have jl : ((j : Int) < 16) = True := eq_true (by omega)
            have jt : ((j : Int)).tmod 4 = ((j % 4 : Nat) : Int) := by rw [Int.tmod_eq_emod_of_nonneg (by omega)]; omega
            have jd : ((j : Int)).tdiv 4 = ((j / 4 : Nat) : Int) := by rw [Int.tdiv_eq_ediv_of_nonneg (by omega)]; omega
            have jw1 : IntKind.i64.wrap ((j / 4 : Nat) : Int) = ((j / 4 : Nat) : Int) := w_i64 (by omega) (by omega)
            have jw2 : IntKind.u8.wrap ((j % 4 : Nat) : Int) = ((j % 4 : Nat) : Int) := w_u8 (by omega) (by omega)
            have jw3 : IntKind.i64.wrap ((j % 4 : Nat) : Int) = ((j % 4 : Nat) : Int) := w_i64 (by omega) (by omega)
            have jw : IntKind.i64.wrap ((j : Int) + 1) = ((j + 1 : Nat) : Int) := by rw [w_i64 (by omega) (by omega)]; omega
            obtain ⟨u1, u2⟩ := hI1.1 j (by omega)
            have uv := used_w E1 sb ([⟨BANK, (ea : Int), (da : Int), (ct : Int)⟩] : List Lim) D1 hE1 (numL (j % 4)) ((j / 4 : Nat) : Int) _ (sp2.subs [8] rfl)
            rw [hD1, ← u1, ← u2] at uv
            have nv := fun A => number_v (j % 4) A
            rw [Nat.mod_mod] at nv
            have j0 := (hS).2 j (by omega)
            have j1 := (hN).2 j (by omega)
            have jj : ((j : Int) < 16) = True := jl
            have j00 : ((0 : Int) ≤ (j : Int)) = True := eq_true (by omega)
            simp only [cat, pick, at_, List.cons_append, List.nil_append] at uv
            refine LoopA.intro (by kernel_rfl) ?_
            intro ν fr; have nuE := fr.nu
            simp (maxDischargeDepth := 16) only [argE_nil, argE_cons, ↓vmD, vmV, vmStd, Nat.reduceMul, ↓reduceIte, Nat.reduceAdd, Nat.reduceSub, Nat.reduceEqDiff, Nat.reduceLT, Nat.reduceLeDiff, reduceCtorEq, Int.reduceToNat, Int.reduceLT, Int.reduceLE, Int.reduceEq, Int.reduceNeg, Int.reduceBEq, Int.reduceBNe, String.reduceEq, forall_const, ↓vmDA, vmVA, ↓vmQA, vmR, vmRA, ↓vmSA, vmSV, tyS, nuE, SubA.skip, SubA.refl, fr.2, areDigits_v, panSum_v, rdigits_v, rsum_v, panLuhn_v, rLuhn_v, panCheck_v, rCheck_v, calIsDate_v, calDay_v, stLim_v, slIndexByte_v, indexByte_v, indexRune_v, containsRune_v, classOf_v, isWordByte_v, letter_v, digit_v, wordAt_v, rword_v, isName_v, risName_v, awk_v, number_v, jl, jt, jd, jw1, jw2, jw3, nv, uv, m65, m64, m63, m62, m61, m60, m54, m53, m52, m51, m50, m43, m42, m41, m40, m32, m31, m30, m21, m20, m10, ixS, ixN, ixB, ixP, ixM, j00, j0, j1, bne_self_eq_false, jw, Nat.mul_one, Nat.zero_add]
            exact LoopA.weak (ihr (j + 1) (by omega) (by omega)) (by simp only [subE, get_cons, Nat.reduceEqDiff, ↓reduceIte, reduceCtorEq, Nat.reduceAdd, and_self, and_true]) (SubA.refl _)
        by_cases a3 : N P + 1 ≤ (ct : Int)
        rotate_left
        · have hpmv : permD ([⟨BANK, (ea : Int), (da : Int), (ct : Int)⟩] : List Lim) (D.map Prod.snd) BANK (numL (x.card % 4)) ((1 + x.amt : Nat) : Int) (dayD ((86400 * (x.date % 4) + e : Nat) : Int)) = false := by rw [hpm]; simp only [a3, decide_false, Bool.and_false]
          rw [hpmv] at hdx
          have hI1 := (lim_add hI hk256 hP16 q1 (d := newD ([⟨BANK, (ea : Int), (da : Int), (ct : Int)⟩] : List Lim) (D.map Prod.snd) ((86400 * (x.date % 4) + e : Nat) : Int) (keyK x.key) BANK (numL (x.card % 4)) ((1 + x.amt : Nat) : Int)) rfl hc2 hdt rfl).2 hpmv
          refine StS.useL (X := cat [[(b6, (Obj.cells (c6) 57))], [(b5, (Obj.cells (c5) 56))], [(b4, (Obj.cells (c4) 55))], [(b3, (Obj.cells (c3) 55))], [(b2, (Obj.cells (c2) 55))], [(b1, (Obj.cells (c1) 54))], [(b0, (Obj.cells (c0) 53))], A]) (decide_h E sb ([⟨BANK, (ea : Int), (da : Int), (ct : Int)⟩] : List Lim) D hE ((86400 * (x.date % 4) + e : Nat) : Int) (keyK x.key) BANK (numL (x.card % 4)) ((1 + x.amt : Nat) : Int) (numL_len _)) (SubA.fresh f0' (sp.subs [8] rfl)) (SubA.fresh f0' (sp.subs [0, 1, 2, 3, 4, 5, 6, 7] rfl)) (sp.pick [8, 0, 1, 2, 3, 4, 5, 6, 7] rfl rfl).dis ?_
          rw [hdx]
          intro E1 D1 hE1 hD1 d1
          have sp1 : Sep [[(b6, (Obj.cells (c6) 57))], [(b5, (Obj.cells (c5) 56))], [(b4, (Obj.cells (c4) 55))], [(b3, (Obj.cells (c3) 55))], [(b2, (Obj.cells (c2) 55))], [(b1, (Obj.cells (c1) 54))], [(b0, (Obj.cells (c0) 53))], A, E1] := (Sep.cons d1 (sp.pick [0, 1, 2, 3, 4, 5, 6, 7] rfl rfl)).pick [1, 2, 3, 4, 5, 6, 7, 8, 0] rfl rfl
          have sA1 : SubA A (cat [[(b6, (Obj.cells (c6) 57))], [(b5, (Obj.cells (c5) 56))], [(b4, (Obj.cells (c4) 55))], [(b3, (Obj.cells (c3) 55))], [(b2, (Obj.cells (c2) 55))], [(b1, (Obj.cells (c1) 54))], [(b0, (Obj.cells (c0) 53))], A, E1]) := sp1.subs [7] rfl
          have lbk1 := sA1 _ _ hbk
          simp only [cat, List.cons_append, List.nil_append, List.append_assoc] at lbk1 ⊢
          intro ν2 fr2
          have fr := fr2
          have nuE := fr.nu
          have sp2 : Sep [[(b6, (Obj.cells (c6) 57))], [(b5, (Obj.cells (c5) 56))], [(b4, (Obj.cells (c4) 55))], [(b3, (Obj.cells (c3.setIfInBounds x.key (.bool false)) 55))], [(b2, (Obj.cells (c2.setIfInBounds x.key (.bool true)) 55))], [(b1, (Obj.cells (c1) 54))], [(b0, (Obj.cells (c0) 53))], A, E1] := Sep.set (l := [[(b6, (Obj.cells (c6) 57))], [(b5, (Obj.cells (c5) 56))], [(b4, (Obj.cells (c4) 55))], [(b3, (Obj.cells (c3) 55))], [(b2, (Obj.cells (c2.setIfInBounds x.key (.bool true)) 55))], [(b1, (Obj.cells (c1) 54))], [(b0, (Obj.cells (c0) 53))], A, E1]) 3 [(b3, (Obj.cells (c3.setIfInBounds x.key (.bool false)) 55))] (Sep.set (l := [[(b6, (Obj.cells (c6) 57))], [(b5, (Obj.cells (c5) 56))], [(b4, (Obj.cells (c4) 55))], [(b3, (Obj.cells (c3) 55))], [(b2, (Obj.cells (c2) 55))], [(b1, (Obj.cells (c1) 54))], [(b0, (Obj.cells (c0) 53))], A, E1]) 4 [(b2, (Obj.cells (c2.setIfInBounds x.key (.bool true)) 55))] (sp1) one_less) one_less
          simp (maxDischargeDepth := 16) only [argE_nil, argE_cons, ↓vmD, vmV, vmStd, Nat.reduceMul, ↓reduceIte, Nat.reduceAdd, Nat.reduceSub, Nat.reduceEqDiff, Nat.reduceLT, Nat.reduceLeDiff, reduceCtorEq, Int.reduceToNat, Int.reduceLT, Int.reduceLE, Int.reduceEq, Int.reduceNeg, Int.reduceBEq, Int.reduceBNe, String.reduceEq, forall_const, ↓vmDA, vmVA, ↓vmQA, vmR, vmRA, ↓vmSA, vmSV, tyS, nuE, SubA.skip, SubA.refl, fr.2, areDigits_v, panSum_v, rdigits_v, rsum_v, panLuhn_v, rLuhn_v, panCheck_v, rCheck_v, calIsDate_v, calDay_v, stLim_v, slIndexByte_v, indexByte_v, indexRune_v, containsRune_v, classOf_v, isWordByte_v, letter_v, digit_v, wordAt_v, rword_v, isName_v, risName_v, awk_v, number_v, m65, m64, m63, m62, m61, m60, m54, m53, m52, m51, m50, m43, m42, m41, m40, m32, m31, m30, m21, m20, m10, ixS, ixN, ixB, ixP, ixM, kk0, kk1, p0, p1, r2, r3, r0, r1, r3T, r3F, w1, w2, w3, wS, wN, z2, z3, z5, z6, z0, z1, Nat.mul_one, Nat.zero_add, bne_self_eq_false, a1, a2, a3]
          obtain ⟨j, hj, hj16⟩ : ∃ j : Nat, j = 0 ∧ j ≤ 16 := ⟨0, rfl, by omega⟩
          rw [show (28, some (Value.int .i64 0)) = (28, some (Value.int .i64 (j : Int))) by rw [hj]; rfl]
          obtain ⟨r, hr⟩ : ∃ r, r + j = 16 := ⟨16, by omega⟩
          clear hj nuE fr
          induction r generalizing j with
          | zero =>
            have jl : ((j : Int) < 16) = False := eq_false (by omega)
            refine LoopA.intro (by kernel_rfl) ?_
            intro ν fr; have nuE := fr.nu
            simp (maxDischargeDepth := 16) only [argE_nil, argE_cons, ↓vmD, vmV, vmStd, Nat.reduceMul, ↓reduceIte, Nat.reduceAdd, Nat.reduceSub, Nat.reduceEqDiff, Nat.reduceLT, Nat.reduceLeDiff, reduceCtorEq, Int.reduceToNat, Int.reduceLT, Int.reduceLE, Int.reduceEq, Int.reduceNeg, Int.reduceBEq, Int.reduceBNe, String.reduceEq, forall_const, ↓vmDA, vmVA, ↓vmQA, vmR, vmRA, ↓vmSA, vmSV, tyS, nuE, SubA.skip, SubA.refl, fr.2, areDigits_v, panSum_v, rdigits_v, rsum_v, panLuhn_v, rLuhn_v, panCheck_v, rCheck_v, calIsDate_v, calDay_v, stLim_v, slIndexByte_v, indexByte_v, indexRune_v, containsRune_v, classOf_v, isWordByte_v, letter_v, digit_v, wordAt_v, rword_v, isName_v, risName_v, awk_v, number_v, jl, we]
            exact LoopA.weak (ih (e := e + 1) (D := D1) (E := E1) (hd := hd') (hle := by omega) (hE := hE1) (hlen := by rw [← List.length_map (f := Prod.snd), hD1]; simp; omega) (hS := hS) (hN := hN) (hkn := (hkn.set hk256 true)) (hap := (hap.set hk256 false)) (hrv := hrv) (hpl := hpl) (ham := ham) (hI := by rw [hD1]; exact hI1) (sp := sp2)) (by simp only [subE, get_cons, Nat.reduceEqDiff, ↓reduceIte, reduceCtorEq, Nat.reduceAdd, and_self, and_true]) (SubA.refl _)
          | succ r ihr =>
            have jl : ((j : Int) < 16) = True := eq_true (by omega)
            have jt : ((j : Int)).tmod 4 = ((j % 4 : Nat) : Int) := by rw [Int.tmod_eq_emod_of_nonneg (by omega)]; omega
            have jd : ((j : Int)).tdiv 4 = ((j / 4 : Nat) : Int) := by rw [Int.tdiv_eq_ediv_of_nonneg (by omega)]; omega
            have jw1 : IntKind.i64.wrap ((j / 4 : Nat) : Int) = ((j / 4 : Nat) : Int) := w_i64 (by omega) (by omega)
            have jw2 : IntKind.u8.wrap ((j % 4 : Nat) : Int) = ((j % 4 : Nat) : Int) := w_u8 (by omega) (by omega)
            have jw3 : IntKind.i64.wrap ((j % 4 : Nat) : Int) = ((j % 4 : Nat) : Int) := w_i64 (by omega) (by omega)
            have jw : IntKind.i64.wrap ((j : Int) + 1) = ((j + 1 : Nat) : Int) := by rw [w_i64 (by omega) (by omega)]; omega
            obtain ⟨u1, u2⟩ := hI1.1 j (by omega)
            have uv := used_w E1 sb ([⟨BANK, (ea : Int), (da : Int), (ct : Int)⟩] : List Lim) D1 hE1 (numL (j % 4)) ((j / 4 : Nat) : Int) _ (sp2.subs [8] rfl)
            rw [hD1, ← u1, ← u2] at uv
            have nv := fun A => number_v (j % 4) A
            rw [Nat.mod_mod] at nv
            have j0 := (hS).2 j (by omega)
            have j1 := (hN).2 j (by omega)
            have jj : ((j : Int) < 16) = True := jl
            have j00 : ((0 : Int) ≤ (j : Int)) = True := eq_true (by omega)
            simp only [cat, pick, at_, List.cons_append, List.nil_append] at uv
            refine LoopA.intro (by kernel_rfl) ?_
            intro ν fr; have nuE := fr.nu
            simp (maxDischargeDepth := 16) only [argE_nil, argE_cons, ↓vmD, vmV, vmStd, Nat.reduceMul, ↓reduceIte, Nat.reduceAdd, Nat.reduceSub, Nat.reduceEqDiff, Nat.reduceLT, Nat.reduceLeDiff, reduceCtorEq, Int.reduceToNat, Int.reduceLT, Int.reduceLE, Int.reduceEq, Int.reduceNeg, Int.reduceBEq, Int.reduceBNe, String.reduceEq, forall_const, ↓vmDA, vmVA, ↓vmQA, vmR, vmRA, ↓vmSA, vmSV, tyS, nuE, SubA.skip, SubA.refl, fr.2, areDigits_v, panSum_v, rdigits_v, rsum_v, panLuhn_v, rLuhn_v, panCheck_v, rCheck_v, calIsDate_v, calDay_v, stLim_v, slIndexByte_v, indexByte_v, indexRune_v, containsRune_v, classOf_v, isWordByte_v, letter_v, digit_v, wordAt_v, rword_v, isName_v, risName_v, awk_v, number_v, jl, jt, jd, jw1, jw2, jw3, nv, uv, m65, m64, m63, m62, m61, m60, m54, m53, m52, m51, m50, m43, m42, m41, m40, m32, m31, m30, m21, m20, m10, ixS, ixN, ixB, ixP, ixM, j00, j0, j1, bne_self_eq_false, jw, Nat.mul_one, Nat.zero_add]
            exact LoopA.weak (ihr (j + 1) (by omega) (by omega)) (by simp only [subE, get_cons, Nat.reduceEqDiff, ↓reduceIte, reduceCtorEq, Nat.reduceAdd, and_self, and_true]) (SubA.refl _)
        have hpmv : permD ([⟨BANK, (ea : Int), (da : Int), (ct : Int)⟩] : List Lim) (D.map Prod.snd) BANK (numL (x.card % 4)) ((1 + x.amt : Nat) : Int) (dayD ((86400 * (x.date % 4) + e : Nat) : Int)) = true := by rw [hpm]; simp only [a1, a2, a3, decide_true, Bool.and_self]
        rw [hpmv] at hdx
        have hI1 : LimI (D.map Prod.snd ++ [newD ([⟨BANK, (ea : Int), (da : Int), (ct : Int)⟩] : List Lim) (D.map Prod.snd) ((86400 * (x.date % 4) + e : Nat) : Int) (keyK x.key) BANK (numL (x.card % 4)) ((1 + x.amt : Nat) : Int)]) (upF S P (S P + ((1 + x.amt : Nat) : Int))) (upF N P (N P + 1)) (upF kn x.key true) (upF ap x.key true) rv (upF pl x.key P) (upF am x.key ((1 + x.amt : Nat) : Int)) := (lim_add hI hk256 hP16 q1 (d := newD ([⟨BANK, (ea : Int), (da : Int), (ct : Int)⟩] : List Lim) (D.map Prod.snd) ((86400 * (x.date % 4) + e : Nat) : Int) (keyK x.key) BANK (numL (x.card % 4)) ((1 + x.amt : Nat) : Int)) rfl hc2 hdt rfl).1 hpmv
        have hpl2 : ArrI (c5.setIfInBounds x.key (.int .i64 (P : Int))) 256 (fun m => ((upF pl x.key P m : Nat) : Int)) := by have := hpl.set hk256 (P : Int); rwa [upF_cast] at this
        refine StS.useL (X := cat [[(b6, (Obj.cells (c6) 57))], [(b5, (Obj.cells (c5) 56))], [(b4, (Obj.cells (c4) 55))], [(b3, (Obj.cells (c3) 55))], [(b2, (Obj.cells (c2) 55))], [(b1, (Obj.cells (c1) 54))], [(b0, (Obj.cells (c0) 53))], A]) (decide_h E sb ([⟨BANK, (ea : Int), (da : Int), (ct : Int)⟩] : List Lim) D hE ((86400 * (x.date % 4) + e : Nat) : Int) (keyK x.key) BANK (numL (x.card % 4)) ((1 + x.amt : Nat) : Int) (numL_len _)) (SubA.fresh f0' (sp.subs [8] rfl)) (SubA.fresh f0' (sp.subs [0, 1, 2, 3, 4, 5, 6, 7] rfl)) (sp.pick [8, 0, 1, 2, 3, 4, 5, 6, 7] rfl rfl).dis ?_
        rw [hdx]
        intro E1 D1 hE1 hD1 d1
        have sp1 : Sep [[(b6, (Obj.cells (c6) 57))], [(b5, (Obj.cells (c5) 56))], [(b4, (Obj.cells (c4) 55))], [(b3, (Obj.cells (c3) 55))], [(b2, (Obj.cells (c2) 55))], [(b1, (Obj.cells (c1) 54))], [(b0, (Obj.cells (c0) 53))], A, E1] := (Sep.cons d1 (sp.pick [0, 1, 2, 3, 4, 5, 6, 7] rfl rfl)).pick [1, 2, 3, 4, 5, 6, 7, 8, 0] rfl rfl
        have sA1 : SubA A (cat [[(b6, (Obj.cells (c6) 57))], [(b5, (Obj.cells (c5) 56))], [(b4, (Obj.cells (c4) 55))], [(b3, (Obj.cells (c3) 55))], [(b2, (Obj.cells (c2) 55))], [(b1, (Obj.cells (c1) 54))], [(b0, (Obj.cells (c0) 53))], A, E1]) := sp1.subs [7] rfl
        have lbk1 := sA1 _ _ hbk
        simp only [cat, List.cons_append, List.nil_append, List.append_assoc] at lbk1 ⊢
        intro ν2 fr2
        have fr := fr2
        have nuE := fr.nu
        have sp2 : Sep [[(b6, (Obj.cells (c6.setIfInBounds x.key (.int .i64 ((1 + x.amt : Nat) : Int))) 57))], [(b5, (Obj.cells (c5.setIfInBounds x.key (.int .i64 (P : Int))) 56))], [(b4, (Obj.cells (c4) 55))], [(b3, (Obj.cells (c3.setIfInBounds x.key (.bool true)) 55))], [(b2, (Obj.cells (c2.setIfInBounds x.key (.bool true)) 55))], [(b1, (Obj.cells (c1.setIfInBounds P (.int .i64 (N P + 1))) 54))], [(b0, (Obj.cells (c0.setIfInBounds P (.int .i64 (S P + ((1 + x.amt : Nat) : Int)))) 53))], A, E1] := Sep.set (l := [[(b6, (Obj.cells (c6.setIfInBounds x.key (.int .i64 ((1 + x.amt : Nat) : Int))) 57))], [(b5, (Obj.cells (c5.setIfInBounds x.key (.int .i64 (P : Int))) 56))], [(b4, (Obj.cells (c4) 55))], [(b3, (Obj.cells (c3.setIfInBounds x.key (.bool true)) 55))], [(b2, (Obj.cells (c2.setIfInBounds x.key (.bool true)) 55))], [(b1, (Obj.cells (c1) 54))], [(b0, (Obj.cells (c0.setIfInBounds P (.int .i64 (S P + ((1 + x.amt : Nat) : Int)))) 53))], A, E1]) 5 [(b1, (Obj.cells (c1.setIfInBounds P (.int .i64 (N P + 1))) 54))] (Sep.set (l := [[(b6, (Obj.cells (c6.setIfInBounds x.key (.int .i64 ((1 + x.amt : Nat) : Int))) 57))], [(b5, (Obj.cells (c5.setIfInBounds x.key (.int .i64 (P : Int))) 56))], [(b4, (Obj.cells (c4) 55))], [(b3, (Obj.cells (c3.setIfInBounds x.key (.bool true)) 55))], [(b2, (Obj.cells (c2.setIfInBounds x.key (.bool true)) 55))], [(b1, (Obj.cells (c1) 54))], [(b0, (Obj.cells (c0) 53))], A, E1]) 6 [(b0, (Obj.cells (c0.setIfInBounds P (.int .i64 (S P + ((1 + x.amt : Nat) : Int)))) 53))] (Sep.set (l := [[(b6, (Obj.cells (c6) 57))], [(b5, (Obj.cells (c5.setIfInBounds x.key (.int .i64 (P : Int))) 56))], [(b4, (Obj.cells (c4) 55))], [(b3, (Obj.cells (c3.setIfInBounds x.key (.bool true)) 55))], [(b2, (Obj.cells (c2.setIfInBounds x.key (.bool true)) 55))], [(b1, (Obj.cells (c1) 54))], [(b0, (Obj.cells (c0) 53))], A, E1]) 0 [(b6, (Obj.cells (c6.setIfInBounds x.key (.int .i64 ((1 + x.amt : Nat) : Int))) 57))] (Sep.set (l := [[(b6, (Obj.cells (c6) 57))], [(b5, (Obj.cells (c5) 56))], [(b4, (Obj.cells (c4) 55))], [(b3, (Obj.cells (c3.setIfInBounds x.key (.bool true)) 55))], [(b2, (Obj.cells (c2.setIfInBounds x.key (.bool true)) 55))], [(b1, (Obj.cells (c1) 54))], [(b0, (Obj.cells (c0) 53))], A, E1]) 1 [(b5, (Obj.cells (c5.setIfInBounds x.key (.int .i64 (P : Int))) 56))] (Sep.set (l := [[(b6, (Obj.cells (c6) 57))], [(b5, (Obj.cells (c5) 56))], [(b4, (Obj.cells (c4) 55))], [(b3, (Obj.cells (c3) 55))], [(b2, (Obj.cells (c2.setIfInBounds x.key (.bool true)) 55))], [(b1, (Obj.cells (c1) 54))], [(b0, (Obj.cells (c0) 53))], A, E1]) 3 [(b3, (Obj.cells (c3.setIfInBounds x.key (.bool true)) 55))] (Sep.set (l := [[(b6, (Obj.cells (c6) 57))], [(b5, (Obj.cells (c5) 56))], [(b4, (Obj.cells (c4) 55))], [(b3, (Obj.cells (c3) 55))], [(b2, (Obj.cells (c2) 55))], [(b1, (Obj.cells (c1) 54))], [(b0, (Obj.cells (c0) 53))], A, E1]) 4 [(b2, (Obj.cells (c2.setIfInBounds x.key (.bool true)) 55))] (sp1) one_less) one_less) one_less) one_less) one_less) one_less
        simp (maxDischargeDepth := 16) only [argE_nil, argE_cons, ↓vmD, vmV, vmStd, Nat.reduceMul, ↓reduceIte, Nat.reduceAdd, Nat.reduceSub, Nat.reduceEqDiff, Nat.reduceLT, Nat.reduceLeDiff, reduceCtorEq, Int.reduceToNat, Int.reduceLT, Int.reduceLE, Int.reduceEq, Int.reduceNeg, Int.reduceBEq, Int.reduceBNe, String.reduceEq, forall_const, ↓vmDA, vmVA, ↓vmQA, vmR, vmRA, ↓vmSA, vmSV, tyS, nuE, SubA.skip, SubA.refl, fr.2, areDigits_v, panSum_v, rdigits_v, rsum_v, panLuhn_v, rLuhn_v, panCheck_v, rCheck_v, calIsDate_v, calDay_v, stLim_v, slIndexByte_v, indexByte_v, indexRune_v, containsRune_v, classOf_v, isWordByte_v, letter_v, digit_v, wordAt_v, rword_v, isName_v, risName_v, awk_v, number_v, m65, m64, m63, m62, m61, m60, m54, m53, m52, m51, m50, m43, m42, m41, m40, m32, m31, m30, m21, m20, m10, ixS, ixN, ixB, ixP, ixM, kk0, kk1, p0, p1, r2, r3, r0, r1, r3T, r3F, w1, w2, w3, wS, wN, z2, z3, z5, z6, z0, z1, Nat.mul_one, Nat.zero_add, bne_self_eq_false, a1, a2, a3]
        obtain ⟨j, hj, hj16⟩ : ∃ j : Nat, j = 0 ∧ j ≤ 16 := ⟨0, rfl, by omega⟩
        rw [show (28, some (Value.int .i64 0)) = (28, some (Value.int .i64 (j : Int))) by rw [hj]; rfl]
        obtain ⟨r, hr⟩ : ∃ r, r + j = 16 := ⟨16, by omega⟩
        clear hj nuE fr
        induction r generalizing j with
        | zero =>
          have jl : ((j : Int) < 16) = False := eq_false (by omega)
          refine LoopA.intro (by kernel_rfl) ?_
          intro ν fr; have nuE := fr.nu
          simp (maxDischargeDepth := 16) only [argE_nil, argE_cons, ↓vmD, vmV, vmStd, Nat.reduceMul, ↓reduceIte, Nat.reduceAdd, Nat.reduceSub, Nat.reduceEqDiff, Nat.reduceLT, Nat.reduceLeDiff, reduceCtorEq, Int.reduceToNat, Int.reduceLT, Int.reduceLE, Int.reduceEq, Int.reduceNeg, Int.reduceBEq, Int.reduceBNe, String.reduceEq, forall_const, ↓vmDA, vmVA, ↓vmQA, vmR, vmRA, ↓vmSA, vmSV, tyS, nuE, SubA.skip, SubA.refl, fr.2, areDigits_v, panSum_v, rdigits_v, rsum_v, panLuhn_v, rLuhn_v, panCheck_v, rCheck_v, calIsDate_v, calDay_v, stLim_v, slIndexByte_v, indexByte_v, indexRune_v, containsRune_v, classOf_v, isWordByte_v, letter_v, digit_v, wordAt_v, rword_v, isName_v, risName_v, awk_v, number_v, jl, we]
          exact LoopA.weak (ih (e := e + 1) (D := D1) (E := E1) (hd := hd') (hle := by omega) (hE := hE1) (hlen := by rw [← List.length_map (f := Prod.snd), hD1]; simp; omega) (hS := (hS.set hP16 (S P + ((1 + x.amt : Nat) : Int)))) (hN := (hN.set hP16 (N P + 1))) (hkn := (hkn.set hk256 true)) (hap := (hap.set hk256 true)) (hrv := hrv) (hpl := hpl2) (ham := (ham.set hk256 ((1 + x.amt : Nat) : Int))) (hI := by rw [hD1]; exact hI1) (sp := sp2)) (by simp only [subE, get_cons, Nat.reduceEqDiff, ↓reduceIte, reduceCtorEq, Nat.reduceAdd, and_self, and_true]) (SubA.refl _)
        | succ r ihr =>
          have jl : ((j : Int) < 16) = True := eq_true (by omega)
          have jt : ((j : Int)).tmod 4 = ((j % 4 : Nat) : Int) := by rw [Int.tmod_eq_emod_of_nonneg (by omega)]; omega
          have jd : ((j : Int)).tdiv 4 = ((j / 4 : Nat) : Int) := by rw [Int.tdiv_eq_ediv_of_nonneg (by omega)]; omega
          have jw1 : IntKind.i64.wrap ((j / 4 : Nat) : Int) = ((j / 4 : Nat) : Int) := w_i64 (by omega) (by omega)
          have jw2 : IntKind.u8.wrap ((j % 4 : Nat) : Int) = ((j % 4 : Nat) : Int) := w_u8 (by omega) (by omega)
          have jw3 : IntKind.i64.wrap ((j % 4 : Nat) : Int) = ((j % 4 : Nat) : Int) := w_i64 (by omega) (by omega)
          have jw : IntKind.i64.wrap ((j : Int) + 1) = ((j + 1 : Nat) : Int) := by rw [w_i64 (by omega) (by omega)]; omega
          obtain ⟨u1, u2⟩ := hI1.1 j (by omega)
          have uv := used_w E1 sb ([⟨BANK, (ea : Int), (da : Int), (ct : Int)⟩] : List Lim) D1 hE1 (numL (j % 4)) ((j / 4 : Nat) : Int) _ (sp2.subs [8] rfl)
          rw [hD1, ← u1, ← u2] at uv
          have nv := fun A => number_v (j % 4) A
          rw [Nat.mod_mod] at nv
          have j0 := ((hS.set hP16 (S P + ((1 + x.amt : Nat) : Int)))).2 j (by omega)
          have j1 := ((hN.set hP16 (N P + 1))).2 j (by omega)
          have jj : ((j : Int) < 16) = True := jl
          have j00 : ((0 : Int) ≤ (j : Int)) = True := eq_true (by omega)
          simp only [cat, pick, at_, List.cons_append, List.nil_append] at uv
          refine LoopA.intro (by kernel_rfl) ?_
          intro ν fr; have nuE := fr.nu
          simp (maxDischargeDepth := 16) only [argE_nil, argE_cons, ↓vmD, vmV, vmStd, Nat.reduceMul, ↓reduceIte, Nat.reduceAdd, Nat.reduceSub, Nat.reduceEqDiff, Nat.reduceLT, Nat.reduceLeDiff, reduceCtorEq, Int.reduceToNat, Int.reduceLT, Int.reduceLE, Int.reduceEq, Int.reduceNeg, Int.reduceBEq, Int.reduceBNe, String.reduceEq, forall_const, ↓vmDA, vmVA, ↓vmQA, vmR, vmRA, ↓vmSA, vmSV, tyS, nuE, SubA.skip, SubA.refl, fr.2, areDigits_v, panSum_v, rdigits_v, rsum_v, panLuhn_v, rLuhn_v, panCheck_v, rCheck_v, calIsDate_v, calDay_v, stLim_v, slIndexByte_v, indexByte_v, indexRune_v, containsRune_v, classOf_v, isWordByte_v, letter_v, digit_v, wordAt_v, rword_v, isName_v, risName_v, awk_v, number_v, jl, jt, jd, jw1, jw2, jw3, nv, uv, m65, m64, m63, m62, m61, m60, m54, m53, m52, m51, m50, m43, m42, m41, m40, m32, m31, m30, m21, m20, m10, ixS, ixN, ixB, ixP, ixM, j00, j0, j1, bne_self_eq_false, jw, Nat.mul_one, Nat.zero_add]
          exact LoopA.weak (ihr (j + 1) (by omega) (by omega)) (by simp only [subE, get_cons, Nat.reduceEqDiff, ↓reduceIte, reduceCtorEq, Nat.reduceAdd, and_self, and_true]) (SubA.refl _)
      · have hdx : decX ([⟨BANK, (ea : Int), (da : Int), (ct : Int)⟩] : List Lim) (D.map Prod.snd) ((86400 * (x.date % 4) + e : Nat) : Int) (keyK x.key) BANK (numL (x.card % 4)) ((1 + x.amt : Nat) : Int) = ((d.app, 0), D.map Prod.snd) := by
          unfold decX; rw [if_neg (fun h => h hde)]; simp only [q1, q2]
        have hI1 := hI
        rw [q3] at r2
        rw [q4] at r3
        refine StS.useL (X := cat [[(b6, (Obj.cells (c6) 57))], [(b5, (Obj.cells (c5) 56))], [(b4, (Obj.cells (c4) 55))], [(b3, (Obj.cells (c3) 55))], [(b2, (Obj.cells (c2) 55))], [(b1, (Obj.cells (c1) 54))], [(b0, (Obj.cells (c0) 53))], A]) (decide_h E sb ([⟨BANK, (ea : Int), (da : Int), (ct : Int)⟩] : List Lim) D hE ((86400 * (x.date % 4) + e : Nat) : Int) (keyK x.key) BANK (numL (x.card % 4)) ((1 + x.amt : Nat) : Int) (numL_len _)) (SubA.fresh f0' (sp.subs [8] rfl)) (SubA.fresh f0' (sp.subs [0, 1, 2, 3, 4, 5, 6, 7] rfl)) (sp.pick [8, 0, 1, 2, 3, 4, 5, 6, 7] rfl rfl).dis ?_
        rw [hdx]
        intro E1 D1 hE1 hD1 d1
        have sp1 : Sep [[(b6, (Obj.cells (c6) 57))], [(b5, (Obj.cells (c5) 56))], [(b4, (Obj.cells (c4) 55))], [(b3, (Obj.cells (c3) 55))], [(b2, (Obj.cells (c2) 55))], [(b1, (Obj.cells (c1) 54))], [(b0, (Obj.cells (c0) 53))], A, E1] := (Sep.cons d1 (sp.pick [0, 1, 2, 3, 4, 5, 6, 7] rfl rfl)).pick [1, 2, 3, 4, 5, 6, 7, 8, 0] rfl rfl
        have sA1 : SubA A (cat [[(b6, (Obj.cells (c6) 57))], [(b5, (Obj.cells (c5) 56))], [(b4, (Obj.cells (c4) 55))], [(b3, (Obj.cells (c3) 55))], [(b2, (Obj.cells (c2) 55))], [(b1, (Obj.cells (c1) 54))], [(b0, (Obj.cells (c0) 53))], A, E1]) := sp1.subs [7] rfl
        have lbk1 := sA1 _ _ hbk
        simp only [cat, List.cons_append, List.nil_append, List.append_assoc] at lbk1 ⊢
        intro ν2 fr2
        have fr := fr2
        have nuE := fr.nu
        have sp2 := sp1
        simp (maxDischargeDepth := 16) only [argE_nil, argE_cons, ↓vmD, vmV, vmStd, Nat.reduceMul, ↓reduceIte, Nat.reduceAdd, Nat.reduceSub, Nat.reduceEqDiff, Nat.reduceLT, Nat.reduceLeDiff, reduceCtorEq, Int.reduceToNat, Int.reduceLT, Int.reduceLE, Int.reduceEq, Int.reduceNeg, Int.reduceBEq, Int.reduceBNe, String.reduceEq, forall_const, ↓vmDA, vmVA, ↓vmQA, vmR, vmRA, ↓vmSA, vmSV, tyS, nuE, SubA.skip, SubA.refl, fr.2, areDigits_v, panSum_v, rdigits_v, rsum_v, panLuhn_v, rLuhn_v, panCheck_v, rCheck_v, calIsDate_v, calDay_v, stLim_v, slIndexByte_v, indexByte_v, indexRune_v, containsRune_v, classOf_v, isWordByte_v, letter_v, digit_v, wordAt_v, rword_v, isName_v, risName_v, awk_v, number_v, m65, m64, m63, m62, m61, m60, m54, m53, m52, m51, m50, m43, m42, m41, m40, m32, m31, m30, m21, m20, m10, ixS, ixN, ixB, ixP, ixM, kk0, kk1, p0, p1, r2, r3, r0, r1, r3T, r3F, w1, w2, w3, wS, wN, z2, z3, z5, z6, z0, z1, Nat.mul_one, Nat.zero_add, bne_self_eq_false]
        obtain ⟨j, hj, hj16⟩ : ∃ j : Nat, j = 0 ∧ j ≤ 16 := ⟨0, rfl, by omega⟩
        rw [show (28, some (Value.int .i64 0)) = (28, some (Value.int .i64 (j : Int))) by rw [hj]; rfl]
        obtain ⟨r, hr⟩ : ∃ r, r + j = 16 := ⟨16, by omega⟩
        clear hj nuE fr
        induction r generalizing j with
        | zero =>
          have jl : ((j : Int) < 16) = False := eq_false (by omega)
          refine LoopA.intro (by kernel_rfl) ?_
          intro ν fr; have nuE := fr.nu
          simp (maxDischargeDepth := 16) only [argE_nil, argE_cons, ↓vmD, vmV, vmStd, Nat.reduceMul, ↓reduceIte, Nat.reduceAdd, Nat.reduceSub, Nat.reduceEqDiff, Nat.reduceLT, Nat.reduceLeDiff, reduceCtorEq, Int.reduceToNat, Int.reduceLT, Int.reduceLE, Int.reduceEq, Int.reduceNeg, Int.reduceBEq, Int.reduceBNe, String.reduceEq, forall_const, ↓vmDA, vmVA, ↓vmQA, vmR, vmRA, ↓vmSA, vmSV, tyS, nuE, SubA.skip, SubA.refl, fr.2, areDigits_v, panSum_v, rdigits_v, rsum_v, panLuhn_v, rLuhn_v, panCheck_v, rCheck_v, calIsDate_v, calDay_v, stLim_v, slIndexByte_v, indexByte_v, indexRune_v, containsRune_v, classOf_v, isWordByte_v, letter_v, digit_v, wordAt_v, rword_v, isName_v, risName_v, awk_v, number_v, jl, we]
          exact LoopA.weak (ih (e := e + 1) (D := D1) (E := E1) (hd := hd') (hle := by omega) (hE := hE1) (hlen := by rw [← List.length_map (f := Prod.snd), hD1]; simp; omega) (hS := hS) (hN := hN) (hkn := hkn) (hap := hap) (hrv := hrv) (hpl := hpl) (ham := ham) (hI := by rw [hD1]; exact hI1) (sp := sp2)) (by simp only [subE, get_cons, Nat.reduceEqDiff, ↓reduceIte, reduceCtorEq, Nat.reduceAdd, and_self, and_true]) (SubA.refl _)
        | succ r ihr =>
          have jl : ((j : Int) < 16) = True := eq_true (by omega)
          have jt : ((j : Int)).tmod 4 = ((j % 4 : Nat) : Int) := by rw [Int.tmod_eq_emod_of_nonneg (by omega)]; omega
          have jd : ((j : Int)).tdiv 4 = ((j / 4 : Nat) : Int) := by rw [Int.tdiv_eq_ediv_of_nonneg (by omega)]; omega
          have jw1 : IntKind.i64.wrap ((j / 4 : Nat) : Int) = ((j / 4 : Nat) : Int) := w_i64 (by omega) (by omega)
          have jw2 : IntKind.u8.wrap ((j % 4 : Nat) : Int) = ((j % 4 : Nat) : Int) := w_u8 (by omega) (by omega)
          have jw3 : IntKind.i64.wrap ((j % 4 : Nat) : Int) = ((j % 4 : Nat) : Int) := w_i64 (by omega) (by omega)
          have jw : IntKind.i64.wrap ((j : Int) + 1) = ((j + 1 : Nat) : Int) := by rw [w_i64 (by omega) (by omega)]; omega
          obtain ⟨u1, u2⟩ := hI1.1 j (by omega)
          have uv := used_w E1 sb ([⟨BANK, (ea : Int), (da : Int), (ct : Int)⟩] : List Lim) D1 hE1 (numL (j % 4)) ((j / 4 : Nat) : Int) _ (sp2.subs [8] rfl)
          rw [hD1, ← u1, ← u2] at uv
          have nv := fun A => number_v (j % 4) A
          rw [Nat.mod_mod] at nv
          have j0 := (hS).2 j (by omega)
          have j1 := (hN).2 j (by omega)
          have jj : ((j : Int) < 16) = True := jl
          have j00 : ((0 : Int) ≤ (j : Int)) = True := eq_true (by omega)
          simp only [cat, pick, at_, List.cons_append, List.nil_append] at uv
          refine LoopA.intro (by kernel_rfl) ?_
          intro ν fr; have nuE := fr.nu
          simp (maxDischargeDepth := 16) only [argE_nil, argE_cons, ↓vmD, vmV, vmStd, Nat.reduceMul, ↓reduceIte, Nat.reduceAdd, Nat.reduceSub, Nat.reduceEqDiff, Nat.reduceLT, Nat.reduceLeDiff, reduceCtorEq, Int.reduceToNat, Int.reduceLT, Int.reduceLE, Int.reduceEq, Int.reduceNeg, Int.reduceBEq, Int.reduceBNe, String.reduceEq, forall_const, ↓vmDA, vmVA, ↓vmQA, vmR, vmRA, ↓vmSA, vmSV, tyS, nuE, SubA.skip, SubA.refl, fr.2, areDigits_v, panSum_v, rdigits_v, rsum_v, panLuhn_v, rLuhn_v, panCheck_v, rCheck_v, calIsDate_v, calDay_v, stLim_v, slIndexByte_v, indexByte_v, indexRune_v, containsRune_v, classOf_v, isWordByte_v, letter_v, digit_v, wordAt_v, rword_v, isName_v, risName_v, awk_v, number_v, jl, jt, jd, jw1, jw2, jw3, nv, uv, m65, m64, m63, m62, m61, m60, m54, m53, m52, m51, m50, m43, m42, m41, m40, m32, m31, m30, m21, m20, m10, ixS, ixN, ixB, ixP, ixM, j00, j0, j1, bne_self_eq_false, jw, Nat.mul_one, Nat.zero_add]
          exact LoopA.weak (ihr (j + 1) (by omega) (by omega)) (by simp only [subE, get_cons, Nat.reduceEqDiff, ↓reduceIte, reduceCtorEq, Nat.reduceAdd, and_self, and_true]) (SubA.refl _)
theorem limLaw_w (A : AH) (ea da ct : Nat) (he1 : ea ≤ 65535) (he2 : da ≤ 65535) (he3 : ct ≤ 255) (L : List BuyT) (q : Option Addr) (cap : Nat) (hL : StR buyC 5 A q L) (hb : ∀ x ∈ L, BuyOk x) (hl : L.length ≤ 9223372036854775807) (B_ : AH) (hB_ : SubA A B_) : valA Try.prog 4 #[.int .u16 (ea : Int), .int .u16 (da : Int), .int .u8 (ct : Int), .slice q L.length cap] B_ = some (.bool true) := valA_eq (pureA_at (by kernel_rfl) (limLaw_h A ea da ct he1 he2 he3 L q cap hL hb hl) hB_)
theorem limLaw_v (A : AH) (ea da ct : Nat) (he1 : ea ≤ 65535) (he2 : da ≤ 65535) (he3 : ct ≤ 255) (L : List BuyT) (q : Option Addr) (cap : Nat) (hL : StR buyC 5 A q L) (hb : ∀ x ∈ L, BuyOk x) (hl : L.length ≤ 9223372036854775807) : valA Try.prog 4 #[.int .u16 (ea : Int), .int .u16 (da : Int), .int .u8 (ct : Int), .slice q L.length cap] A = some (.bool true) := valA_eq (pureA_at (by kernel_rfl) (limLaw_h A ea da ct he1 he2 he3 L q cap hL hb hl) (SubA.refl _))
end Go.Proofs.Ytmjkjpjjckcihaa
