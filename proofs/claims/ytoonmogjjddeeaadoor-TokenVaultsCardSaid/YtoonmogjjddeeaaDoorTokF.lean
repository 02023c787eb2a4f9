/-
Tokens: what TokenOnce's calls compute.
Conditions: none.
-/
import Derived.Test.YtoonmogjjddeeaaDoorTokE
import Derived.Test.YtoonmogjjddeeaaDoorTokA
namespace Go.Proofs.YtoonmogjjddeeaaDoor
open Go.Vm
set_option linter.unusedSimpArgs false
set_option linter.unusedVariables false
set_option maxHeartbeats 4000000
set_option maxRecDepth 20000
theorem co_mk (n : Nat) (hn : n ≤ 65535) : mkV [48, 48] (n : Int) 16 = .tuple #[.string (bs (mkL [48, 48] 13 n)), .int .i64 0] := by
  have h : mkO [48, 48] (n : Int) 16 = true := by
    unfold mkO
    have : n < 10000000000000 := by omega
    simp [digB]
    exact this
  unfold mkV
  rw [if_pos h]
  rfl
theorem co_len (n : Nat) : ((mkL [48, 48] 13 n)).length = 16 := by rw [mkL_len]; rfl
theorem co_chk (n : Nat) : chk (mkL [48, 48] 13 n) = 0 := mkL_chk (by decide) (by decide) (by decide)
theorem co_is (q : UInt8) (hq : q ≠ 48) (n : Nat) : isV [q] 16 (mkL [48, 48] 13 n) = false := by
  unfold isV
  have : ((mkL [48, 48] 13 n)).take 1 = [48] := rfl
  simp [this]
  intro _ _ h
  exact hq h.symm
theorem once_O (q : UInt8) (hq : digB q = true) (k : Nat) (hk : k ≤ 64) : mkO [q] (k : Int) ((16 : Nat) : Int) = true := by
  unfold mkO
  have : k < 100000000000000 := by omega
  simp [hq]
  exact this
theorem once_is (q : UInt8) (hq : digB q = true) (k : Nat) : isV [q] 16 (mkL [q] 14 k) = true := by
  unfold isV
  have h1 : chk (mkL [q] 14 k) = 0 := mkL_chk (by simp [hq]) (by simp) (by simp)
  have h2 : (mkL [q] 14 k).take 1 = [q] := rfl
  have h3 : (mkL [q] 14 k).length = 16 := by rw [mkL_len]; rfl
  simp [h1, h2, h3]
/-- What creating the token of the i-th card gives. -/
theorem once_p (q : UInt8) (hq : q ≠ 48) (hd : digB q = true) (n i : Nat) (L : List Tok) (hi : i ≤ 80) (hL : L.length = min i 64) : provE [q] 16 L (mkL [48, 48] 13 n) [119] [] 0 (i : Int) = if i < 64 then 0 else 12 := by
  have hT : domT 0 (i : Int) = true := by unfold domT; simp; omega
  have hN : domN [119] [] = true := by decide
  unfold provE
  rw [if_neg (by rw [co_chk]; simp), if_neg (by rw [co_is q hq]; simp), if_neg (by rw [hN]; simp), if_neg (by rw [hT]; simp)]
  by_cases h : i < 64
  · rw [if_pos h, if_neg (by omega), if_neg (by rw [once_O q hd L.length (by omega)]; simp)]
  · rw [if_neg h, if_pos (by omega)]
end Go.Proofs.YtoonmogjjddeeaaDoor
