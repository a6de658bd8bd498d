/- Merged texts of this claim: Zn4, Zn5. -/
import Derived.Test.YtkckffmnjpoclaaYb1
set_option linter.unusedVariables false
set_option linter.unusedSimpArgs false
set_option maxHeartbeats 4000000
namespace Go.Vai
/-- A number in lowest form, if it keeps the limits. -/
def nok (x : Nu) : Bool := vN (low x)
def nnum (x : Nu) : Nu := if nok x = true then low x else ⟨0, 0, 0⟩
theorem pw_succ (a : Int) (j : Nat) : a * pw ((j : Int) + 1) = a * pw j * 2 := by
  unfold pw
  have : ((j : Int) + 1).toNat = (j : Int).toNat + 1 := by omega
  rw [this, Int.pow_succ, Int.mul_assoc]
theorem pw_zero (a : Int) : a * pw 0 = a := by unfold pw; simp
end Go.Vai
set_option linter.unusedVariables false
set_option linter.unusedSimpArgs false
set_option maxHeartbeats 4000000
namespace Go.Vai
theorem irrN : ∀ (m n : Nat), n * n = 2 * (m * m) → m = 0 := by
  intro m
  induction m using Nat.strongRecOn with
  | _ m ih =>
    intro n h
    by_cases hm : m = 0
    · exact hm
    · exfalso
      have hn : n % 2 = 0 := by
        have h2 : (n * n) % 2 = 0 := by omega
        rw [Nat.mul_mod] at h2
        rcases Nat.mod_two_eq_zero_or_one n with h3 | h3
        · exact h3
        · rw [h3] at h2; omega
      obtain ⟨t, rfl⟩ : ∃ t, n = 2 * t := ⟨n / 2, by omega⟩
      have h4 : 2 * t * (2 * t) = 4 * (t * t) := by rw [Nat.mul_mul_mul_comm]
      rw [h4] at h
      have h5 : m * m = 2 * (t * t) := by omega
      have hlt : t < m := by
        rcases Nat.lt_or_ge t m with h6 | h6
        · exact h6
        · have := Nat.mul_le_mul h6 h6
          have : 0 < m * m := Nat.mul_pos (by omega) (by omega)
          omega
      have ht := ih t hlt m h5
      rw [ht] at h5
      have : 0 < m * m := Nat.mul_pos (by omega) (by omega)
      omega
theorem irr {a b : Int} (h : a * a = 2 * (b * b)) : b = 0 := by
  have h1 : a.natAbs * a.natAbs = 2 * (b.natAbs * b.natAbs) := by
    have e1 := natAbs_sq a
    have e2 := natAbs_sq b
    have : ((a.natAbs * a.natAbs : Nat) : Int) = ((2 * (b.natAbs * b.natAbs) : Nat) : Int) := by
      rw [Int.natCast_mul, Int.natCast_mul, Int.natCast_mul, e1, e2]; exact h
    exact Int.ofNat_inj.1 this
  have := irrN _ _ h1
  omega
end Go.Vai
