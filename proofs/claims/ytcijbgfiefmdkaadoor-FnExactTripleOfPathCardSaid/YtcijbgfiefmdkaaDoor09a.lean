/- Contracts of chapter 9's tests: is it a triple? -/
import Derived.Test.YtcijbgfiefmdkaaDoor01
namespace Go.Proofs.YtcijbgfiefmdkaaDoor
open Go.RowKit

/-- Is it a triple of Markov with ordered small numbers? -/
def triB (a b c : Int) : Bool := decide (1 ≤ a ∧ a ≤ b ∧ b ≤ c ∧ c ≤ 1000000000 ∧ a * a + b * b + c * c = 3 * a * b * c)

theorem sq_bd {a A : Int} (h : 0 ≤ a) (k : a ≤ A) : 0 ≤ a * a ∧ a * a ≤ A * A :=
  ⟨Int.mul_nonneg h h, Int.mul_le_mul k k h (by omega)⟩

theorem tri_impl {x y z : Int} (h1 : 1 ≤ x) (h2 : x ≤ y) (h3 : y ≤ z) (h4 : z ≤ 1000000000) :
    ((((x * x + y * y) % z == 0) && ((x * x + y * y) / z == 3 * x * y - z)) = triB x y z) := by
  rw [Bool.eq_iff_iff]
  simp only [Bool.and_eq_true, beq_iff_eq, triB, decide_eq_true_eq]
  constructor
  · rintro ⟨h, k⟩
    refine ⟨h1, h2, h3, h4, ?_⟩
    have e := Int.mul_ediv_add_emod (x * x + y * y) z
    rw [h, k, Int.mul_sub] at e
    have e2 : z * (3 * x * y) = 3 * x * y * z := Int.mul_comm _ _
    omega
  · rintro ⟨_, _, _, _, e⟩
    have e1 : x * x + y * y = z * (3 * x * y - z) := by
      rw [Int.mul_sub, Int.mul_comm z (3 * x * y)]
      omega
    rw [e1]
    exact ⟨Int.mul_emod_right _ _, Int.mul_ediv_cancel_left _ (by omega)⟩

/-- In a triple x y is at most 3 z. -/
theorem tri_le {x y z : Int} (h1 : 1 ≤ x) (h2 : x ≤ y) (h3 : y ≤ z) (e : x * x + y * y + z * z = 3 * x * y * z) : x * y ≤ 3 * z := by
  apply Int.not_lt.1
  intro h
  have s1 := (sq_bd (a := x) (A := z) (by omega) (by omega)).2
  have s2 := (sq_bd (a := y) (A := z) (by omega) (by omega)).2
  have s3 : (3 * z + 1) * z ≤ x * y * z := Int.mul_le_mul_of_nonneg_right (by omega) (by omega)
  have s4 : (3 * z + 1) * z = 3 * (z * z) + z := by rw [Int.add_mul, Int.mul_assoc]; omega
  have s5 : 3 * x * y * z = 3 * (x * y * z) := by rw [Int.mul_assoc 3 x y, Int.mul_assoc 3 (x * y) z]
  have s6 : 0 ≤ z * z := Int.mul_nonneg (by omega) (by omega)
  omega

theorem tri_spec_no {x y z : Int} (h1 : 1 ≤ x) (h2 : x ≤ y) (h3 : y ≤ z) (h : 3 * z / y < x) : triB x y z = false := by
  simp only [triB, decide_eq_false_iff_not]
  rintro ⟨_, _, _, _, e⟩
  have k := tri_le h1 h2 h3 e
  have : x ≤ 3 * z / y := (Int.le_ediv_iff_mul_le (by omega)).2 k
  omega

theorem triB_out {x y z : Int} (h : ¬ (1 ≤ x ∧ x ≤ y ∧ y ≤ z ∧ z ≤ 1000000000)) : triB x y z = false := by
  simp only [triB, decide_eq_false_iff_not]
  rintro ⟨a, b, c, d, _⟩
  exact h ⟨a, b, c, d⟩

theorem tri_spec {x y z : Int} (h1 : 1 ≤ x) (h2 : x ≤ y) (h3 : y ≤ z) (h4 : z ≤ 1000000000) : (x * x + y * y + z * z == 3 * x * y * z) = triB x y z := by
  rw [Bool.eq_iff_iff]
  simp only [beq_iff_eq, triB, decide_eq_true_eq]
  exact ⟨fun h => ⟨h1, h2, h3, h4, h⟩, fun h => h.2.2.2.2⟩

theorem tri_bd {x y z : Int} (h1 : 1 ≤ x) (h2 : x ≤ y) (h3 : y ≤ z) (h4 : z ≤ 1000000000) (h : y ≤ 1 ∨ x ≤ 3 * z / y) : 0 ≤ 3 * x * y ∧ 3 * x * y ≤ 9000000000 ∧ 0 ≤ 3 * x * y * z ∧ 3 * x * y * z ≤ 9000000000000000000 := by
  have k : x * y ≤ 3 * z := by
    rcases h with h | h
    · obtain rfl : x = 1 := by omega
      obtain rfl : y = 1 := by omega
      omega
    · exact (Int.le_ediv_iff_mul_le (by omega)).1 h
  have k0 : 0 ≤ x * y := Int.mul_nonneg (by omega) (by omega)
  have e : 3 * x * y = 3 * (x * y) := Int.mul_assoc 3 x y
  rw [e]
  have m1 : 3 * (x * y) * z ≤ 9000000000 * z := Int.mul_le_mul_of_nonneg_right (by omega) (by omega)
  have m0 : 0 ≤ 3 * (x * y) * z := Int.mul_nonneg (by omega) (by omega)
  omega

end Go.Proofs.YtcijbgfiefmdkaaDoor
