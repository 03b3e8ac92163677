/- The way down from a triple: plain law. -/
import Derived.Test.Ytcijbgfiefmdkaa09d
namespace Go.Proofs.Ytcijbgfiefmdkaa
open Go.RowKit

theorem one_le_mul {a b : Int} (h : 1 ≤ a) (k : 1 ≤ b) : 1 ≤ a * b := by
  have := Int.mul_pos (a := a) (b := b) (by omega) (by omega)
  omega
theorem sq_one {y : Int} (h : 1 ≤ y) (e : y * y = 1) : y = 1 := by
  have := Int.mul_le_mul_of_nonneg_left (a := 1) (b := y) (c := y) h (by omega)
  omega
/-- The next number stands below. -/
theorem down_num {x y z : Int} (h1 : 1 ≤ x) (h2 : x ≤ y) (h3 : y ≤ z) (e : x * x + y * y + z * z = 3 * x * y * z) (hz : 1 < z) :
    y < z ∧ 1 ≤ 3 * x * y - z ∧ 3 * x * y - z ≤ y := by
  have ex : x * x ≤ y * y := Int.mul_le_mul h2 h2 (by omega) (by omega)
  have ypos : 1 ≤ y * y := one_le_mul (by omega) (by omega)
  have xpos : 1 ≤ x * x := one_le_mul h1 h1
  have en : z * (3 * x * y - z) = x * x + y * y := by
    rw [Int.mul_sub, Int.mul_comm z (3 * x * y)]
    omega
  have hyz : y < z := by
    by_cases hc : y = z
    rotate_left
    · omega
    subst hc
    have e1 : 3 * x * y * y = 3 * (x * (y * y)) := by rw [Int.mul_assoc (3 * x) y y, Int.mul_assoc 3 x (y * y)]
    rw [e1] at e
    have e2 : 1 * (y * y) ≤ x * (y * y) := Int.mul_le_mul_of_nonneg_right h1 (by omega)
    have e3 : y * y = x * (y * y) := by omega
    have e4 : x = 1 := by
      have : (x - 1) * (y * y) = 0 := by rw [Int.sub_mul]; omega
      rcases Int.mul_eq_zero.1 this with h | h <;> omega
    subst e4
    have := sq_one (y := y) (by omega) (by omega)
    omega
  have hn1 : 1 ≤ 3 * x * y - z := by
    by_cases h : 1 ≤ 3 * x * y - z
    · exact h
    · have := Int.mul_le_mul_of_nonneg_left (a := 3 * x * y - z) (b := 0) (c := z) (by omega) (by omega)
      omega
  refine ⟨hyz, hn1, ?_⟩
  by_cases h : 3 * x * y - z ≤ y
  · exact h
  · have hp : 1 ≤ (z - y) * (3 * x * y - z - y) := one_le_mul (by omega) (by omega)
    have ee : (z - y) * (3 * x * y - z - y) = z * (3 * x * y - z) - z * y - (y * (3 * x * y) - y * z - y * y) := by
      rw [Int.sub_mul, Int.mul_sub z, Int.mul_sub y (3 * x * y - z) y, Int.mul_sub y]
    have e1 : y * (3 * x * y) = 3 * (x * (y * y)) := by rw [Int.mul_assoc 3 x y, Int.mul_left_comm y 3, Int.mul_left_comm y x y]
    have e2 : 1 * (y * y) ≤ x * (y * y) := Int.mul_le_mul_of_nonneg_right h1 (by omega)
    have e3 : z * y = y * z := Int.mul_comm _ _
    omega

theorem nb2_ok {t : T3} (h : t.ok = true) (hz : 1 < t.z) : (t.nb 2).ok = true ∧ (t.nb 2).z < t.z := by
  obtain ⟨h1, h2, h3, h4, e⟩ := T3.ok_spec h
  obtain ⟨hyz, hn1, hny⟩ := down_num h1 h2 h3 e hz
  have E : t.nb 2 = sort3 t.x t.y (3 * t.x * t.y - t.z) := by simp [T3.nb]
  rw [E]
  generalize hn : 3 * t.x * t.y - t.z = n at *
  have en : t.x * t.x + t.y * t.y + n * n = 3 * t.x * t.y * n := by
    have e1 : t.z * t.z + t.z * n = 3 * t.x * t.y * t.z := by rw [← Int.mul_add, show t.z + n = 3 * t.x * t.y by omega, Int.mul_comm]
    have e2 : n * t.z + n * n = 3 * t.x * t.y * n := by rw [← Int.mul_add, show t.z + n = 3 * t.x * t.y by omega, Int.mul_comm]
    have e3 : t.z * n = n * t.z := Int.mul_comm _ _
    omega
  have hs : sort3 t.x t.y n = if t.x ≤ n then ⟨t.x, n, t.y⟩ else ⟨n, t.x, t.y⟩ := by
    simp only [sort3]
    split <;> simp only [T3.mk.injEq] <;> omega
  rw [hs]
  have c1 : 3 * t.x * t.y * n = 3 * t.x * n * t.y := by rw [Int.mul_assoc (3 * t.x), Int.mul_comm t.y n, ← Int.mul_assoc]
  have c2 : 3 * t.x * t.y * n = 3 * n * t.x * t.y := by rw [c1, Int.mul_assoc 3 t.x n, Int.mul_comm t.x n, ← Int.mul_assoc]
  unfold T3.ok triB
  split
  · exact ⟨decide_eq_true ⟨by dsimp only; omega, by dsimp only; omega, by dsimp only; omega, by dsimp only; omega, by dsimp only; omega⟩, by dsimp only; omega⟩
  · exact ⟨decide_eq_true ⟨by dsimp only; omega, by dsimp only; omega, by dsimp only; omega, by dsimp only; omega, by dsimp only; omega⟩, by dsimp only; omega⟩

/-- The k-th triple on the way down. -/
def dn (t : T3) : Nat → T3
  | 0 => t
  | k + 1 => (dn t k).nb 2
theorem dn_inv {t : T3} (h : t.ok = true) (k : Nat) (hk : ∀ j, j < k → 1 < (dn t j).z) : (dn t k).ok = true ∧ (dn t k).z + k ≤ t.z := by
  induction k with
  | zero => exact ⟨h, by simp [dn]⟩
  | succ k ih =>
    obtain ⟨h1, h2⟩ := ih fun j hj => hk j (by omega)
    obtain ⟨h3, h4⟩ := nb2_ok h1 (hk k (by omega))
    exact ⟨h3, by show (T3.nb (dn t k) 2).z + ((k + 1 : Nat) : Int) ≤ t.z; omega⟩
theorem ok_one {t : T3} (h : t.ok = true) : t = ⟨1, 1, 1⟩ ↔ ¬ 1 < t.z := by
  obtain ⟨h1, h2, h3, h4, e⟩ := T3.ok_spec h
  constructor
  · intro h; rw [h]; decide
  · intro h
    obtain ⟨x, y, z⟩ := t
    simp only at *
    simp only [T3.mk.injEq]
    omega

/-- All triples on the way down to 1, 1, 1. -/
def dns (t : T3) (k : Nat) : List T3 := (List.range (k + 1)).map (dn t)
theorem dns_length (t : T3) (k : Nat) : (dns t k).length = k + 1 := by simp [dns]
theorem dns_succ (t : T3) (k : Nat) : dns t (k + 1) = dns t k ++ [dn t (k + 1)] := by
  unfold dns
  rw [List.range_succ, List.map_append]
  rfl
theorem dns_get (t : T3) (k j : Nat) (h : j < (dns t k).length) : (dns t k)[j] = dn t j := by simp [dns]
/-- The way ends at step k. -/
def Ends (t : T3) (k : Nat) : Prop := (∀ j, j < k → 1 < (dn t j).z) ∧ ¬ 1 < (dn t k).z
theorem Ends.unique {t : T3} {k l : Nat} (h : Ends t k) (g : Ends t l) : k = l := by
  rcases Nat.lt_trichotomy k l with e | e | e
  · exact absurd (g.1 k e) h.2
  · exact e
  · exact absurd (h.1 l e) g.2

end Go.Proofs.Ytcijbgfiefmdkaa
