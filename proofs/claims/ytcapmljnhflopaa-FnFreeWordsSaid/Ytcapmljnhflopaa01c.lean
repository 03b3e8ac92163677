/- Contracts of chapter 1's divisors, sizes and fractions. -/
import Derived.Test.Ytcapmljnhflopaa01
namespace Go.Proofs.Ytcapmljnhflopaa
open Go.RowKit
set_option linter.unusedSimpArgs false

theorem gcd_step (a b : Int) : Int.gcd b (a.tmod b) = Int.gcd a b := by
  unfold Int.gcd
  rw [Int.natAbs_tmod, Nat.gcd_comm a.natAbs b.natAbs, Nat.gcd_comm b.natAbs (a.natAbs % b.natAbs), ← Nat.gcd_rec]
theorem tmod_lt {a b : Int} (h : b ≠ 0) : (a.tmod b).natAbs < b.natAbs := by
  rw [Int.natAbs_tmod]; exact Nat.mod_lt _ (by omega)
theorem tmod_abs {a b A : Int} (h1 : -A ≤ a) (h2 : a ≤ A) : -A ≤ a.tmod b ∧ a.tmod b ≤ A := by
  have e : (a.tmod b).natAbs ≤ a.natAbs := by rw [Int.natAbs_tmod]; exact Nat.mod_le _ _
  omega

set_option maxHeartbeats 400000 in
theorem size_any (n : Int) (w : World) (h1 : -9000000000000000000 ≤ n) (h2 : n ≤ 9000000000000000000) :
    Calls Try.prog 16 #[.int .i64 n] w fun e w' => e = .returned (.int .i64 n.natAbs) ∧ w = w' := by
  go_enter Try.func16, Try.ntmps16
  go_wp2
  all_goals go_ret
  all_goals exact ⟨ret_int (by omega), rfl⟩



/-- Is it a fraction? -/
def fracB (p q : Int) : Bool := (entB p && entB q) && decide (0 ≤ q ∧ Int.gcd p q = 1 ∧ (0 < q ∨ p = 1))
theorem fracB_ents {p q : Int} (h : fracB p q = true) : entB p = true ∧ entB q = true := by simp [fracB] at h; exact h.1
theorem fracB_parts {p q : Int} (h : fracB p q = true) : 0 ≤ q ∧ Int.gcd p q = 1 ∧ (0 < q ∨ p = 1) := by simp [fracB] at h; exact h.2



end Go.Proofs.Ytcapmljnhflopaa
