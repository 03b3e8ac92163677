/- Contracts of chapter 1's divisors, sizes and fractions. -/
import Derived.Test.YtfjmbpbilfhfbaaGreat01
namespace Go.Proofs.YtfjmbpbilfhfbaaGreat
open Go.RowKit
set_option linter.unusedSimpArgs false

theorem gcd_step (a b : Int) : Int.gcd b (a.tmod b) = Int.gcd a b := by
  unfold Int.gcd
  rw [Int.natAbs_tmod, Nat.gcd_comm a.natAbs b.natAbs, Nat.gcd_comm b.natAbs (a.natAbs % b.natAbs), ← Nat.gcd_rec]
theorem tmod_lt {a b : Int} (h : b ≠ 0) : (a.tmod b).natAbs < b.natAbs := by
  rw [Int.natAbs_tmod]; exact Nat.mod_lt _ (by omega)
theorem tmod_abs {a b A : Int} (h1 : -A ≤ a) (h2 : a ≤ A) : -A ≤ a.tmod b ∧ a.tmod b ≤ A := by
  have e : (a.tmod b).natAbs ≤ a.natAbs := by rw [Int.natAbs_tmod]; exact Nat.mod_le _ _
  omega

set_option maxHeartbeats 400000 in
theorem size_any (n : Int) (w : World) (h1 : -9000000000000000000 ≤ n) (h2 : n ≤ 9000000000000000000) :
    Calls Tryz.prog 44 #[.int .i64 n] w fun e w' => e = .returned (.int .i64 n.natAbs) ∧ w = w' := by
  go_enter Tryz.func44, Tryz.ntmps44
  go_wp2
  all_goals go_ret
  all_goals exact ⟨ret_int (by omega), rfl⟩

set_option maxHeartbeats 400000 in
theorem divisor_any (a b : Int) (w : World) (h1 : -9000000000000000000 ≤ a) (h2 : a ≤ 9000000000000000000) (h3 : -9000000000000000000 ≤ b) (h4 : b ≤ 9000000000000000000) :
    Calls Tryz.prog 47 #[.int .i64 a, .int .i64 b] w fun e w' => e = .returned (.int .i64 (Int.gcd a b)) ∧ Below w.heap.size w w' := by
  go_enter Tryz.func47, Tryz.ntmps47
  go_wp2
  go_loopw [0, 1] (fun x y wr => ∃ p q : Int, x = .int .i64 p ∧ y = .int .i64 q ∧ (-9000000000000000000 ≤ p ∧ p ≤ 9000000000000000000) ∧ (-9000000000000000000 ≤ q ∧ q ≤ 9000000000000000000) ∧ Hid (Int.gcd p q = Int.gcd a b) ∧ Below w.heap.size w wr) (fun _ y _ => (intOf y).natAbs)
  case atStart => exact ⟨a, b, rfl, rfl, ⟨h1, h2⟩, ⟨h3, h4⟩, rfl, Below.refl _ _⟩
  case round =>
    obtain ⟨p, q, rfl, rfl, hp, hq, hg, hbel⟩ := hrel
    by_cases h0 : q = 0
    · subst h0
      have G := Lib.hid hg.out
      clear hg
      go_wp2_with (go_at_call 44; refine (size_any _ _ (by omega) (by omega)).mono ?_; rintro e w' ⟨rfl, rfl⟩)
      go_ret
      exact ⟨ret_int (by rw [← G.out, Int.gcd_zero_right]), (by repeat (first | (with_reducible exact Below.refl _ _) | (with_reducible assumption) | (with_reducible refine Below.drew ?_) | (with_reducible refine Below.drewN ?_) | ((with_reducible refine Below.al ?_ ?_); · first | omega | (simp; done) | (simp; omega)) | ((with_reducible refine Below.sc ?_ ?_); · first | omega | (simp; done) | (simp; omega)) | ((with_reducible refine Below.thru hb ?_ ?_); · first | omega | (simp; done) | (simp; omega))))⟩
    · have hb := tmod_abs (b := q) hp.1 hp.2
      have G := Lib.hid (And.intro (gcd_step p q) (tmod_lt (a := p) h0))
      go_wp2_with fail
      go_quiet (fail)
      go_wp2
      go_roundw
      case rel => exact ⟨q, p.tmod q, rfl, rfl, hq, hb, G.out.1.trans hg.out, (by repeat (first | (with_reducible exact Below.refl _ _) | (with_reducible assumption) | (with_reducible refine Below.drew ?_) | (with_reducible refine Below.drewN ?_) | ((with_reducible refine Below.al ?_ ?_); · first | omega | (simp; done) | (simp; omega)) | ((with_reducible refine Below.sc ?_ ?_); · first | omega | (simp; done) | (simp; omega)) | ((with_reducible refine Below.thru hb ?_ ?_); · first | omega | (simp; done) | (simp; omega))))⟩
      case measure => simpa [intOf] using G.out.2

set_option maxHeartbeats 400000 in
theorem l01Gcd_any (a b : Int) (w : World) (h1 : -9000000000000000000 ≤ a) (h2 : a ≤ 9000000000000000000) (h3 : -9000000000000000000 ≤ b) (h4 : b ≤ 9000000000000000000) :
    Calls Tryz.prog 54 #[.int .i64 a, .int .i64 b] w fun e w' => e = .returned (.int .i64 (Int.gcd a b)) ∧ w = w' := by
  go_enter Tryz.func54, Tryz.ntmps54
  go_wp2
  go_loop [0, 1] (fun x y => ∃ p q : Int, x = .int .i64 p ∧ y = .int .i64 q ∧ (-9000000000000000000 ≤ p ∧ p ≤ 9000000000000000000) ∧ (-9000000000000000000 ≤ q ∧ q ≤ 9000000000000000000) ∧ Hid (Int.gcd p q = Int.gcd a b)) (fun _ y => (intOf y).natAbs)
  case atStart => exact ⟨a, b, rfl, rfl, ⟨h1, h2⟩, ⟨h3, h4⟩, rfl⟩
  case round =>
    obtain ⟨p, q, rfl, rfl, hp, hq, hg⟩ := hrel
    by_cases h0 : q = 0
    · subst h0
      have G := Lib.hid hg.out
      clear hg
      go_wp2
      all_goals go_ret
      all_goals exact ⟨ret_int (by rw [← G.out, Int.gcd_zero_right]; omega), rfl⟩
    · have hb := tmod_abs (b := q) hp.1 hp.2
      have G := Lib.hid (And.intro (gcd_step p q) (tmod_lt (a := p) h0))
      go_wp2
      go_round
      case rel => exact ⟨q, p.tmod q, rfl, rfl, hq, hb, G.out.1.trans hg.out⟩
      case measure => simpa [intOf] using G.out.2

/-- Is it a fraction? -/
def fracB (p q : Int) : Bool := (entB p && entB q) && decide (0 ≤ q ∧ Int.gcd p q = 1 ∧ (0 < q ∨ p = 1))
theorem fracB_ents {p q : Int} (h : fracB p q = true) : entB p = true ∧ entB q = true := by simp [fracB] at h; exact h.1
theorem fracB_parts {p q : Int} (h : fracB p q = true) : 0 ≤ q ∧ Int.gcd p q = 1 ∧ (0 < q ∨ p = 1) := by simp [fracB] at h; exact h.2



end Go.Proofs.YtfjmbpbilfhfbaaGreat
