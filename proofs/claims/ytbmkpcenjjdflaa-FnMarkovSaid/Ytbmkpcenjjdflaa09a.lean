/- Contracts of chapter 9's tests: is it a triple? -/
import Derived.Test.Ytbmkpcenjjdflaa01
namespace Go.Proofs.Ytbmkpcenjjdflaa
open Go.RowKit

/-- Is it a triple of Markov with ordered small numbers? -/
def triB (a b c : Int) : Bool := decide (1 ≤ a ∧ a ≤ b ∧ b ≤ c ∧ c ≤ 1000000000 ∧ a * a + b * b + c * c = 3 * a * b * c)

theorem sq_bd {a A : Int} (h : 0 ≤ a) (k : a ≤ A) : 0 ≤ a * a ∧ a * a ≤ A * A :=
  ⟨Int.mul_nonneg h h, Int.mul_le_mul k k h (by omega)⟩

theorem tri_impl {x y z : Int} (h1 : 1 ≤ x) (h2 : x ≤ y) (h3 : y ≤ z) (h4 : z ≤ 1000000000) :
    ((((x * x + y * y) % z == 0) && ((x * x + y * y) / z == 3 * x * y - z)) = triB x y z) := by
  rw [Bool.eq_iff_iff]
  simp only [Bool.and_eq_true, beq_iff_eq, triB, decide_eq_true_eq]
  constructor
  · rintro ⟨h, k⟩
    refine ⟨h1, h2, h3, h4, ?_⟩
    have e := Int.mul_ediv_add_emod (x * x + y * y) z
    rw [h, k, Int.mul_sub] at e
    have e2 : z * (3 * x * y) = 3 * x * y * z := Int.mul_comm _ _
    omega
  · rintro ⟨_, _, _, _, e⟩
    have e1 : x * x + y * y = z * (3 * x * y - z) := by
      rw [Int.mul_sub, Int.mul_comm z (3 * x * y)]
      omega
    rw [e1]
    exact ⟨Int.mul_emod_right _ _, Int.mul_ediv_cancel_left _ (by omega)⟩

/-- In a triple x y is at most 3 z. -/
theorem tri_le {x y z : Int} (h1 : 1 ≤ x) (h2 : x ≤ y) (h3 : y ≤ z) (e : x * x + y * y + z * z = 3 * x * y * z) : x * y ≤ 3 * z := by
  apply Int.not_lt.1
  intro h
  have s1 := (sq_bd (a := x) (A := z) (by omega) (by omega)).2
  have s2 := (sq_bd (a := y) (A := z) (by omega) (by omega)).2
  have s3 : (3 * z + 1) * z ≤ x * y * z := Int.mul_le_mul_of_nonneg_right (by omega) (by omega)
  have s4 : (3 * z + 1) * z = 3 * (z * z) + z := by rw [Int.add_mul, Int.mul_assoc]; omega
  have s5 : 3 * x * y * z = 3 * (x * y * z) := by rw [Int.mul_assoc 3 x y, Int.mul_assoc 3 (x * y) z]
  have s6 : 0 ≤ z * z := Int.mul_nonneg (by omega) (by omega)
  omega

theorem tri_spec_no {x y z : Int} (h1 : 1 ≤ x) (h2 : x ≤ y) (h3 : y ≤ z) (h : 3 * z / y < x) : triB x y z = false := by
  simp only [triB, decide_eq_false_iff_not]
  rintro ⟨_, _, _, _, e⟩
  have k := tri_le h1 h2 h3 e
  have : x ≤ 3 * z / y := (Int.le_ediv_iff_mul_le (by omega)).2 k
  omega

theorem triB_out {x y z : Int} (h : ¬ (1 ≤ x ∧ x ≤ y ∧ y ≤ z ∧ z ≤ 1000000000)) : triB x y z = false := by
  simp only [triB, decide_eq_false_iff_not]
  rintro ⟨a, b, c, d, _⟩
  exact h ⟨a, b, c, d⟩

set_option maxHeartbeats 1000000 in
theorem IsTriple_any (x y z : Int) (w : World) :
    Calls Try.prog 20 #[.agg #[.int .i64 x, .int .i64 y, .int .i64 z]] w fun e w' => e = .returned (.bool (triB x y z)) ∧ Below w.heap.size w w' := by
  by_cases hin : 1 ≤ x ∧ x ≤ y ∧ y ≤ z ∧ z ≤ 1000000000
  · obtain ⟨h1, h2, h3, h4⟩ := hin
    have b1 := inB_mk (n := z) (lo := 1) (hi := 1000000000) ⟨by omega, by omega⟩
    have b2 := inB_mk (n := y) (lo := 1) (hi := z) ⟨by omega, by omega⟩
    have b3 := inB_mk (n := x) (lo := 1) (hi := y) ⟨by omega, by omega⟩
    have s1 := sq_bd (a := x) (A := 1000000000) (by omega) (by omega)
    have s2 := sq_bd (a := y) (A := 1000000000) (by omega) (by omega)
    have s3 := mul_bd (a := x) (b := y) (A := 1000000000) (B := 1000000000) (by omega) (by omega) (by omega) (by omega)
    have s4 : 3 * x * y = 3 * (x * y) := Int.mul_assoc 3 x y
    have s5 : -3000000000000000000 ≤ 3 * x * y ∧ 3 * x * y ≤ 3000000000000000000 := by omega
    have fin := tri_impl h1 h2 h3 h4
    have F := Lib.hid fin
    clear fin s4
    go_enter Try.func20, Try.ntmps20
    go_wp2_with fail
    go_quiet (fail)
    go_wp2_with (go_at_call 31; refine (within_any _ _ _ _).mono ?_; rintro e w' ⟨rfl, rfl⟩)
    · go_ret
      have h0 : (x * x + y * y) % z = 0 := by assumption
      exact ⟨ret_bool (by rw [← F.out, h0]; simp), (by repeat (first | (with_reducible exact Below.refl _ _) | (with_reducible assumption) | (with_reducible refine Below.drew ?_) | (with_reducible refine Below.drewN ?_) | ((with_reducible refine Below.al ?_ ?_); · first | omega | (simp; done) | (simp; omega)) | ((with_reducible refine Below.sc ?_ ?_); · first | omega | (simp; done) | (simp; omega)) | ((with_reducible refine Below.thru hb ?_ ?_); · first | omega | (simp; done) | (simp; omega))))⟩
    · go_ret
      have h0 : ¬ (x * x + y * y) % z = 0 := by assumption
      exact ⟨ret_bool (by rw [← F.out]; simp [h0]), (by repeat (first | (with_reducible exact Below.refl _ _) | (with_reducible assumption) | (with_reducible refine Below.drew ?_) | (with_reducible refine Below.drewN ?_) | ((with_reducible refine Below.al ?_ ?_); · first | omega | (simp; done) | (simp; omega)) | ((with_reducible refine Below.sc ?_ ?_); · first | omega | (simp; done) | (simp; omega)) | ((with_reducible refine Below.thru hb ?_ ?_); · first | omega | (simp; done) | (simp; omega))))⟩
  · have fin := triB_out hin
    have F := Lib.hid fin
    cases b1 : inB z 1 1000000000 with
    | false =>
      clear fin hin
      go_enter Try.func20, Try.ntmps20
      go_wp2_with fail
      go_quiet (fail)
      go_wp2_with (go_at_call 31; refine (within_any _ _ _ _).mono ?_; rintro e w' ⟨rfl, rfl⟩)
      go_ret
      exact ⟨ret_bool F.out.symm, (by repeat (first | (with_reducible exact Below.refl _ _) | (with_reducible assumption) | (with_reducible refine Below.drew ?_) | (with_reducible refine Below.drewN ?_) | ((with_reducible refine Below.al ?_ ?_); · first | omega | (simp; done) | (simp; omega)) | ((with_reducible refine Below.sc ?_ ?_); · first | omega | (simp; done) | (simp; omega)) | ((with_reducible refine Below.thru hb ?_ ?_); · first | omega | (simp; done) | (simp; omega))))⟩
    | true =>
      cases b2 : inB y 1 z with
      | false =>
        clear fin hin
        go_enter Try.func20, Try.ntmps20
        go_wp2_with fail
        go_quiet (fail)
        go_wp2_with (go_at_call 31; refine (within_any _ _ _ _).mono ?_; rintro e w' ⟨rfl, rfl⟩)
        go_ret
        exact ⟨ret_bool F.out.symm, (by repeat (first | (with_reducible exact Below.refl _ _) | (with_reducible assumption) | (with_reducible refine Below.drew ?_) | (with_reducible refine Below.drewN ?_) | ((with_reducible refine Below.al ?_ ?_); · first | omega | (simp; done) | (simp; omega)) | ((with_reducible refine Below.sc ?_ ?_); · first | omega | (simp; done) | (simp; omega)) | ((with_reducible refine Below.thru hb ?_ ?_); · first | omega | (simp; done) | (simp; omega))))⟩
      | true =>
        cases b3 : inB x 1 y with
        | false =>
          clear fin hin
          go_enter Try.func20, Try.ntmps20
          go_wp2_with fail
          go_quiet (fail)
          go_wp2_with (go_at_call 31; refine (within_any _ _ _ _).mono ?_; rintro e w' ⟨rfl, rfl⟩)
          go_ret
          exact ⟨ret_bool F.out.symm, (by repeat (first | (with_reducible exact Below.refl _ _) | (with_reducible assumption) | (with_reducible refine Below.drew ?_) | (with_reducible refine Below.drewN ?_) | ((with_reducible refine Below.al ?_ ?_); · first | omega | (simp; done) | (simp; omega)) | ((with_reducible refine Below.sc ?_ ?_); · first | omega | (simp; done) | (simp; omega)) | ((with_reducible refine Below.thru hb ?_ ?_); · first | omega | (simp; done) | (simp; omega))))⟩
        | true =>
          have c1 := inB_true b1
          have c2 := inB_true b2
          have c3 := inB_true b3
          omega

theorem tri_spec {x y z : Int} (h1 : 1 ≤ x) (h2 : x ≤ y) (h3 : y ≤ z) (h4 : z ≤ 1000000000) : (x * x + y * y + z * z == 3 * x * y * z) = triB x y z := by
  rw [Bool.eq_iff_iff]
  simp only [beq_iff_eq, triB, decide_eq_true_eq]
  exact ⟨fun h => ⟨h1, h2, h3, h4, h⟩, fun h => h.2.2.2.2⟩

theorem tri_bd {x y z : Int} (h1 : 1 ≤ x) (h2 : x ≤ y) (h3 : y ≤ z) (h4 : z ≤ 1000000000) (h : y ≤ 1 ∨ x ≤ 3 * z / y) : 0 ≤ 3 * x * y ∧ 3 * x * y ≤ 9000000000 ∧ 0 ≤ 3 * x * y * z ∧ 3 * x * y * z ≤ 9000000000000000000 := by
  have k : x * y ≤ 3 * z := by
    rcases h with h | h
    · obtain rfl : x = 1 := by omega
      obtain rfl : y = 1 := by omega
      omega
    · exact (Int.le_ediv_iff_mul_le (by omega)).1 h
  have k0 : 0 ≤ x * y := Int.mul_nonneg (by omega) (by omega)
  have e : 3 * x * y = 3 * (x * y) := Int.mul_assoc 3 x y
  rw [e]
  have m1 : 3 * (x * y) * z ≤ 9000000000 * z := Int.mul_le_mul_of_nonneg_right (by omega) (by omega)
  have m0 : 0 ≤ 3 * (x * y) * z := Int.mul_nonneg (by omega) (by omega)
  omega

set_option maxHeartbeats 1000000 in
theorem l09Is_any (x y z : Int) (w : World) :
    Calls Try.prog 41 #[.agg #[.int .i64 x, .int .i64 y, .int .i64 z]] w fun e w' => e = .returned (.bool (triB x y z)) ∧ Below w.heap.size w w' := by
  by_cases hin : 1 ≤ x ∧ x ≤ y ∧ y ≤ z ∧ z ≤ 1000000000
  · obtain ⟨h1, h2, h3, h4⟩ := hin
    have b3 := inB_mk (n := x) (lo := 1) (hi := y) ⟨by omega, by omega⟩
    have s1 := sq_bd (a := x) (A := 1000000000) (by omega) (by omega)
    have s2 := sq_bd (a := y) (A := 1000000000) (by omega) (by omega)
    have s3 := sq_bd (a := z) (A := 1000000000) (by omega) (by omega)
    by_cases hy : 1 < y
    · by_cases hq : 3 * z / y < x
      · have F := Lib.hid (tri_spec_no h1 h2 h3 hq)
        go_enter Try.func41, Try.ntmps41
        go_wp2_with (go_at_call 29; refine (l01In_any _ _ _ _).mono ?_; rintro e w' ⟨rfl, rfl⟩)
        go_quiet (fail)
        go_wp2
        go_ret
        exact ⟨ret_bool F.out.symm, (by repeat (first | (with_reducible exact Below.refl _ _) | (with_reducible assumption) | (with_reducible refine Below.drew ?_) | (with_reducible refine Below.drewN ?_) | ((with_reducible refine Below.al ?_ ?_); · first | omega | (simp; done) | (simp; omega)) | ((with_reducible refine Below.sc ?_ ?_); · first | omega | (simp; done) | (simp; omega)) | ((with_reducible refine Below.thru hb ?_ ?_); · first | omega | (simp; done) | (simp; omega))))⟩
      · have F := Lib.hid (tri_spec h1 h2 h3 h4)
        obtain ⟨q1, q2, q3, q4⟩ := tri_bd h1 h2 h3 h4 (.inr (by omega))
        go_enter Try.func41, Try.ntmps41
        go_wp2_with (go_at_call 29; refine (l01In_any _ _ _ _).mono ?_; rintro e w' ⟨rfl, rfl⟩)
        go_quiet (fail)
        go_wp2
        go_ret
        exact ⟨ret_bool F.out, (by repeat (first | (with_reducible exact Below.refl _ _) | (with_reducible assumption) | (with_reducible refine Below.drew ?_) | (with_reducible refine Below.drewN ?_) | ((with_reducible refine Below.al ?_ ?_); · first | omega | (simp; done) | (simp; omega)) | ((with_reducible refine Below.sc ?_ ?_); · first | omega | (simp; done) | (simp; omega)) | ((with_reducible refine Below.thru hb ?_ ?_); · first | omega | (simp; done) | (simp; omega))))⟩
    · have F := Lib.hid (tri_spec h1 h2 h3 h4)
      obtain ⟨q1, q2, q3, q4⟩ := tri_bd h1 h2 h3 h4 (.inl (by omega))
      have hd : decide (1 < y) = false := by simpa using hy
      go_enter Try.func41, Try.ntmps41
      go_wp2_with (go_at_call 29; refine (l01In_any _ _ _ _).mono ?_; rintro e w' ⟨rfl, rfl⟩)
      go_quiet (fail)
      go_wp2
      go_ret
      exact ⟨ret_bool F.out, (by repeat (first | (with_reducible exact Below.refl _ _) | (with_reducible assumption) | (with_reducible refine Below.drew ?_) | (with_reducible refine Below.drewN ?_) | ((with_reducible refine Below.al ?_ ?_); · first | omega | (simp; done) | (simp; omega)) | ((with_reducible refine Below.sc ?_ ?_); · first | omega | (simp; done) | (simp; omega)) | ((with_reducible refine Below.thru hb ?_ ?_); · first | omega | (simp; done) | (simp; omega))))⟩
  · have F := Lib.hid (triB_out hin)
    cases b1 : inB x 1 y with
    | false =>
      clear hin
      go_enter Try.func41, Try.ntmps41
      go_wp2_with (go_at_call 29; refine (l01In_any _ _ _ _).mono ?_; rintro e w' ⟨rfl, rfl⟩)
      go_ret
      exact ⟨ret_bool F.out.symm, (by repeat (first | (with_reducible exact Below.refl _ _) | (with_reducible assumption) | (with_reducible refine Below.drew ?_) | (with_reducible refine Below.drewN ?_) | ((with_reducible refine Below.al ?_ ?_); · first | omega | (simp; done) | (simp; omega)) | ((with_reducible refine Below.sc ?_ ?_); · first | omega | (simp; done) | (simp; omega)) | ((with_reducible refine Below.thru hb ?_ ?_); · first | omega | (simp; done) | (simp; omega))))⟩
    | true =>
      by_cases b2 : z < y
      · clear hin
        go_enter Try.func41, Try.ntmps41
        go_wp2_with (go_at_call 29; refine (l01In_any _ _ _ _).mono ?_; rintro e w' ⟨rfl, rfl⟩)
        go_ret
        exact ⟨ret_bool F.out.symm, (by repeat (first | (with_reducible exact Below.refl _ _) | (with_reducible assumption) | (with_reducible refine Below.drew ?_) | (with_reducible refine Below.drewN ?_) | ((with_reducible refine Below.al ?_ ?_); · first | omega | (simp; done) | (simp; omega)) | ((with_reducible refine Below.sc ?_ ?_); · first | omega | (simp; done) | (simp; omega)) | ((with_reducible refine Below.thru hb ?_ ?_); · first | omega | (simp; done) | (simp; omega))))⟩
      · have b3 : 1000000000 < z := by have := inB_true b1; omega
        clear hin
        go_enter Try.func41, Try.ntmps41
        go_wp2_with (go_at_call 29; refine (l01In_any _ _ _ _).mono ?_; rintro e w' ⟨rfl, rfl⟩)
        go_ret
        exact ⟨ret_bool F.out.symm, (by repeat (first | (with_reducible exact Below.refl _ _) | (with_reducible assumption) | (with_reducible refine Below.drew ?_) | (with_reducible refine Below.drewN ?_) | ((with_reducible refine Below.al ?_ ?_); · first | omega | (simp; done) | (simp; omega)) | ((with_reducible refine Below.sc ?_ ?_); · first | omega | (simp; done) | (simp; omega)) | ((with_reducible refine Below.thru hb ?_ ?_); · first | omega | (simp; done) | (simp; omega))))⟩

set_option maxHeartbeats 400000 in
theorem specIsTriple_any (x y z : Int) (w : World) :
    Calls Try.prog 21 #[.agg #[.int .i64 x, .int .i64 y, .int .i64 z]] w fun e w' => e = .returned (.bool (triB x y z)) ∧ Below w.heap.size w w' := by
  go_enter Try.func21, Try.ntmps21
  go_wp2_with (go_at_call 41; refine (l09Is_any _ _ _ _).mono ?_; rintro e w1 ⟨rfl, hb⟩; have hbs := hb.size; try simp at hbs)
  go_ret
  exact ⟨rfl, (by repeat (first | (with_reducible exact Below.refl _ _) | (with_reducible assumption) | (with_reducible refine Below.drew ?_) | (with_reducible refine Below.drewN ?_) | ((with_reducible refine Below.al ?_ ?_); · first | omega | (simp; done) | (simp; omega)) | ((with_reducible refine Below.sc ?_ ?_); · first | omega | (simp; done) | (simp; omega)) | ((with_reducible refine Below.thru hb ?_ ?_); · first | omega | (simp; done) | (simp; omega))))⟩

end Go.Proofs.Ytbmkpcenjjdflaa
