/- Quotients rounded down: both walks. -/
import Derived.Test.Ytcapmljnhflopaa01
namespace Go.Proofs.Ytcapmljnhflopaa
open Go.RowKit

/-- The greatest whole number that is at most a / b, for b other than 0. -/
def flr (a b : Int) : Int := if 0 < b then a / b else (-a) / (-b)
theorem neg_div (x b : Int) (hb : 0 < b) : (-x) / b = -(x / b) - (if x % b = 0 then 0 else 1) := by
  have h1 := Int.emod_nonneg x (show b ≠ 0 by omega)
  have h2 := Int.emod_lt_of_pos x hb
  have h3 := Int.mul_ediv_add_emod x b
  split
  · exact ((Int.ediv_emod_unique (r := 0) hb).2 ⟨by rw [Int.mul_sub, Int.mul_neg]; omega, by omega, by omega⟩).1
  · exact ((Int.ediv_emod_unique (r := b - x % b) hb).2 ⟨by rw [Int.mul_sub, Int.mul_neg]; omega, by omega, by omega⟩).1
theorem flr_pos {a b : Int} (hb : 0 < b) : flr a b = a / b := by unfold flr; rw [if_pos hb]
theorem tdiv_neg' (x b : Int) (hx : 0 ≤ x) : (-x).tdiv b = -(x / b) := by rw [Int.neg_tdiv, Int.tdiv_eq_ediv_of_nonneg hx]
theorem tmod_neg' (x b : Int) (hx : 0 ≤ x) : (-x).tmod b = -(x % b) := by rw [Int.neg_tmod, Int.tmod_eq_emod_of_nonneg hx]
/-- Quotient and rest of a number below 0. -/
theorem flr_neg {a b : Int} (hb : 0 < b) (ha : a < 0) : (a.tmod b < 0 → flr a b = a.tdiv b - 1) ∧ (¬ a.tmod b < 0 → flr a b = a.tdiv b) ∧ (a.tmod b ≤ 0) := by
  obtain ⟨x, rfl⟩ : ∃ x, a = -x := ⟨-a, by omega⟩
  have h1 := Int.emod_nonneg x (show b ≠ 0 by omega)
  have hn := neg_div x b hb
  rw [tdiv_neg' x b (by omega), tmod_neg' x b (by omega)]
  unfold flr
  rw [if_pos hb, hn]
  refine ⟨fun h => ?_, fun h => ?_, by omega⟩
  · rw [if_neg (by omega)]
  · rw [if_pos (by omega)]; omega
theorem flr_flip {a b : Int} (hb : b < 0) : flr a b = flr (-a) (-b) := by
  unfold flr
  rw [if_neg (by omega), if_pos (by omega)]
theorem ediv_bd {a b : Int} (hb : 0 < b) (ha : -4000000000 ≤ a ∧ a ≤ 4000000000) : -4000000000 ≤ a / b ∧ a / b ≤ 4000000000 := by
  have h1 := Int.emod_nonneg a (show b ≠ 0 by omega)
  have h2 := Int.emod_lt_of_pos a hb
  have h3 := Int.mul_ediv_add_emod a b
  constructor
  · by_cases h : -4000000000 ≤ a / b
    · exact h
    · have := Int.mul_le_mul_of_nonneg_left (a := a / b) (b := -4000000001) (c := b) (by omega) (by omega)
      omega
  · by_cases h : a / b ≤ 4000000000
    · exact h
    · have := Int.mul_le_mul_of_nonneg_left (a := 4000000001) (b := a / b) (c := b) (by omega) (by omega)
      omega
theorem flr_bd {a b : Int} (hb : b ≠ 0) (ha : -4000000000 ≤ a ∧ a ≤ 4000000000) : -4000000000 ≤ flr a b ∧ flr a b ≤ 4000000000 := by
  unfold flr
  split
  · exact ediv_bd (by omega) ha
  · exact ediv_bd (by omega) (by omega)

set_option maxRecDepth 8000 in
set_option maxHeartbeats 400000 in
theorem l02Floor_any (a b : Int) (w : World) (hb : b ≠ 0) (ha : -4000000000 ≤ a ∧ a ≤ 4000000000) (hb2 : -4000000000 ≤ b ∧ b ≤ 4000000000) :
    Calls Try.prog 46 #[.int .i64 a, .int .i64 b] w fun e w' => e = .returned (.int .i64 (flr a b)) ∧ Below w.heap.size w w' := by
  by_cases hp : 0 < b
  · have hn : ¬ b < 0 := by omega
    by_cases h0 : 0 ≤ a
    · have HF := Lib.hid (show flr a b = a / b by exact flr_pos (by omega))
      have hm := Int.emod_nonneg (a) (show b ≠ 0 by omega)
      have hm2 : ¬ a % b < 0 := by omega
      clear hm
      go_enter Try.func46, Try.ntmps46
      go_wp2
      go_ret
      exact ⟨ret_int HF.out.symm, (by repeat (first | (with_reducible exact Below.refl _ _) | (with_reducible assumption) | (with_reducible refine Below.drew ?_) | (with_reducible refine Below.drewN ?_) | ((with_reducible refine Below.al ?_ ?_); · first | omega | (simp; done) | (simp; omega)) | ((with_reducible refine Below.sc ?_ ?_); · first | omega | (simp; done) | (simp; omega)) | ((with_reducible refine Below.thru hb ?_ ?_); · first | omega | (simp; done) | (simp; omega))))⟩
    · have hneg := flr_neg (a := a) (b := b) (by omega) (by omega)
      by_cases hr : (a).tmod (b) < 0
      · have HF := Lib.hid (show flr a b = (a).tdiv (b) - 1 by exact hneg.1 hr)
        have hfb := flr_bd (a := a) (b := b) (by omega) (by omega)
        have hq : -5000000000 ≤ (a).tdiv (b) ∧ (a).tdiv (b) ≤ 5000000000 := by have := hneg.1 hr; omega
        clear hneg hfb
        go_enter Try.func46, Try.ntmps46
        go_wp2
        go_ret
        exact ⟨ret_int HF.out.symm, (by repeat (first | (with_reducible exact Below.refl _ _) | (with_reducible assumption) | (with_reducible refine Below.drew ?_) | (with_reducible refine Below.drewN ?_) | ((with_reducible refine Below.al ?_ ?_); · first | omega | (simp; done) | (simp; omega)) | ((with_reducible refine Below.sc ?_ ?_); · first | omega | (simp; done) | (simp; omega)) | ((with_reducible refine Below.thru hb ?_ ?_); · first | omega | (simp; done) | (simp; omega))))⟩
      · have HF := Lib.hid (show flr a b = (a).tdiv (b) by exact hneg.2.1 hr)
        clear hneg
        go_enter Try.func46, Try.ntmps46
        go_wp2
        go_ret
        exact ⟨ret_int HF.out.symm, (by repeat (first | (with_reducible exact Below.refl _ _) | (with_reducible assumption) | (with_reducible refine Below.drew ?_) | (with_reducible refine Below.drewN ?_) | ((with_reducible refine Below.al ?_ ?_); · first | omega | (simp; done) | (simp; omega)) | ((with_reducible refine Below.sc ?_ ?_); · first | omega | (simp; done) | (simp; omega)) | ((with_reducible refine Below.thru hb ?_ ?_); · first | omega | (simp; done) | (simp; omega))))⟩
  · obtain ⟨c, rfl⟩ : ∃ c, a = -c := ⟨-a, by omega⟩
    obtain ⟨e, rfl⟩ : ∃ e, b = -e := ⟨-b, by omega⟩
    have hn : 0 < e := by omega
    by_cases h0 : 0 ≤ c
    · have HF := Lib.hid (show flr (-c) (-e) = c / e by rw [flr_flip (by omega), Int.neg_neg, Int.neg_neg]; exact flr_pos (by omega))
      have hm := Int.emod_nonneg (c) (show e ≠ 0 by omega)
      have hm2 : ¬ c % e < 0 := by omega
      clear hm
      go_enter Try.func46, Try.ntmps46
      go_wp2
      go_ret
      exact ⟨ret_int HF.out.symm, (by repeat (first | (with_reducible exact Below.refl _ _) | (with_reducible assumption) | (with_reducible refine Below.drew ?_) | (with_reducible refine Below.drewN ?_) | ((with_reducible refine Below.al ?_ ?_); · first | omega | (simp; done) | (simp; omega)) | ((with_reducible refine Below.sc ?_ ?_); · first | omega | (simp; done) | (simp; omega)) | ((with_reducible refine Below.thru hb ?_ ?_); · first | omega | (simp; done) | (simp; omega))))⟩
    · have hneg := flr_neg (a := c) (b := e) (by omega) (by omega)
      by_cases hr : (c).tmod (e) < 0
      · have HF := Lib.hid (show flr (-c) (-e) = (c).tdiv (e) - 1 by rw [flr_flip (by omega), Int.neg_neg, Int.neg_neg]; exact hneg.1 hr)
        have hfb := flr_bd (a := c) (b := e) (by omega) (by omega)
        have hq : -5000000000 ≤ (c).tdiv (e) ∧ (c).tdiv (e) ≤ 5000000000 := by have := hneg.1 hr; omega
        clear hneg hfb
        go_enter Try.func46, Try.ntmps46
        go_wp2
        go_ret
        exact ⟨ret_int HF.out.symm, (by repeat (first | (with_reducible exact Below.refl _ _) | (with_reducible assumption) | (with_reducible refine Below.drew ?_) | (with_reducible refine Below.drewN ?_) | ((with_reducible refine Below.al ?_ ?_); · first | omega | (simp; done) | (simp; omega)) | ((with_reducible refine Below.sc ?_ ?_); · first | omega | (simp; done) | (simp; omega)) | ((with_reducible refine Below.thru hb ?_ ?_); · first | omega | (simp; done) | (simp; omega))))⟩
      · have HF := Lib.hid (show flr (-c) (-e) = (c).tdiv (e) by rw [flr_flip (by omega), Int.neg_neg, Int.neg_neg]; exact hneg.2.1 hr)
        clear hneg
        go_enter Try.func46, Try.ntmps46
        go_wp2
        go_ret
        exact ⟨ret_int HF.out.symm, (by repeat (first | (with_reducible exact Below.refl _ _) | (with_reducible assumption) | (with_reducible refine Below.drew ?_) | (with_reducible refine Below.drewN ?_) | ((with_reducible refine Below.al ?_ ?_); · first | omega | (simp; done) | (simp; omega)) | ((with_reducible refine Below.sc ?_ ?_); · first | omega | (simp; done) | (simp; omega)) | ((with_reducible refine Below.thru hb ?_ ?_); · first | omega | (simp; done) | (simp; omega))))⟩

set_option maxRecDepth 8000 in
set_option maxHeartbeats 400000 in
theorem floor_any (a b : Int) (w : World) (hb : b ≠ 0) (ha : -4000000000 ≤ a ∧ a ≤ 4000000000) (hb2 : -4000000000 ≤ b ∧ b ≤ 4000000000) :
    Calls Try.prog 31 #[.int .i64 a, .int .i64 b] w fun e w' => e = .returned (.int .i64 (flr a b)) ∧ Below w.heap.size w w' := by
  by_cases hp : 0 < b
  · have hn : ¬ b < 0 := by omega
    by_cases h0 : 0 ≤ a
    · have HF := Lib.hid (show flr a b = a / b by exact flr_pos (by omega))
      by_cases hz : a % b = 0
      · go_enter Try.func31, Try.ntmps31
        go_wp2
        go_ret
        exact ⟨ret_int HF.out.symm, (by repeat (first | (with_reducible exact Below.refl _ _) | (with_reducible assumption) | (with_reducible refine Below.drew ?_) | (with_reducible refine Below.drewN ?_) | ((with_reducible refine Below.al ?_ ?_); · first | omega | (simp; done) | (simp; omega)) | ((with_reducible refine Below.sc ?_ ?_); · first | omega | (simp; done) | (simp; omega)) | ((with_reducible refine Below.thru hb ?_ ?_); · first | omega | (simp; done) | (simp; omega))))⟩
      · have hnz := Int.emod_nonneg (a) (show b ≠ 0 by omega)
        have hs1 : ¬ a < 0 := by omega
        have hs2 : ¬ b < 0 := by omega
        clear hnz
        go_enter Try.func31, Try.ntmps31
        go_wp2
        go_ret
        exact ⟨ret_int HF.out.symm, (by repeat (first | (with_reducible exact Below.refl _ _) | (with_reducible assumption) | (with_reducible refine Below.drew ?_) | (with_reducible refine Below.drewN ?_) | ((with_reducible refine Below.al ?_ ?_); · first | omega | (simp; done) | (simp; omega)) | ((with_reducible refine Below.sc ?_ ?_); · first | omega | (simp; done) | (simp; omega)) | ((with_reducible refine Below.thru hb ?_ ?_); · first | omega | (simp; done) | (simp; omega))))⟩
    · have hneg := flr_neg (a := a) (b := b) (by omega) (by omega)
      by_cases hr : (a).tmod (b) < 0
      · have HF := Lib.hid (show flr a b = (a).tdiv (b) - 1 by exact hneg.1 hr)
        have hfb := flr_bd (a := a) (b := b) (by omega) (by omega)
        have hq : -5000000000 ≤ (a).tdiv (b) ∧ (a).tdiv (b) ≤ 5000000000 := by have := hneg.1 hr; omega
        have hz : ¬ (a).tmod (b) = 0 := by omega
        have hs1 : a < 0 := by omega
        have hs2 : ¬ b < 0 := by omega
        clear hneg hfb
        go_enter Try.func31, Try.ntmps31
        go_wp2
        go_ret
        exact ⟨ret_int HF.out.symm, (by repeat (first | (with_reducible exact Below.refl _ _) | (with_reducible assumption) | (with_reducible refine Below.drew ?_) | (with_reducible refine Below.drewN ?_) | ((with_reducible refine Below.al ?_ ?_); · first | omega | (simp; done) | (simp; omega)) | ((with_reducible refine Below.sc ?_ ?_); · first | omega | (simp; done) | (simp; omega)) | ((with_reducible refine Below.thru hb ?_ ?_); · first | omega | (simp; done) | (simp; omega))))⟩
      · have HF := Lib.hid (show flr a b = (a).tdiv (b) by exact hneg.2.1 hr)
        have hz : (a).tmod (b) = 0 := by have := hneg.2.2; omega
        have hfb := flr_bd (a := a) (b := b) (by omega) (by omega)
        have hq : -5000000000 ≤ (a).tdiv (b) ∧ (a).tdiv (b) ≤ 5000000000 := by have := hneg.2.1 hr; omega
        clear hneg hr hfb
        go_enter Try.func31, Try.ntmps31
        go_wp2
        go_ret
        exact ⟨ret_int HF.out.symm, (by repeat (first | (with_reducible exact Below.refl _ _) | (with_reducible assumption) | (with_reducible refine Below.drew ?_) | (with_reducible refine Below.drewN ?_) | ((with_reducible refine Below.al ?_ ?_); · first | omega | (simp; done) | (simp; omega)) | ((with_reducible refine Below.sc ?_ ?_); · first | omega | (simp; done) | (simp; omega)) | ((with_reducible refine Below.thru hb ?_ ?_); · first | omega | (simp; done) | (simp; omega))))⟩
  · obtain ⟨c, rfl⟩ : ∃ c, a = -c := ⟨-a, by omega⟩
    obtain ⟨e, rfl⟩ : ∃ e, b = -e := ⟨-b, by omega⟩
    have hn : 0 < e := by omega
    by_cases h0 : 0 ≤ c
    · have HF := Lib.hid (show flr (-c) (-e) = c / e by rw [flr_flip (by omega), Int.neg_neg, Int.neg_neg]; exact flr_pos (by omega))
      by_cases hz : c % e = 0
      · go_enter Try.func31, Try.ntmps31
        go_wp2
        go_ret
        exact ⟨ret_int HF.out.symm, (by repeat (first | (with_reducible exact Below.refl _ _) | (with_reducible assumption) | (with_reducible refine Below.drew ?_) | (with_reducible refine Below.drewN ?_) | ((with_reducible refine Below.al ?_ ?_); · first | omega | (simp; done) | (simp; omega)) | ((with_reducible refine Below.sc ?_ ?_); · first | omega | (simp; done) | (simp; omega)) | ((with_reducible refine Below.thru hb ?_ ?_); · first | omega | (simp; done) | (simp; omega))))⟩
      · have hnz := Int.emod_nonneg (c) (show e ≠ 0 by omega)
        have hs1 : 0 < c := by
          by_cases h : c = 0
          · subst h; exact absurd (by simp) hz
          · omega
        have hz2 : (-(c % e) != (0 : Int)) = true := bne_iff_ne.2 (by omega)
        clear hnz
        go_enter Try.func31, Try.ntmps31
        go_wp2
        go_ret
        exact ⟨ret_int HF.out.symm, (by repeat (first | (with_reducible exact Below.refl _ _) | (with_reducible assumption) | (with_reducible refine Below.drew ?_) | (with_reducible refine Below.drewN ?_) | ((with_reducible refine Below.al ?_ ?_); · first | omega | (simp; done) | (simp; omega)) | ((with_reducible refine Below.sc ?_ ?_); · first | omega | (simp; done) | (simp; omega)) | ((with_reducible refine Below.thru hb ?_ ?_); · first | omega | (simp; done) | (simp; omega))))⟩
    · have hneg := flr_neg (a := c) (b := e) (by omega) (by omega)
      by_cases hr : (c).tmod (e) < 0
      · have HF := Lib.hid (show flr (-c) (-e) = (c).tdiv (e) - 1 by rw [flr_flip (by omega), Int.neg_neg, Int.neg_neg]; exact hneg.1 hr)
        have hfb := flr_bd (a := c) (b := e) (by omega) (by omega)
        have hq : -5000000000 ≤ (c).tdiv (e) ∧ (c).tdiv (e) ≤ 5000000000 := by have := hneg.1 hr; omega
        have hz : ¬ (c).tmod (e) = 0 := by omega
        have hs1 : ¬ 0 < c := by omega
        have hz2 : (-(c.tmod e) != (0 : Int)) = true := bne_iff_ne.2 (by omega)
        clear hneg hfb
        go_enter Try.func31, Try.ntmps31
        go_wp2
        go_ret
        exact ⟨ret_int HF.out.symm, (by repeat (first | (with_reducible exact Below.refl _ _) | (with_reducible assumption) | (with_reducible refine Below.drew ?_) | (with_reducible refine Below.drewN ?_) | ((with_reducible refine Below.al ?_ ?_); · first | omega | (simp; done) | (simp; omega)) | ((with_reducible refine Below.sc ?_ ?_); · first | omega | (simp; done) | (simp; omega)) | ((with_reducible refine Below.thru hb ?_ ?_); · first | omega | (simp; done) | (simp; omega))))⟩
      · have HF := Lib.hid (show flr (-c) (-e) = (c).tdiv (e) by rw [flr_flip (by omega), Int.neg_neg, Int.neg_neg]; exact hneg.2.1 hr)
        have hz : (c).tmod (e) = 0 := by have := hneg.2.2; omega
        have hfb := flr_bd (a := c) (b := e) (by omega) (by omega)
        have hq : -5000000000 ≤ (c).tdiv (e) ∧ (c).tdiv (e) ≤ 5000000000 := by have := hneg.2.1 hr; omega
        clear hneg hr hfb
        go_enter Try.func31, Try.ntmps31
        go_wp2
        go_ret
        exact ⟨ret_int HF.out.symm, (by repeat (first | (with_reducible exact Below.refl _ _) | (with_reducible assumption) | (with_reducible refine Below.drew ?_) | (with_reducible refine Below.drewN ?_) | ((with_reducible refine Below.al ?_ ?_); · first | omega | (simp; done) | (simp; omega)) | ((with_reducible refine Below.sc ?_ ?_); · first | omega | (simp; done) | (simp; omega)) | ((with_reducible refine Below.thru hb ?_ ?_); · first | omega | (simp; done) | (simp; omega))))⟩

end Go.Proofs.Ytcapmljnhflopaa
