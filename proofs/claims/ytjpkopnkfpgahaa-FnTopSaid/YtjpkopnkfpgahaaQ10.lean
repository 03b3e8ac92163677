import Derived.Test.YtjpkopnkfpgahaaQ1
/- Contracts of chapter 1's divisors, sizes and fractions. -/
namespace Go.Proofs.Ytjpkopnkfpgahaa
open Go.RowKit
set_option linter.unusedSimpArgs false

theorem gcd_step (a b : Int) : Int.gcd b (a.tmod b) = Int.gcd a b := by
  unfold Int.gcd
  rw [Int.natAbs_tmod, Nat.gcd_comm a.natAbs b.natAbs, Nat.gcd_comm b.natAbs (a.natAbs % b.natAbs), ← Nat.gcd_rec]
theorem tmod_lt {a b : Int} (h : b ≠ 0) : (a.tmod b).natAbs < b.natAbs := by
  rw [Int.natAbs_tmod]; exact Nat.mod_lt _ (by omega)
theorem tmod_abs {a b A : Int} (h1 : -A ≤ a) (h2 : a ≤ A) : -A ≤ a.tmod b ∧ a.tmod b ≤ A := by
  have e : (a.tmod b).natAbs ≤ a.natAbs := by rw [Int.natAbs_tmod]; exact Nat.mod_le _ _
  omega

set_option maxHeartbeats 400000 in
theorem size_any (n : Int) (w : World) (h1 : -9000000000000000000 ≤ n) (h2 : n ≤ 9000000000000000000) :
    Calls Try.prog 27 #[.int .i64 n] w fun e w' => e = .returned (.int .i64 n.natAbs) ∧ w = w' := by
  go_enter Try.func27, Try.ntmps27
  go_wp2
  all_goals go_ret
  all_goals exact ⟨ret_int (by omega), rfl⟩

set_option maxHeartbeats 400000 in
theorem divisor_any (a b : Int) (w : World) (h1 : -9000000000000000000 ≤ a) (h2 : a ≤ 9000000000000000000) (h3 : -9000000000000000000 ≤ b) (h4 : b ≤ 9000000000000000000) :
    Calls Try.prog 57 #[.int .i64 a, .int .i64 b] w fun e w' => e = .returned (.int .i64 (Int.gcd a b)) ∧ Below w.heap.size w w' := by
  go_enter Try.func57, Try.ntmps57
  go_wp2
  go_loopw [0, 1] (fun x y wr => ∃ p q : Int, x = .int .i64 p ∧ y = .int .i64 q ∧ (-9000000000000000000 ≤ p ∧ p ≤ 9000000000000000000) ∧ (-9000000000000000000 ≤ q ∧ q ≤ 9000000000000000000) ∧ Hid (Int.gcd p q = Int.gcd a b) ∧ Below w.heap.size w wr) (fun _ y _ => (intOf y).natAbs)
  case atStart => exact ⟨a, b, rfl, rfl, ⟨h1, h2⟩, ⟨h3, h4⟩, rfl, Below.refl _ _⟩
  case round =>
    obtain ⟨p, q, rfl, rfl, hp, hq, hg, hbel⟩ := hrel
    by_cases h0 : q = 0
    · subst h0
      have G := Lib.hid hg.out
      clear hg
      go_wp2_with (go_at_call 27; refine (size_any _ _ (by omega) (by omega)).mono ?_; rintro e w' ⟨rfl, rfl⟩)
      go_ret
      exact ⟨ret_int (by rw [← G.out, Int.gcd_zero_right]), (by repeat (first | (with_reducible exact Below.refl _ _) | (with_reducible assumption) | (with_reducible refine Below.drew ?_) | (with_reducible refine Below.drewN ?_) | ((with_reducible refine Below.al ?_ ?_); · first | omega | (simp; done) | (simp; omega)) | ((with_reducible refine Below.sc ?_ ?_); · first | omega | (simp; done) | (simp; omega)) | ((with_reducible refine Below.thru hb ?_ ?_); · first | omega | (simp; done) | (simp; omega))))⟩
    · have hb := tmod_abs (b := q) hp.1 hp.2
      have G := Lib.hid (And.intro (gcd_step p q) (tmod_lt (a := p) h0))
      go_wp2_with fail
      go_quiet (fail)
      go_wp2
      go_roundw
      case rel => exact ⟨q, p.tmod q, rfl, rfl, hq, hb, G.out.1.trans hg.out, (by repeat (first | (with_reducible exact Below.refl _ _) | (with_reducible assumption) | (with_reducible refine Below.drew ?_) | (with_reducible refine Below.drewN ?_) | ((with_reducible refine Below.al ?_ ?_); · first | omega | (simp; done) | (simp; omega)) | ((with_reducible refine Below.sc ?_ ?_); · first | omega | (simp; done) | (simp; omega)) | ((with_reducible refine Below.thru hb ?_ ?_); · first | omega | (simp; done) | (simp; omega))))⟩
      case measure => simpa [intOf] using G.out.2


/-- Is it a fraction? -/
def fracB (p q : Int) : Bool := (entB p && entB q) && decide (0 ≤ q ∧ Int.gcd p q = 1 ∧ (0 < q ∨ p = 1))
theorem fracB_ents {p q : Int} (h : fracB p q = true) : entB p = true ∧ entB q = true := by simp [fracB] at h; exact h.1
theorem fracB_parts {p q : Int} (h : fracB p q = true) : 0 ≤ q ∧ Int.gcd p q = 1 ∧ (0 < q ∨ p = 1) := by simp [fracB] at h; exact h.2

set_option maxHeartbeats 400000 in
theorem IsFraction_any (p q : Int) (w : World) :
    Calls Try.prog 31 #[.agg #[.int .i64 p, .int .i64 q]] w fun e w' => e = .returned (.bool (fracB p q)) ∧ Below w.heap.size w w' := by
  have hc : ∀ j (h : j < [p, q].length), (w.alloc (.cells #[.int .i64 p, .int .i64 q] 40)).cell? ((⟨w.heap.size, 0, none⟩ : Addr).add j) = some (.int .i64 [p, q][j]) := by
    intro j hj
    match j, hj with
    | 0, _ => simp [Addr.add]
    | 1, _ => simp [Addr.add]
  have HC := Lib.hid hc
  clear hc
  cases he : [p, q].all entB with
  | false =>
    have F : fracB p q = false := by simp [fracB] at he ⊢; intro h1 h2; simp [he h1] at h2
    have HF := Lib.hid F
    clear F
    go_enter Try.func31, Try.ntmps31
    go_wp2_with fail
    refine (areEntries_any ⟨w.heap.size, 0, none⟩ 2 [p, q] _ (by simp) HC.out).mono ?_
    rintro e w' ⟨rfl, rfl⟩
    rw [he]
    clear he
    go_wp2
    go_ret
    exact ⟨ret_bool HF.out.symm, (by repeat (first | (with_reducible exact Below.refl _ _) | (with_reducible assumption) | (with_reducible refine Below.drew ?_) | (with_reducible refine Below.drewN ?_) | ((with_reducible refine Below.al ?_ ?_); · first | omega | (simp; done) | (simp; omega)) | ((with_reducible refine Below.sc ?_ ?_); · first | omega | (simp; done) | (simp; omega)) | ((with_reducible refine Below.thru hb ?_ ?_); · first | omega | (simp; done) | (simp; omega))))⟩
  | true =>
    have he2 : entB p = true ∧ entB q = true := by simpa using he
    have k1 := entB_true he2.1
    have k2 := entB_true he2.2
    have F : fracB p q = decide (0 ≤ q ∧ Int.gcd p q = 1 ∧ (0 < q ∨ p = 1)) := by simp [fracB, he2]
    have HF := Lib.hid F
    clear F he2
    by_cases c1 : 0 ≤ q
    · cases c2 : ((Int.gcd p q : Int) == 1) with
      | false =>
        have c2' : ¬ Int.gcd p q = 1 := by simp at c2; omega
        have H2 := Lib.hid c2'
        clear c2'
        go_enter Try.func31, Try.ntmps31
        go_wp2_with fail
        refine (areEntries_any ⟨w.heap.size, 0, none⟩ 2 [p, q] _ (by simp) HC.out).mono ?_
        rintro e w' ⟨rfl, rfl⟩
        rw [he]
        clear he
        go_wp2_with fail
        refine (divisor_any _ _ _ (by omega) (by omega) (by omega) (by omega)).mono ?_
        rintro e w1 ⟨rfl, hb⟩
        go_wp2
        go_ret
        exact ⟨ret_bool (by rw [HF.out]; simp [H2.out]), (by repeat (first | (with_reducible exact Below.refl _ _) | (with_reducible assumption) | (with_reducible refine Below.drew ?_) | (with_reducible refine Below.drewN ?_) | ((with_reducible refine Below.al ?_ ?_); · first | omega | (simp; done) | (simp; omega)) | ((with_reducible refine Below.sc ?_ ?_); · first | omega | (simp; done) | (simp; omega)) | ((with_reducible refine Below.thru hb ?_ ?_); · first | omega | (simp; done) | (simp; omega))))⟩
      | true =>
        have c2' : Int.gcd p q = 1 := by simp at c2; omega
        have H2 := Lib.hid c2'
        have hc2 := Blk.new (w := w) (E := 40) (cs := #[.int .i64 p, .int .i64 q]) rfl
        have HB := Lib.hid hc2
        clear c2' hc2
        go_enter Try.func31, Try.ntmps31
        go_wp2_with fail
        refine (areEntries_any ⟨w.heap.size, 0, none⟩ 2 [p, q] _ (by simp) HC.out).mono ?_
        rintro e w' ⟨rfl, rfl⟩
        rw [he]
        clear he
        go_wp2_with fail
        refine (divisor_any _ _ _ (by omega) (by omega) (by omega) (by omega)).mono ?_
        rintro e w1 ⟨rfl, hb⟩
        have B1 : Blk w1 w.heap.size 40 #[.int .i64 p, .int .i64 q] := (by repeat (first | (with_reducible assumption) | ((with_reducible refine Blk.new ?_); · first | omega | (simp; done) | (simp; omega)) | (with_reducible apply Blk.set4) | (with_reducible apply Blk.set3) | (with_reducible apply Blk.set2) | ((with_reducible refine Blk.put ?_ ?_); · first | omega | (simp; omega)) | (with_reducible refine Blk.old ?_) | (with_reducible refine Blk.drew ?_) | (with_reducible refine Blk.drewN ?_) | ((with_reducible refine Blk.below hb ?_ ?_); · first | omega | (simp; done) | (simp; omega))))
        have b0 := B1.at (i := 0) rfl
        have b1 := B1.at (i := 1) rfl
        have kk : Below w.heap.size w w1 := (by repeat (first | (with_reducible exact Below.refl _ _) | (with_reducible assumption) | (with_reducible refine Below.drew ?_) | (with_reducible refine Below.drewN ?_) | ((with_reducible refine Below.al ?_ ?_); · first | omega | (simp; done) | (simp; omega)) | ((with_reducible refine Below.sc ?_ ?_); · first | omega | (simp; done) | (simp; omega)) | ((with_reducible refine Below.thru hb ?_ ?_); · first | omega | (simp; done) | (simp; omega))))
        clear hb
        by_cases c3 : 0 < q
        · go_wp2
          go_ret
          exact ⟨ret_bool (by have h2 := H2.out; rw [HF.out, Bool.eq_iff_iff]; simp only [decide_eq_true_eq, beq_iff_eq, Bool.or_eq_true, true_iff, Bool.false_eq_true, false_iff, eq_self, decide_true, decide_false]; omega), kk⟩
        · cases c4 : (p == 1) with
          | true =>
            go_wp2
            go_ret
            have : p = 1 := by simpa using c4
            exact ⟨ret_bool (by have h2 := H2.out; rw [HF.out, Bool.eq_iff_iff]; simp only [decide_eq_true_eq, beq_iff_eq, Bool.or_eq_true, true_iff, Bool.false_eq_true, false_iff, eq_self, decide_true, decide_false]; omega), kk⟩
          | false =>
            go_wp2
            go_ret
            have : ¬ p = 1 := by simpa using c4
            exact ⟨ret_bool (by have h2 := H2.out; rw [HF.out, Bool.eq_iff_iff]; simp only [decide_eq_true_eq, beq_iff_eq, Bool.or_eq_true, true_iff, Bool.false_eq_true, false_iff, eq_self, decide_true, decide_false]; omega), kk⟩
    · go_enter Try.func31, Try.ntmps31
      go_wp2_with fail
      refine (areEntries_any ⟨w.heap.size, 0, none⟩ 2 [p, q] _ (by simp) HC.out).mono ?_
      rintro e w' ⟨rfl, rfl⟩
      rw [he]
      clear he
      go_wp2
      go_ret
      exact ⟨ret_bool (by rw [HF.out]; symm; rw [decide_eq_false_iff_not]; omega), (by repeat (first | (with_reducible exact Below.refl _ _) | (with_reducible assumption) | (with_reducible refine Below.drew ?_) | (with_reducible refine Below.drewN ?_) | ((with_reducible refine Below.al ?_ ?_); · first | omega | (simp; done) | (simp; omega)) | ((with_reducible refine Below.sc ?_ ?_); · first | omega | (simp; done) | (simp; omega)) | ((with_reducible refine Below.thru hb ?_ ?_); · first | omega | (simp; done) | (simp; omega))))⟩


end Go.Proofs.Ytjpkopnkfpgahaa

/- Quotients rounded down: both walks. -/
namespace Go.Proofs.Ytjpkopnkfpgahaa
open Go.RowKit

/-- The greatest whole number that is at most a / b, for b other than 0. -/
def flr (a b : Int) : Int := if 0 < b then a / b else (-a) / (-b)
theorem neg_div (x b : Int) (hb : 0 < b) : (-x) / b = -(x / b) - (if x % b = 0 then 0 else 1) := by
  have h1 := Int.emod_nonneg x (show b ≠ 0 by omega)
  have h2 := Int.emod_lt_of_pos x hb
  have h3 := Int.mul_ediv_add_emod x b
  split
  · exact ((Int.ediv_emod_unique (r := 0) hb).2 ⟨by rw [Int.mul_sub, Int.mul_neg]; omega, by omega, by omega⟩).1
  · exact ((Int.ediv_emod_unique (r := b - x % b) hb).2 ⟨by rw [Int.mul_sub, Int.mul_neg]; omega, by omega, by omega⟩).1
theorem flr_pos {a b : Int} (hb : 0 < b) : flr a b = a / b := by unfold flr; rw [if_pos hb]
theorem tdiv_neg' (x b : Int) (hx : 0 ≤ x) : (-x).tdiv b = -(x / b) := by rw [Int.neg_tdiv, Int.tdiv_eq_ediv_of_nonneg hx]
theorem tmod_neg' (x b : Int) (hx : 0 ≤ x) : (-x).tmod b = -(x % b) := by rw [Int.neg_tmod, Int.tmod_eq_emod_of_nonneg hx]
/-- Quotient and rest of a number below 0. -/
theorem flr_neg {a b : Int} (hb : 0 < b) (ha : a < 0) : (a.tmod b < 0 → flr a b = a.tdiv b - 1) ∧ (¬ a.tmod b < 0 → flr a b = a.tdiv b) ∧ (a.tmod b ≤ 0) := by
  obtain ⟨x, rfl⟩ : ∃ x, a = -x := ⟨-a, by omega⟩
  have h1 := Int.emod_nonneg x (show b ≠ 0 by omega)
  have hn := neg_div x b hb
  rw [tdiv_neg' x b (by omega), tmod_neg' x b (by omega)]
  unfold flr
  rw [if_pos hb, hn]
  refine ⟨fun h => ?_, fun h => ?_, by omega⟩
  · rw [if_neg (by omega)]
  · rw [if_pos (by omega)]; omega
theorem flr_flip {a b : Int} (hb : b < 0) : flr a b = flr (-a) (-b) := by
  unfold flr
  rw [if_neg (by omega), if_pos (by omega)]
theorem ediv_bd {a b : Int} (hb : 0 < b) (ha : -4000000000 ≤ a ∧ a ≤ 4000000000) : -4000000000 ≤ a / b ∧ a / b ≤ 4000000000 := by
  have h1 := Int.emod_nonneg a (show b ≠ 0 by omega)
  have h2 := Int.emod_lt_of_pos a hb
  have h3 := Int.mul_ediv_add_emod a b
  constructor
  · by_cases h : -4000000000 ≤ a / b
    · exact h
    · have := Int.mul_le_mul_of_nonneg_left (a := a / b) (b := -4000000001) (c := b) (by omega) (by omega)
      omega
  · by_cases h : a / b ≤ 4000000000
    · exact h
    · have := Int.mul_le_mul_of_nonneg_left (a := 4000000001) (b := a / b) (c := b) (by omega) (by omega)
      omega
theorem flr_bd {a b : Int} (hb : b ≠ 0) (ha : -4000000000 ≤ a ∧ a ≤ 4000000000) : -4000000000 ≤ flr a b ∧ flr a b ≤ 4000000000 := by
  unfold flr
  split
  · exact ediv_bd (by omega) ha
  · exact ediv_bd (by omega) (by omega)

set_option maxRecDepth 8000 in
set_option maxHeartbeats 400000 in
theorem floor_any (a b : Int) (w : World) (hb : b ≠ 0) (ha : -4000000000 ≤ a ∧ a ≤ 4000000000) (hb2 : -4000000000 ≤ b ∧ b ≤ 4000000000) :
    Calls Try.prog 52 #[.int .i64 a, .int .i64 b] w fun e w' => e = .returned (.int .i64 (flr a b)) ∧ Below w.heap.size w w' := by
  by_cases hp : 0 < b
  · have hn : ¬ b < 0 := by omega
    by_cases h0 : 0 ≤ a
    · have HF := Lib.hid (show flr a b = a / b by exact flr_pos (by omega))
      by_cases hz : a % b = 0
      · go_enter Try.func52, Try.ntmps52
        go_wp2
        go_ret
        exact ⟨ret_int HF.out.symm, (by repeat (first | (with_reducible exact Below.refl _ _) | (with_reducible assumption) | (with_reducible refine Below.drew ?_) | (with_reducible refine Below.drewN ?_) | ((with_reducible refine Below.al ?_ ?_); · first | omega | (simp; done) | (simp; omega)) | ((with_reducible refine Below.sc ?_ ?_); · first | omega | (simp; done) | (simp; omega)) | ((with_reducible refine Below.thru hb ?_ ?_); · first | omega | (simp; done) | (simp; omega))))⟩
      · have hnz := Int.emod_nonneg (a) (show b ≠ 0 by omega)
        have hs1 : ¬ a < 0 := by omega
        have hs2 : ¬ b < 0 := by omega
        clear hnz
        go_enter Try.func52, Try.ntmps52
        go_wp2
        go_ret
        exact ⟨ret_int HF.out.symm, (by repeat (first | (with_reducible exact Below.refl _ _) | (with_reducible assumption) | (with_reducible refine Below.drew ?_) | (with_reducible refine Below.drewN ?_) | ((with_reducible refine Below.al ?_ ?_); · first | omega | (simp; done) | (simp; omega)) | ((with_reducible refine Below.sc ?_ ?_); · first | omega | (simp; done) | (simp; omega)) | ((with_reducible refine Below.thru hb ?_ ?_); · first | omega | (simp; done) | (simp; omega))))⟩
    · have hneg := flr_neg (a := a) (b := b) (by omega) (by omega)
      by_cases hr : (a).tmod (b) < 0
      · have HF := Lib.hid (show flr a b = (a).tdiv (b) - 1 by exact hneg.1 hr)
        have hfb := flr_bd (a := a) (b := b) (by omega) (by omega)
        have hq : -5000000000 ≤ (a).tdiv (b) ∧ (a).tdiv (b) ≤ 5000000000 := by have := hneg.1 hr; omega
        have hz : ¬ (a).tmod (b) = 0 := by omega
        have hs1 : a < 0 := by omega
        have hs2 : ¬ b < 0 := by omega
        clear hneg hfb
        go_enter Try.func52, Try.ntmps52
        go_wp2
        go_ret
        exact ⟨ret_int HF.out.symm, (by repeat (first | (with_reducible exact Below.refl _ _) | (with_reducible assumption) | (with_reducible refine Below.drew ?_) | (with_reducible refine Below.drewN ?_) | ((with_reducible refine Below.al ?_ ?_); · first | omega | (simp; done) | (simp; omega)) | ((with_reducible refine Below.sc ?_ ?_); · first | omega | (simp; done) | (simp; omega)) | ((with_reducible refine Below.thru hb ?_ ?_); · first | omega | (simp; done) | (simp; omega))))⟩
      · have HF := Lib.hid (show flr a b = (a).tdiv (b) by exact hneg.2.1 hr)
        have hz : (a).tmod (b) = 0 := by have := hneg.2.2; omega
        have hfb := flr_bd (a := a) (b := b) (by omega) (by omega)
        have hq : -5000000000 ≤ (a).tdiv (b) ∧ (a).tdiv (b) ≤ 5000000000 := by have := hneg.2.1 hr; omega
        clear hneg hr hfb
        go_enter Try.func52, Try.ntmps52
        go_wp2
        go_ret
        exact ⟨ret_int HF.out.symm, (by repeat (first | (with_reducible exact Below.refl _ _) | (with_reducible assumption) | (with_reducible refine Below.drew ?_) | (with_reducible refine Below.drewN ?_) | ((with_reducible refine Below.al ?_ ?_); · first | omega | (simp; done) | (simp; omega)) | ((with_reducible refine Below.sc ?_ ?_); · first | omega | (simp; done) | (simp; omega)) | ((with_reducible refine Below.thru hb ?_ ?_); · first | omega | (simp; done) | (simp; omega))))⟩
  · obtain ⟨c, rfl⟩ : ∃ c, a = -c := ⟨-a, by omega⟩
    obtain ⟨e, rfl⟩ : ∃ e, b = -e := ⟨-b, by omega⟩
    have hn : 0 < e := by omega
    by_cases h0 : 0 ≤ c
    · have HF := Lib.hid (show flr (-c) (-e) = c / e by rw [flr_flip (by omega), Int.neg_neg, Int.neg_neg]; exact flr_pos (by omega))
      by_cases hz : c % e = 0
      · go_enter Try.func52, Try.ntmps52
        go_wp2
        go_ret
        exact ⟨ret_int HF.out.symm, (by repeat (first | (with_reducible exact Below.refl _ _) | (with_reducible assumption) | (with_reducible refine Below.drew ?_) | (with_reducible refine Below.drewN ?_) | ((with_reducible refine Below.al ?_ ?_); · first | omega | (simp; done) | (simp; omega)) | ((with_reducible refine Below.sc ?_ ?_); · first | omega | (simp; done) | (simp; omega)) | ((with_reducible refine Below.thru hb ?_ ?_); · first | omega | (simp; done) | (simp; omega))))⟩
      · have hnz := Int.emod_nonneg (c) (show e ≠ 0 by omega)
        have hs1 : 0 < c := by
          by_cases h : c = 0
          · subst h; exact absurd (by simp) hz
          · omega
        have hz2 : (-(c % e) != (0 : Int)) = true := bne_iff_ne.2 (by omega)
        clear hnz
        go_enter Try.func52, Try.ntmps52
        go_wp2
        go_ret
        exact ⟨ret_int HF.out.symm, (by repeat (first | (with_reducible exact Below.refl _ _) | (with_reducible assumption) | (with_reducible refine Below.drew ?_) | (with_reducible refine Below.drewN ?_) | ((with_reducible refine Below.al ?_ ?_); · first | omega | (simp; done) | (simp; omega)) | ((with_reducible refine Below.sc ?_ ?_); · first | omega | (simp; done) | (simp; omega)) | ((with_reducible refine Below.thru hb ?_ ?_); · first | omega | (simp; done) | (simp; omega))))⟩
    · have hneg := flr_neg (a := c) (b := e) (by omega) (by omega)
      by_cases hr : (c).tmod (e) < 0
      · have HF := Lib.hid (show flr (-c) (-e) = (c).tdiv (e) - 1 by rw [flr_flip (by omega), Int.neg_neg, Int.neg_neg]; exact hneg.1 hr)
        have hfb := flr_bd (a := c) (b := e) (by omega) (by omega)
        have hq : -5000000000 ≤ (c).tdiv (e) ∧ (c).tdiv (e) ≤ 5000000000 := by have := hneg.1 hr; omega
        have hz : ¬ (c).tmod (e) = 0 := by omega
        have hs1 : ¬ 0 < c := by omega
        have hz2 : (-(c.tmod e) != (0 : Int)) = true := bne_iff_ne.2 (by omega)
        clear hneg hfb
        go_enter Try.func52, Try.ntmps52
        go_wp2
        go_ret
        exact ⟨ret_int HF.out.symm, (by repeat (first | (with_reducible exact Below.refl _ _) | (with_reducible assumption) | (with_reducible refine Below.drew ?_) | (with_reducible refine Below.drewN ?_) | ((with_reducible refine Below.al ?_ ?_); · first | omega | (simp; done) | (simp; omega)) | ((with_reducible refine Below.sc ?_ ?_); · first | omega | (simp; done) | (simp; omega)) | ((with_reducible refine Below.thru hb ?_ ?_); · first | omega | (simp; done) | (simp; omega))))⟩
      · have HF := Lib.hid (show flr (-c) (-e) = (c).tdiv (e) by rw [flr_flip (by omega), Int.neg_neg, Int.neg_neg]; exact hneg.2.1 hr)
        have hz : (c).tmod (e) = 0 := by have := hneg.2.2; omega
        have hfb := flr_bd (a := c) (b := e) (by omega) (by omega)
        have hq : -5000000000 ≤ (c).tdiv (e) ∧ (c).tdiv (e) ≤ 5000000000 := by have := hneg.2.1 hr; omega
        clear hneg hr hfb
        go_enter Try.func52, Try.ntmps52
        go_wp2
        go_ret
        exact ⟨ret_int HF.out.symm, (by repeat (first | (with_reducible exact Below.refl _ _) | (with_reducible assumption) | (with_reducible refine Below.drew ?_) | (with_reducible refine Below.drewN ?_) | ((with_reducible refine Below.al ?_ ?_); · first | omega | (simp; done) | (simp; omega)) | ((with_reducible refine Below.sc ?_ ?_); · first | omega | (simp; done) | (simp; omega)) | ((with_reducible refine Below.thru hb ?_ ?_); · first | omega | (simp; done) | (simp; omega))))⟩

end Go.Proofs.Ytjpkopnkfpgahaa

/- The chain of a matrix: plain law. -/
namespace Go.Proofs.Ytjpkopnkfpgahaa
open Go.RowKit

/-- The next number of the chain, and the next matrix. -/
def chQ1 (m : M) : Int := flr (2 * m.a + m.c) (2 * m.c)
def chS (m : M) : M := ⟨m.c, m.d, chQ1 m * m.c - m.a, chQ1 m * m.d - m.b⟩
def chM (m : M) : Nat → M
  | 0 => m
  | k + 1 => chS (chM m k)
/-- The first k numbers. -/
def chQs (m : M) (k : Nat) : List Int := (List.range k).map fun j => chQ1 (chM m j)
theorem chQs_len (m : M) (k : Nat) : (chQs m k).length = k := by simp [chQs]
theorem chQs_succ (m : M) (k : Nat) : chQs m (k + 1) = chQs m k ++ [chQ1 (chM m k)] := by
  unfold chQs
  rw [List.range_succ, List.map_append]
  rfl
/-- The chain ends at step k. -/
def ChEnds (m : M) (k : Nat) : Prop := (∀ j, j < k → (chM m j).c ≠ 0) ∧ (chM m k).c = 0
theorem ChEnds.unique {m : M} {k l : Nat} (h : ChEnds m k) (g : ChEnds m l) : k = l := by
  rcases Nat.lt_trichotomy k l with e | e | e
  · exact absurd h.2 (g.1 k e)
  · exact e
  · exact absurd g.2 (h.1 l e)
/-- Small numbers, the determinant 1. -/
def chOK (m : M) : Prop := m.det = 1 ∧ (-1000000000 ≤ m.a ∧ m.a ≤ 1000000000) ∧ (-1000000000 ≤ m.b ∧ m.b ≤ 1000000000) ∧ (-1000000000 ≤ m.c ∧ m.c ≤ 1000000000) ∧ (-1000000000 ≤ m.d ∧ m.d ≤ 1000000000)
theorem M.ok_ch {m : M} (h : m.ok = true) : chOK m := ⟨M.ok_det h, M.ents_bd (M.ok_ents h)⟩
/-- Twice the next third number is at most the third. -/
theorem ch_half (a c : Int) : (0 < c → -c ≤ 2 * (flr (2 * a + c) (2 * c) * c - a) ∧ 2 * (flr (2 * a + c) (2 * c) * c - a) ≤ c) ∧ (c < 0 → c ≤ 2 * (flr (2 * a + c) (2 * c) * c - a) ∧ 2 * (flr (2 * a + c) (2 * c) * c - a) ≤ -c) := by
  constructor
  · intro h
    have hf : flr (2 * a + c) (2 * c) = (2 * a + c) / (2 * c) := flr_pos (by omega)
    rw [hf]
    have h1 := Int.emod_nonneg (2 * a + c) (show 2 * c ≠ 0 by omega)
    have h2 := Int.emod_lt_of_pos (2 * a + c) (show 0 < 2 * c by omega)
    have h3 := Int.mul_ediv_add_emod (2 * a + c) (2 * c)
    generalize (2 * a + c) / (2 * c) = f at *
    rw [Int.mul_assoc, Int.mul_comm c f] at h3
    omega
  · intro h
    have hf : flr (2 * a + c) (2 * c) = (-(2 * a + c)) / (-(2 * c)) := by unfold flr; rw [if_neg (by omega)]
    rw [hf]
    have h1 := Int.emod_nonneg (-(2 * a + c)) (show -(2 * c) ≠ 0 by omega)
    have h2 := Int.emod_lt_of_pos (-(2 * a + c)) (show 0 < -(2 * c) by omega)
    have h3 := Int.mul_ediv_add_emod (-(2 * a + c)) (-(2 * c))
    generalize (-(2 * a + c)) / (-(2 * c)) = f at *
    rw [Int.neg_mul, Int.mul_assoc, Int.mul_comm c f] at h3
    omega
theorem ch_det (a b c d f : Int) : c * (f * d - b) - d * (f * c - a) = a * d - b * c := by
  rw [Int.mul_sub, Int.mul_sub, Int.mul_left_comm c f d, Int.mul_left_comm d f c, Int.mul_comm c d, Int.mul_comm c b, Int.mul_comm d a]
  omega
theorem ch_bound {c d c' d' e : Int} (h : c * d' - d * c' = 1) (hc : 0 < c) (hd : -1000000000 ≤ d ∧ d ≤ 1000000000) (he : -e ≤ c' ∧ c' ≤ e) (h2 : 2 * e ≤ c) : -1000000000 ≤ d' ∧ d' ≤ 1000000000 := by
  have hb := mul_bd hd.1 hd.2 he.1 he.2
  constructor
  · by_cases hx : -1000000000 ≤ d'
    · exact hx
    · have := Int.mul_le_mul_of_nonneg_left (a := d') (b := -1000000001) (c := c) (by omega) (by omega)
      omega
  · by_cases hx : d' ≤ 1000000000
    · exact hx
    · have := Int.mul_le_mul_of_nonneg_left (a := 1000000001) (b := d') (c := c) (by omega) (by omega)
      omega
theorem chS_ok {m : M} (h : chOK m) (hc : m.c ≠ 0) : chOK (chS m) ∧ 2 * (chS m).c.natAbs ≤ m.c.natAbs := by
  obtain ⟨hdet, ha, hb, hcb, hd⟩ := h
  obtain ⟨a, b, c, d⟩ := m
  simp only at *
  have hh := ch_half a c
  have hdt := ch_det a b c d (flr (2 * a + c) (2 * c))
  unfold M.det at hdet
  simp only at hdet
  rw [hdet] at hdt
  unfold chS chQ1 chOK M.det
  simp only
  generalize flr (2 * a + c) (2 * c) = f at *
  generalize f * c - a = c' at *
  generalize f * d - b = d' at *
  by_cases hp : 0 < c
  · have h1 := hh.1 hp
    have hbd := ch_bound (e := (c'.natAbs : Int)) hdt hp hd (by omega) (by omega)
    exact ⟨⟨hdt, by omega, by omega, by omega, by omega⟩, by omega⟩
  · have h1 := hh.2 (by omega)
    have hdt2 : (-c) * (-d') - (d) * (c') = 1 := by rw [Int.neg_mul_neg]; exact hdt
    have hbd := ch_bound (e := (c'.natAbs : Int)) hdt2 (by omega) hd (by omega) (by omega)
    exact ⟨⟨hdt, by omega, by omega, by omega, by omega⟩, by omega⟩
theorem chM_ok {m : M} (h : chOK m) (k : Nat) (hk : ∀ j, j < k → (chM m j).c ≠ 0) : chOK (chM m k) ∧ (chM m k).c.natAbs + k ≤ m.c.natAbs + (if k = 0 then 0 else 1) := by
  induction k with
  | zero => exact ⟨h, by simp [chM]⟩
  | succ k ih =>
    obtain ⟨h1, h2⟩ := ih fun j hj => hk j (by omega)
    obtain ⟨h3, h4⟩ := chS_ok h1 (hk k (by omega))
    refine ⟨h3, ?_⟩
    have h5 : (chM m k).c.natAbs ≠ 0 := by have := hk k (by omega); omega
    show (chS (chM m k)).c.natAbs + (k + 1) ≤ _
    rw [if_neg (by omega)]
    split at h2 <;> omega

end Go.Proofs.Ytjpkopnkfpgahaa
