/- Contracts of chapter 1's divisors, sizes and fractions. -/
import Derived.Test.Ytjjbaebddkejnaa01
namespace Go.Proofs.Ytjjbaebddkejnaa
open Go.RowKit
set_option linter.unusedSimpArgs false

theorem gcd_step (a b : Int) : Int.gcd b (a.tmod b) = Int.gcd a b := by
  unfold Int.gcd
  rw [Int.natAbs_tmod, Nat.gcd_comm a.natAbs b.natAbs, Nat.gcd_comm b.natAbs (a.natAbs % b.natAbs), ← Nat.gcd_rec]
theorem tmod_lt {a b : Int} (h : b ≠ 0) : (a.tmod b).natAbs < b.natAbs := by
  rw [Int.natAbs_tmod]; exact Nat.mod_lt _ (by omega)
theorem tmod_abs {a b A : Int} (h1 : -A ≤ a) (h2 : a ≤ A) : -A ≤ a.tmod b ∧ a.tmod b ≤ A := by
  have e : (a.tmod b).natAbs ≤ a.natAbs := by rw [Int.natAbs_tmod]; exact Nat.mod_le _ _
  omega

set_option maxHeartbeats 400000 in
theorem size_any (n : Int) (w : World) (h1 : -9000000000000000000 ≤ n) (h2 : n ≤ 9000000000000000000) :
    Calls Try.prog 74 #[.int .i64 n] w fun e w' => e = .returned (.int .i64 n.natAbs) ∧ w = w' := by
  go_enter Try.func74, Try.ntmps74
  go_wp2
  all_goals go_ret
  all_goals exact ⟨ret_int (by omega), rfl⟩

set_option maxHeartbeats 400000 in
theorem divisor_any (a b : Int) (w : World) (h1 : -9000000000000000000 ≤ a) (h2 : a ≤ 9000000000000000000) (h3 : -9000000000000000000 ≤ b) (h4 : b ≤ 9000000000000000000) :
    Calls Try.prog 60 #[.int .i64 a, .int .i64 b] w fun e w' => e = .returned (.int .i64 (Int.gcd a b)) ∧ Below w.heap.size w w' := by
  go_enter Try.func60, Try.ntmps60
  go_wp2
  go_loopw [0, 1] (fun x y wr => ∃ p q : Int, x = .int .i64 p ∧ y = .int .i64 q ∧ (-9000000000000000000 ≤ p ∧ p ≤ 9000000000000000000) ∧ (-9000000000000000000 ≤ q ∧ q ≤ 9000000000000000000) ∧ Hid (Int.gcd p q = Int.gcd a b) ∧ Below w.heap.size w wr) (fun _ y _ => (intOf y).natAbs)
  case atStart => exact ⟨a, b, rfl, rfl, ⟨h1, h2⟩, ⟨h3, h4⟩, rfl, Below.refl _ _⟩
  case round =>
    obtain ⟨p, q, rfl, rfl, hp, hq, hg, hbel⟩ := hrel
    by_cases h0 : q = 0
    · subst h0
      have G := Lib.hid hg.out
      clear hg
      go_wp2_with (go_at_call 74; refine (size_any _ _ (by omega) (by omega)).mono ?_; rintro e w' ⟨rfl, rfl⟩)
      go_ret
      exact ⟨ret_int (by rw [← G.out, Int.gcd_zero_right]), (by repeat (first | (with_reducible exact Below.refl _ _) | (with_reducible assumption) | (with_reducible refine Below.drew ?_) | (with_reducible refine Below.drewN ?_) | ((with_reducible refine Below.al ?_ ?_); · first | omega | (simp; done) | (simp; omega)) | ((with_reducible refine Below.sc ?_ ?_); · first | omega | (simp; done) | (simp; omega)) | ((with_reducible refine Below.thru hb ?_ ?_); · first | omega | (simp; done) | (simp; omega))))⟩
    · have hb := tmod_abs (b := q) hp.1 hp.2
      have G := Lib.hid (And.intro (gcd_step p q) (tmod_lt (a := p) h0))
      go_wp2_with fail
      go_quiet (fail)
      go_wp2
      go_roundw
      case rel => exact ⟨q, p.tmod q, rfl, rfl, hq, hb, G.out.1.trans hg.out, (by repeat (first | (with_reducible exact Below.refl _ _) | (with_reducible assumption) | (with_reducible refine Below.drew ?_) | (with_reducible refine Below.drewN ?_) | ((with_reducible refine Below.al ?_ ?_); · first | omega | (simp; done) | (simp; omega)) | ((with_reducible refine Below.sc ?_ ?_); · first | omega | (simp; done) | (simp; omega)) | ((with_reducible refine Below.thru hb ?_ ?_); · first | omega | (simp; done) | (simp; omega))))⟩
      case measure => simpa [intOf] using G.out.2

set_option maxHeartbeats 400000 in
theorem l01Gcd_any (a b : Int) (w : World) (h1 : -9000000000000000000 ≤ a) (h2 : a ≤ 9000000000000000000) (h3 : -9000000000000000000 ≤ b) (h4 : b ≤ 9000000000000000000) :
    Calls Try.prog 67 #[.int .i64 a, .int .i64 b] w fun e w' => e = .returned (.int .i64 (Int.gcd a b)) ∧ w = w' := by
  go_enter Try.func67, Try.ntmps67
  go_wp2
  go_loop [0, 1] (fun x y => ∃ p q : Int, x = .int .i64 p ∧ y = .int .i64 q ∧ (-9000000000000000000 ≤ p ∧ p ≤ 9000000000000000000) ∧ (-9000000000000000000 ≤ q ∧ q ≤ 9000000000000000000) ∧ Hid (Int.gcd p q = Int.gcd a b)) (fun _ y => (intOf y).natAbs)
  case atStart => exact ⟨a, b, rfl, rfl, ⟨h1, h2⟩, ⟨h3, h4⟩, rfl⟩
  case round =>
    obtain ⟨p, q, rfl, rfl, hp, hq, hg⟩ := hrel
    by_cases h0 : q = 0
    · subst h0
      have G := Lib.hid hg.out
      clear hg
      go_wp2
      all_goals go_ret
      all_goals exact ⟨ret_int (by rw [← G.out, Int.gcd_zero_right]; omega), rfl⟩
    · have hb := tmod_abs (b := q) hp.1 hp.2
      have G := Lib.hid (And.intro (gcd_step p q) (tmod_lt (a := p) h0))
      go_wp2
      go_round
      case rel => exact ⟨q, p.tmod q, rfl, rfl, hq, hb, G.out.1.trans hg.out⟩
      case measure => simpa [intOf] using G.out.2

/-- Is it a fraction? -/
def fracB (p q : Int) : Bool := (entB p && entB q) && decide (0 ≤ q ∧ Int.gcd p q = 1 ∧ (0 < q ∨ p = 1))
theorem fracB_ents {p q : Int} (h : fracB p q = true) : entB p = true ∧ entB q = true := by simp [fracB] at h; exact h.1
theorem fracB_parts {p q : Int} (h : fracB p q = true) : 0 ≤ q ∧ Int.gcd p q = 1 ∧ (0 < q ∨ p = 1) := by simp [fracB] at h; exact h.2

set_option maxHeartbeats 400000 in
theorem IsFraction_any (p q : Int) (w : World) :
    Calls Try.prog 62 #[.agg #[.int .i64 p, .int .i64 q]] w fun e w' => e = .returned (.bool (fracB p q)) ∧ Below w.heap.size w w' := by
  have hc : ∀ j (h : j < [p, q].length), (w.alloc (.cells #[.int .i64 p, .int .i64 q] 59)).cell? ((⟨w.heap.size, 0, none⟩ : Addr).add j) = some (.int .i64 [p, q][j]) := by
    intro j hj
    match j, hj with
    | 0, _ => simp [Addr.add]
    | 1, _ => simp [Addr.add]
  have HC := Lib.hid hc
  clear hc
  cases he : [p, q].all entB with
  | false =>
    have F : fracB p q = false := by simp [fracB] at he ⊢; intro h1 h2; simp [he h1] at h2
    have HF := Lib.hid F
    clear F
    go_enter Try.func62, Try.ntmps62
    go_wp2_with fail
    refine (areEntries_any ⟨w.heap.size, 0, none⟩ 2 [p, q] _ (by simp) HC.out).mono ?_
    rintro e w' ⟨rfl, rfl⟩
    rw [he]
    clear he
    go_wp2
    go_ret
    exact ⟨ret_bool HF.out.symm, (by repeat (first | (with_reducible exact Below.refl _ _) | (with_reducible assumption) | (with_reducible refine Below.drew ?_) | (with_reducible refine Below.drewN ?_) | ((with_reducible refine Below.al ?_ ?_); · first | omega | (simp; done) | (simp; omega)) | ((with_reducible refine Below.sc ?_ ?_); · first | omega | (simp; done) | (simp; omega)) | ((with_reducible refine Below.thru hb ?_ ?_); · first | omega | (simp; done) | (simp; omega))))⟩
  | true =>
    have he2 : entB p = true ∧ entB q = true := by simpa using he
    have k1 := entB_true he2.1
    have k2 := entB_true he2.2
    have F : fracB p q = decide (0 ≤ q ∧ Int.gcd p q = 1 ∧ (0 < q ∨ p = 1)) := by simp [fracB, he2]
    have HF := Lib.hid F
    clear F he2
    by_cases c1 : 0 ≤ q
    · cases c2 : ((Int.gcd p q : Int) == 1) with
      | false =>
        have c2' : ¬ Int.gcd p q = 1 := by simp at c2; omega
        have H2 := Lib.hid c2'
        clear c2'
        go_enter Try.func62, Try.ntmps62
        go_wp2_with fail
        refine (areEntries_any ⟨w.heap.size, 0, none⟩ 2 [p, q] _ (by simp) HC.out).mono ?_
        rintro e w' ⟨rfl, rfl⟩
        rw [he]
        clear he
        go_wp2_with fail
        refine (divisor_any _ _ _ (by omega) (by omega) (by omega) (by omega)).mono ?_
        rintro e w1 ⟨rfl, hb⟩
        go_wp2
        go_ret
        exact ⟨ret_bool (by rw [HF.out]; simp [H2.out]), (by repeat (first | (with_reducible exact Below.refl _ _) | (with_reducible assumption) | (with_reducible refine Below.drew ?_) | (with_reducible refine Below.drewN ?_) | ((with_reducible refine Below.al ?_ ?_); · first | omega | (simp; done) | (simp; omega)) | ((with_reducible refine Below.sc ?_ ?_); · first | omega | (simp; done) | (simp; omega)) | ((with_reducible refine Below.thru hb ?_ ?_); · first | omega | (simp; done) | (simp; omega))))⟩
      | true =>
        have c2' : Int.gcd p q = 1 := by simp at c2; omega
        have H2 := Lib.hid c2'
        have hc2 := Blk.new (w := w) (E := 59) (cs := #[.int .i64 p, .int .i64 q]) rfl
        have HB := Lib.hid hc2
        clear c2' hc2
        go_enter Try.func62, Try.ntmps62
        go_wp2_with fail
        refine (areEntries_any ⟨w.heap.size, 0, none⟩ 2 [p, q] _ (by simp) HC.out).mono ?_
        rintro e w' ⟨rfl, rfl⟩
        rw [he]
        clear he
        go_wp2_with fail
        refine (divisor_any _ _ _ (by omega) (by omega) (by omega) (by omega)).mono ?_
        rintro e w1 ⟨rfl, hb⟩
        have B1 : Blk w1 w.heap.size 59 #[.int .i64 p, .int .i64 q] := (by repeat (first | (with_reducible assumption) | ((with_reducible refine Blk.new ?_); · first | omega | (simp; done) | (simp; omega)) | (with_reducible apply Blk.set4) | (with_reducible apply Blk.set3) | (with_reducible apply Blk.set2) | ((with_reducible refine Blk.put ?_ ?_); · first | omega | (simp; omega)) | (with_reducible refine Blk.old ?_) | (with_reducible refine Blk.drew ?_) | (with_reducible refine Blk.drewN ?_) | ((with_reducible refine Blk.below hb ?_ ?_); · first | omega | (simp; done) | (simp; omega))))
        have b0 := B1.at (i := 0) rfl
        have b1 := B1.at (i := 1) rfl
        have kk : Below w.heap.size w w1 := (by repeat (first | (with_reducible exact Below.refl _ _) | (with_reducible assumption) | (with_reducible refine Below.drew ?_) | (with_reducible refine Below.drewN ?_) | ((with_reducible refine Below.al ?_ ?_); · first | omega | (simp; done) | (simp; omega)) | ((with_reducible refine Below.sc ?_ ?_); · first | omega | (simp; done) | (simp; omega)) | ((with_reducible refine Below.thru hb ?_ ?_); · first | omega | (simp; done) | (simp; omega))))
        clear hb
        by_cases c3 : 0 < q
        · go_wp2
          go_ret
          exact ⟨ret_bool (by have h2 := H2.out; rw [HF.out, Bool.eq_iff_iff]; simp only [decide_eq_true_eq, beq_iff_eq, Bool.or_eq_true, true_iff, Bool.false_eq_true, false_iff, eq_self, decide_true, decide_false]; omega), kk⟩
        · cases c4 : (p == 1) with
          | true =>
            go_wp2
            go_ret
            have : p = 1 := by simpa using c4
            exact ⟨ret_bool (by have h2 := H2.out; rw [HF.out, Bool.eq_iff_iff]; simp only [decide_eq_true_eq, beq_iff_eq, Bool.or_eq_true, true_iff, Bool.false_eq_true, false_iff, eq_self, decide_true, decide_false]; omega), kk⟩
          | false =>
            go_wp2
            go_ret
            have : ¬ p = 1 := by simpa using c4
            exact ⟨ret_bool (by have h2 := H2.out; rw [HF.out, Bool.eq_iff_iff]; simp only [decide_eq_true_eq, beq_iff_eq, Bool.or_eq_true, true_iff, Bool.false_eq_true, false_iff, eq_self, decide_true, decide_false]; omega), kk⟩
    · go_enter Try.func62, Try.ntmps62
      go_wp2_with fail
      refine (areEntries_any ⟨w.heap.size, 0, none⟩ 2 [p, q] _ (by simp) HC.out).mono ?_
      rintro e w' ⟨rfl, rfl⟩
      rw [he]
      clear he
      go_wp2
      go_ret
      exact ⟨ret_bool (by rw [HF.out]; symm; rw [decide_eq_false_iff_not]; omega), (by repeat (first | (with_reducible exact Below.refl _ _) | (with_reducible assumption) | (with_reducible refine Below.drew ?_) | (with_reducible refine Below.drewN ?_) | ((with_reducible refine Below.al ?_ ?_); · first | omega | (simp; done) | (simp; omega)) | ((with_reducible refine Below.sc ?_ ?_); · first | omega | (simp; done) | (simp; omega)) | ((with_reducible refine Below.thru hb ?_ ?_); · first | omega | (simp; done) | (simp; omega))))⟩


end Go.Proofs.Ytjjbaebddkejnaa
