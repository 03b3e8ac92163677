/- Normal pairs: the reference's walk. -/
import Derived.Test.YtamkbgodenkboaaNrm
namespace Go.Proofs.Ytamkbgodenkboaa
open Go.RowKit
set_option linter.unusedSimpArgs false

def isPr (n c d : Nat) : Bool := decide (Nat.gcd (Nat.gcd c d) n = 1)
/-- What l06Normal gives. -/
def nrmV (n c d : Nat) : Int × Int × Bool := if isPr n c d = true then (((nrmN n c d).1 : Int), ((nrmN n c d).2 : Int), true) else (0, 0, false)
theorem gcd_le60 {n c d : Nat} (hn : 1 ≤ n ∧ n ≤ 60) (hc : c < n) (hd : d < n) : Nat.gcd c d ≤ 60 := by
  by_cases h : c = 0
  · subst h; rw [Nat.gcd_zero_left]; omega
  · have := Nat.gcd_le_left d (show 0 < c by omega); omega

set_option maxRecDepth 8000 in
set_option maxHeartbeats 2000000 in
theorem l06Normal_any (n c d : Nat) (w : World) (hn : 1 ≤ n ∧ n ≤ 60) (hc : c < n) (hd : d < n) :
    Calls Try.prog 127 #[.int .i64 (n : Int), .int .i64 (c : Int), .int .i64 (d : Int)] w fun e w' => e = .returned (.tuple #[.int .i64 (nrmV n c d).1, .int .i64 (nrmV n c d).2.1, .bool (nrmV n c d).2.2]) ∧ Below w.heap.size w w' := by
  have hg := gcd_le60 hn hc hd
  have HG1 := Lib.hid (fun w' : World => l01Gcd_any (c : Int) (d : Int) w' (by omega) (by omega) (by omega) (by omega))
  have HG2 := Lib.hid (fun w' : World => l01Gcd_any ((Nat.gcd c d : Nat) : Int) (n : Int) w' (by omega) (by omega) (by omega) (by omega))
  have H1 := Lib.hid (show Int.gcd (c : Int) (d : Int) = Nat.gcd c d from rfl)
  rw [H1.out] at HG1
  have H2 := Lib.hid (show Int.gcd ((Nat.gcd c d : Nat) : Int) (n : Int) = Nat.gcd (Nat.gcd c d) n from rfl)
  rw [H2.out] at HG2
  clear H1 H2
  by_cases hp : Nat.gcd (Nat.gcd c d) n = 1
  · have HV := Lib.hid (show nrmV n c d = (((nrmN n c d).1 : Int), ((nrmN n c d).2 : Int), true) by unfold nrmV; rw [if_pos (show isPr n c d = true from decide_eq_true hp)])
    rw [hp] at HG2
    generalize Nat.gcd c d = g at *
    clear hp
    go_enter Try.func127, Try.ntmps127
    go_wp2_with fail
    refine (HG1.out _).mono ?_
    rintro e w' ⟨rfl, rfl⟩
    go_wp2_with fail
    refine (HG2.out _).mono ?_
    rintro e w' ⟨rfl, rfl⟩
    go_wp2
    go_loopw [9, 10, 11] (fun x y k wr => ∃ j : Nat, 1 ≤ j ∧ j ≤ n ∧ k = .int .i64 (j : Int) ∧ x = .int .i64 ((nrm n c d (j - 1)).1 : Int) ∧ y = .int .i64 ((nrm n c d (j - 1)).2 : Int) ∧ Below w.heap.size w wr) (fun _ _ k _ => n - (intOf k).toNat)
    case atStart => exact ⟨1, by omega, by omega, rfl, rfl, rfl, (by repeat (first | (with_reducible exact Below.refl _ _) | (with_reducible assumption) | (with_reducible refine Below.drew ?_) | (with_reducible refine Below.drewN ?_) | ((with_reducible refine Below.al ?_ ?_); · first | omega | (simp; done) | (simp; omega)) | ((with_reducible refine Below.sc ?_ ?_); · first | omega | (simp; done) | (simp; omega)) | ((with_reducible refine Below.thru hb ?_ ?_); · first | omega | (simp; done) | (simp; omega))))⟩
    case round =>
      clear HG1 HG2
      obtain ⟨j, hj1, hj, rfl, rfl, rfl, kwr⟩ := hrel
      have HN := Lib.hid (show nrm n c d j = nst n c d j (nrm n c d (j - 1)) by obtain ⟨i, rfl⟩ : ∃ i, j = i + 1 := ⟨j - 1, by omega⟩; rfl)
      have hb1 := (nrm_lt hc hd (j - 1)).1
      have hb2 := (nrm_lt hc hd (j - 1)).2
      have hnr := Lib.hid (show n = j → nrmN n c d = nrm n c d (j - 1) from fun h => by subst h; rfl)
      generalize nrm n c d (j - 1) = b at *
      obtain ⟨b1, b2⟩ := b
      simp only at hb1 hb2
      by_cases hlt : j < n
      · have HD := Lib.hid (fun w' : World => l01Gcd_any (j : Int) (n : Int) w' (by omega) (by omega) (by omega) (by omega))
        have H2 := Lib.hid (show Int.gcd (j : Int) (n : Int) = Nat.gcd j n from rfl)
        rw [H2.out] at HD
        clear H2
        by_cases hu : Nat.gcd j n = 1
        · have HX := Lib.hid (nst_unit (c := c) (d := d) (b := (b1, b2)) hu)
          rw [HX.out] at HN
          rw [hu] at HD
          clear HX hu
          have e1 := tmod_nat j c n
          have e2 := tmod_nat j d n
          have m1 : j * c ≤ 60 * 60 := Nat.mul_le_mul (by omega) (by omega)
          have m2 : j * d ≤ 60 * 60 := Nat.mul_le_mul (by omega) (by omega)
          have hw1 : IntKind.i64.wrap ((j : Int) * (c : Int)) = (j : Int) * (c : Int) := by rw [IntKind.wrap_i64, ← Int.natCast_mul]; omega
          have hw2 : IntKind.i64.wrap ((j : Int) * (d : Int)) = (j : Int) * (d : Int) := by rw [IntKind.wrap_i64, ← Int.natCast_mul]; omega
          have hn0 : ¬ n = 0 := by omega
          clear m1 m2
          generalize j * c % n = x at *
          generalize j * d % n = y at *
          go_wp2_with fail
          refine (HD.out _).mono ?_
          rintro e w' ⟨rfl, rfl⟩
          go_wp2_with fail
          go_quiet (fail)
          by_cases hl1 : x < b1
          · have HE := Lib.hid (show nrm n c d j = (x, y) by rw [HN.out, if_pos (.inl hl1)])
            clear HN
            go_wp2
            go_roundw
            case rel => exact ⟨j + 1, by omega, by omega, by go_num, by rw [Nat.add_sub_cancel, HE.out], by rw [Nat.add_sub_cancel, HE.out], (by repeat (first | (with_reducible exact Below.refl _ _) | (with_reducible assumption) | (with_reducible refine Below.drew ?_) | (with_reducible refine Below.drewN ?_) | ((with_reducible refine Below.al ?_ ?_); · first | omega | (simp; done) | (simp; omega)) | ((with_reducible refine Below.sc ?_ ?_); · first | omega | (simp; done) | (simp; omega)) | ((with_reducible refine Below.thru hb ?_ ?_); · first | omega | (simp; done) | (simp; omega))))⟩
            case measure => simp [intOf]; omega
          · by_cases hl2 : x = b1
            · subst hl2
              by_cases hl3 : y < b2
              · have HE := Lib.hid (show nrm n c d j = (x, y) by rw [HN.out, if_pos (.inr ⟨rfl, hl3⟩)])
                clear HN
                go_wp2
                go_roundw
                case rel => exact ⟨j + 1, by omega, by omega, by go_num, by rw [Nat.add_sub_cancel, HE.out], by rw [Nat.add_sub_cancel, HE.out], (by repeat (first | (with_reducible exact Below.refl _ _) | (with_reducible assumption) | (with_reducible refine Below.drew ?_) | (with_reducible refine Below.drewN ?_) | ((with_reducible refine Below.al ?_ ?_); · first | omega | (simp; done) | (simp; omega)) | ((with_reducible refine Below.sc ?_ ?_); · first | omega | (simp; done) | (simp; omega)) | ((with_reducible refine Below.thru hb ?_ ?_); · first | omega | (simp; done) | (simp; omega))))⟩
                case measure => simp [intOf]; omega
              · have HE := Lib.hid (show nrm n c d j = (x, b2) by rw [HN.out, if_neg (fun h => by rcases h with h | h <;> simp only at h <;> omega)])
                clear HN
                go_wp2
                go_roundw
                case rel => exact ⟨j + 1, by omega, by omega, by go_num, by rw [Nat.add_sub_cancel, HE.out], by rw [Nat.add_sub_cancel, HE.out], (by repeat (first | (with_reducible exact Below.refl _ _) | (with_reducible assumption) | (with_reducible refine Below.drew ?_) | (with_reducible refine Below.drewN ?_) | ((with_reducible refine Below.al ?_ ?_); · first | omega | (simp; done) | (simp; omega)) | ((with_reducible refine Below.sc ?_ ?_); · first | omega | (simp; done) | (simp; omega)) | ((with_reducible refine Below.thru hb ?_ ?_); · first | omega | (simp; done) | (simp; omega))))⟩
                case measure => simp [intOf]; omega
            · have HE := Lib.hid (show nrm n c d j = (b1, b2) by rw [HN.out, if_neg (fun h => by rcases h with h | h <;> simp only at h <;> omega)])
              clear HN
              go_wp2
              go_roundw
              case rel => exact ⟨j + 1, by omega, by omega, by go_num, by rw [Nat.add_sub_cancel, HE.out], by rw [Nat.add_sub_cancel, HE.out], (by repeat (first | (with_reducible exact Below.refl _ _) | (with_reducible assumption) | (with_reducible refine Below.drew ?_) | (with_reducible refine Below.drewN ?_) | ((with_reducible refine Below.al ?_ ?_); · first | omega | (simp; done) | (simp; omega)) | ((with_reducible refine Below.sc ?_ ?_); · first | omega | (simp; done) | (simp; omega)) | ((with_reducible refine Below.thru hb ?_ ?_); · first | omega | (simp; done) | (simp; omega))))⟩
              case measure => simp [intOf]; omega
        · have HE := Lib.hid (show nrm n c d j = (b1, b2) by rw [HN.out]; unfold nst; rw [if_neg (fun h => hu h.1)])
          have hu1 : ¬ (Nat.gcd j n : Int) = 1 := by omega
          generalize Nat.gcd j n = g at *
          clear HN
          go_wp2_with fail
          refine (HD.out _).mono ?_
          rintro e w' ⟨rfl, rfl⟩
          go_wp2
          go_roundw
          case rel => exact ⟨j + 1, by omega, by omega, by go_num, by rw [Nat.add_sub_cancel, HE.out], by rw [Nat.add_sub_cancel, HE.out], (by repeat (first | (with_reducible exact Below.refl _ _) | (with_reducible assumption) | (with_reducible refine Below.drew ?_) | (with_reducible refine Below.drewN ?_) | ((with_reducible refine Below.al ?_ ?_); · first | omega | (simp; done) | (simp; omega)) | ((with_reducible refine Below.sc ?_ ?_); · first | omega | (simp; done) | (simp; omega)) | ((with_reducible refine Below.thru hb ?_ ?_); · first | omega | (simp; done) | (simp; omega))))⟩
          case measure => simp [intOf]; omega
      · have HE := Lib.hid (show nrmN n c d = (b1, b2) from hnr.out (by omega))
        go_wp2
        go_ret3
        exact ⟨by rw [HV.out, HE.out]; rfl, kwr⟩
  · have HV := Lib.hid (show nrmV n c d = (0, 0, false) by unfold nrmV; rw [if_neg (by rw [show isPr n c d = false from decide_eq_false hp]; exact Bool.false_ne_true)])
    have hp1 : ¬ (Nat.gcd (Nat.gcd c d) n : Int) = 1 := by omega
    generalize Nat.gcd (Nat.gcd c d) n = g2 at *
    generalize Nat.gcd c d = g at *
    go_enter Try.func127, Try.ntmps127
    go_wp2_with fail
    refine (HG1.out _).mono ?_
    rintro e w' ⟨rfl, rfl⟩
    go_wp2_with fail
    refine (HG2.out _).mono ?_
    rintro e w' ⟨rfl, rfl⟩
    go_wp2
    go_ret3
    exact ⟨by rw [HV.out]; rfl, (by repeat (first | (with_reducible exact Below.refl _ _) | (with_reducible assumption) | (with_reducible refine Below.drew ?_) | (with_reducible refine Below.drewN ?_) | ((with_reducible refine Below.al ?_ ?_); · first | omega | (simp; done) | (simp; omega)) | ((with_reducible refine Below.sc ?_ ?_); · first | omega | (simp; done) | (simp; omega)) | ((with_reducible refine Below.thru hb ?_ ?_); · first | omega | (simp; done) | (simp; omega))))⟩

end Go.Proofs.Ytamkbgodenkboaa
