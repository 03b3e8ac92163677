/- Normal pairs: both walks. -/
import Derived.Test.YtamkbgodenkboaaPr
import Derived.Test.YtamkbgodenkboaaTail
namespace Go.Proofs.Ytamkbgodenkboaa
open Go.RowKit
set_option linter.unusedSimpArgs false

theorem Blk.p2n {w : World} {g : Nat} {E : TypeId} {x : Nat × Nat} (h : Blk w g E (pcs x)) : w.cell? ⟨g, 0, none⟩ = some (.int .i64 (x.1 : Int)) ∧ w.cell? ⟨g, 1, none⟩ = some (.int .i64 (x.2 : Int)) := ⟨h.at (i := 0) rfl, h.at (i := 1) rfl⟩

theorem gcd_unit {k n : Nat} (hk : 1 ≤ k) : (1 < Int.gcd (k : Int) (n : Int)) ↔ ¬ Nat.gcd k n = 1 := by
  have : 0 < Nat.gcd k n := Nat.gcd_pos_of_pos_left _ hk
  show (1 < Nat.gcd k n) ↔ _
  omega

theorem nst_unit {n c d k : Nat} {b : Nat × Nat} (hu : Nat.gcd k n = 1) : nst n c d k b = if ltP (k * c % n, k * d % n) b then (k * c % n, k * d % n) else b := by
  unfold nst
  by_cases h : ltP (k * c % n, k * d % n) b
  · rw [if_pos ⟨hu, h⟩, if_pos h]
  · rw [if_neg (fun h' => h h'.2), if_neg h]

set_option maxRecDepth 8000 in
set_option maxHeartbeats 2000000 in
theorem normal_any (n c d : Nat) (w : World) (hn : 1 ≤ n ∧ n ≤ 60) (hc : c < n) (hd : d < n) :
    Calls Try.prog 130 #[.int .i64 (n : Int), .agg #[.int .i64 (c : Int), .int .i64 (d : Int)]] w fun e w' => e = .returned (.agg #[.int .i64 ((nrmN n c d).1 : Int), .int .i64 ((nrmN n c d).2 : Int)]) ∧ Below w.heap.size w w' := by
  go_enter Try.func130, Try.ntmps130
  go_wp2_with fail
  refine forget (fun W_ => Below w.heap.size w W_ ∧ Blk W_ (w.heap.size) 142 (pcs (c, d)) ∧ Blk W_ (w.heap.size + 1) 142 (#[.int .i64 0, .int .i64 0]) ∧ Blk W_ (w.heap.size + 2) 142 (pcs (c, d))) ⟨(by repeat (first | (with_reducible exact Below.refl _ _) | (with_reducible assumption) | (with_reducible refine Below.drew ?_) | (with_reducible refine Below.drewN ?_) | ((with_reducible refine Below.al ?_ ?_); · first | omega | (simp; done) | (simp; omega)) | ((with_reducible refine Below.sc ?_ ?_); · first | omega | (simp; done) | (simp; omega)) | ((with_reducible refine Below.thru hb ?_ ?_); · first | omega | (simp; done) | (simp; omega)))), (by repeat (first | (with_reducible assumption) | ((with_reducible refine Blk.new ?_); · first | omega | (simp; done) | (simp; omega)) | (with_reducible apply Blk.set4) | (with_reducible apply Blk.set3) | (with_reducible apply Blk.set2) | ((with_reducible refine Blk.put ?_ ?_); · first | omega | (simp; omega)) | (with_reducible refine Blk.old ?_) | (with_reducible refine Blk.drew ?_) | (with_reducible refine Blk.drewN ?_) | ((with_reducible refine Blk.below hb ?_ ?_); · first | omega | (simp; done) | (simp; omega)))), (by repeat (first | (with_reducible assumption) | ((with_reducible refine Blk.new ?_); · first | omega | (simp; done) | (simp; omega)) | (with_reducible apply Blk.set4) | (with_reducible apply Blk.set3) | (with_reducible apply Blk.set2) | ((with_reducible refine Blk.put ?_ ?_); · first | omega | (simp; omega)) | (with_reducible refine Blk.old ?_) | (with_reducible refine Blk.drew ?_) | (with_reducible refine Blk.drewN ?_) | ((with_reducible refine Blk.below hb ?_ ?_); · first | omega | (simp; done) | (simp; omega)))), (by repeat (first | (with_reducible assumption) | ((with_reducible refine Blk.new ?_); · first | omega | (simp; done) | (simp; omega)) | (with_reducible apply Blk.set4) | (with_reducible apply Blk.set3) | (with_reducible apply Blk.set2) | ((with_reducible refine Blk.put ?_ ?_); · first | omega | (simp; omega)) | (with_reducible refine Blk.old ?_) | (with_reducible refine Blk.drew ?_) | (with_reducible refine Blk.drewN ?_) | ((with_reducible refine Blk.below hb ?_ ?_); · first | omega | (simp; done) | (simp; omega))))⟩ ?_
  rintro w1 ⟨kw1, B0, B1, B2⟩
  have sw1 := kw1.size
  have lB0 := B0.lt
  have lB1 := B1.lt
  have lB2 := B2.lt
  go_loopw [6] (fun k wr => ∃ j : Nat, 1 ≤ j ∧ j ≤ n ∧ k = .int .i64 (j : Int) ∧ Blk wr w.heap.size 142 (pcs (c, d)) ∧ Blk wr (w.heap.size + 1) 142 (#[.int .i64 0, .int .i64 0]) ∧ Blk wr (w.heap.size + 2) 142 (pcs (nrm n c d (j - 1))) ∧ Below w.heap.size w wr) (fun k _ => n - (intOf k).toNat)
  case atStart => exact ⟨1, by omega, by omega, rfl, B0, B1, B2, kw1⟩
  case round =>
    clear B0 B1 B2 kw1 sw1 lB0 lB1 lB2
    obtain ⟨j, hj1, hj, rfl, B0, B1, B2, kwr⟩ := hrel
    have swr := kwr.size
    have lB0 := B0.lt
    have lB1 := B1.lt
    have lB2 := B2.lt
    have HN := Lib.hid (show nrm n c d j = nst n c d j (nrm n c d (j - 1)) by obtain ⟨i, rfl⟩ : ∃ i, j = i + 1 := ⟨j - 1, by omega⟩; rfl)
    have hb1 := (nrm_lt hc hd (j - 1)).1
    have hb2 := (nrm_lt hc hd (j - 1)).2
    have hnr := Lib.hid (show n = j → nrmN n c d = nrm n c d (j - 1) from fun h => by subst h; rfl)
    generalize nrm n c d (j - 1) = b at *
    by_cases hlt : j < n
    · have hgu := gcd_unit (k := j) (n := n) (by omega)
      by_cases hu : Nat.gcd j n = 1
      · have hu1 : ¬ 1 < Int.gcd (j : Int) (n : Int) := fun h => hgu.1 h hu
        have HD := Lib.hid (fun w' : World => divisor_any (j : Int) (n : Int) w' (by omega) (by omega) (by omega) (by omega))
        have hg0 : 0 ≤ (Int.gcd (j : Int) (n : Int) : Int) := by omega
        generalize Int.gcd (j : Int) (n : Int) = g at *
        clear hgu
        go_wp2_with fail
        refine (HD.out _).mono ?_
        rintro e w2 ⟨rfl, hb⟩
        have C0 : Blk w2 w.heap.size 142 (pcs (c, d)) := (by repeat (first | (with_reducible assumption) | ((with_reducible refine Blk.new ?_); · first | omega | (simp; done) | (simp; omega)) | (with_reducible apply Blk.set4) | (with_reducible apply Blk.set3) | (with_reducible apply Blk.set2) | ((with_reducible refine Blk.put ?_ ?_); · first | omega | (simp; omega)) | (with_reducible refine Blk.old ?_) | (with_reducible refine Blk.drew ?_) | (with_reducible refine Blk.drewN ?_) | ((with_reducible refine Blk.below hb ?_ ?_); · first | omega | (simp; done) | (simp; omega))))
        have C1 : Blk w2 (w.heap.size + 1) 142 #[.int .i64 0, .int .i64 0] := (by repeat (first | (with_reducible assumption) | ((with_reducible refine Blk.new ?_); · first | omega | (simp; done) | (simp; omega)) | (with_reducible apply Blk.set4) | (with_reducible apply Blk.set3) | (with_reducible apply Blk.set2) | ((with_reducible refine Blk.put ?_ ?_); · first | omega | (simp; omega)) | (with_reducible refine Blk.old ?_) | (with_reducible refine Blk.drew ?_) | (with_reducible refine Blk.drewN ?_) | ((with_reducible refine Blk.below hb ?_ ?_); · first | omega | (simp; done) | (simp; omega))))
        have C2 : Blk w2 (w.heap.size + 2) 142 (pcs b) := (by repeat (first | (with_reducible assumption) | ((with_reducible refine Blk.new ?_); · first | omega | (simp; done) | (simp; omega)) | (with_reducible apply Blk.set4) | (with_reducible apply Blk.set3) | (with_reducible apply Blk.set2) | ((with_reducible refine Blk.put ?_ ?_); · first | omega | (simp; omega)) | (with_reducible refine Blk.old ?_) | (with_reducible refine Blk.drew ?_) | (with_reducible refine Blk.drewN ?_) | ((with_reducible refine Blk.below hb ?_ ?_); · first | omega | (simp; done) | (simp; omega))))
        have kw2 : Below w.heap.size w w2 := (by repeat (first | (with_reducible exact Below.refl _ _) | (with_reducible assumption) | (with_reducible refine Below.drew ?_) | (with_reducible refine Below.drewN ?_) | ((with_reducible refine Below.al ?_ ?_); · first | omega | (simp; done) | (simp; omega)) | ((with_reducible refine Below.sc ?_ ?_); · first | omega | (simp; done) | (simp; omega)) | ((with_reducible refine Below.thru hb ?_ ?_); · first | omega | (simp; done) | (simp; omega))))
        have c0 := C0.p2n
        have c2 := C2.p2n
        have lC0 := C0.lt
        have lC1 := C1.lt
        have lC2 := C2.lt
        have sw2 := kw2.size
        clear hb B0 B1 B2 kwr HD
        have e1 := tmod_nat j c n
        have e2 := tmod_nat j d n
        have m1 : j * c ≤ 60 * 60 := Nat.mul_le_mul (by omega) (by omega)
        have m2 : j * d ≤ 60 * 60 := Nat.mul_le_mul (by omega) (by omega)
        have hw1 : IntKind.i64.wrap ((j : Int) * (c : Int)) = (j : Int) * (c : Int) := by rw [IntKind.wrap_i64, ← Int.natCast_mul]; omega
        have hw2 : IntKind.i64.wrap ((j : Int) * (d : Int)) = (j : Int) * (d : Int) := by rw [IntKind.wrap_i64, ← Int.natCast_mul]; omega
        have hn0 : ¬ n = 0 := by omega
        clear m1 m2
        have HX := Lib.hid (show nst n c d j b = if ltP (j * c % n, j * d % n) b then (j * c % n, j * d % n) else b from nst_unit hu)
        rw [HX.out] at HN
        clear HX
        generalize j * c % n = x at *
        generalize j * d % n = y at *
        obtain ⟨c00, c01⟩ := c0
        obtain ⟨c20, c21⟩ := c2
        go_wp2_with fail
        go_region_held3 (fun w' => w'.cell? ⟨w.heap.size, 0, none⟩ = some (.int .i64 (c : Int)) ∧ w'.cell? ⟨w.heap.size, 1, none⟩ = some (.int .i64 (d : Int))) (go_keep) (fail)
        refine forget (fun W_ => Below w.heap.size w W_ ∧ Blk W_ (w.heap.size) 142 (pcs (c, d)) ∧ Blk W_ (w.heap.size + 1) 142 (#[.int .i64 0, .int .i64 0]) ∧ Blk W_ (w.heap.size + 2) 142 (pcs b) ∧ Blk W_ (w2.heap.size) 142 (pcs (x, y))) ⟨(by repeat (first | (with_reducible exact Below.refl _ _) | (with_reducible assumption) | (with_reducible refine Below.drew ?_) | (with_reducible refine Below.drewN ?_) | ((with_reducible refine Below.al ?_ ?_); · first | omega | (simp; done) | (simp; omega)) | ((with_reducible refine Below.sc ?_ ?_); · first | omega | (simp; done) | (simp; omega)) | ((with_reducible refine Below.thru hb ?_ ?_); · first | omega | (simp; done) | (simp; omega)))), (by repeat (first | (with_reducible assumption) | ((with_reducible refine Blk.new ?_); · first | omega | (simp; done) | (simp; omega)) | (with_reducible apply Blk.set4) | (with_reducible apply Blk.set3) | (with_reducible apply Blk.set2) | ((with_reducible refine Blk.put ?_ ?_); · first | omega | (simp; omega)) | (with_reducible refine Blk.old ?_) | (with_reducible refine Blk.drew ?_) | (with_reducible refine Blk.drewN ?_) | ((with_reducible refine Blk.below hb ?_ ?_); · first | omega | (simp; done) | (simp; omega)))), (by repeat (first | (with_reducible assumption) | ((with_reducible refine Blk.new ?_); · first | omega | (simp; done) | (simp; omega)) | (with_reducible apply Blk.set4) | (with_reducible apply Blk.set3) | (with_reducible apply Blk.set2) | ((with_reducible refine Blk.put ?_ ?_); · first | omega | (simp; omega)) | (with_reducible refine Blk.old ?_) | (with_reducible refine Blk.drew ?_) | (with_reducible refine Blk.drewN ?_) | ((with_reducible refine Blk.below hb ?_ ?_); · first | omega | (simp; done) | (simp; omega)))), (by repeat (first | (with_reducible assumption) | ((with_reducible refine Blk.new ?_); · first | omega | (simp; done) | (simp; omega)) | (with_reducible apply Blk.set4) | (with_reducible apply Blk.set3) | (with_reducible apply Blk.set2) | ((with_reducible refine Blk.put ?_ ?_); · first | omega | (simp; omega)) | (with_reducible refine Blk.old ?_) | (with_reducible refine Blk.drew ?_) | (with_reducible refine Blk.drewN ?_) | ((with_reducible refine Blk.below hb ?_ ?_); · first | omega | (simp; done) | (simp; omega)))), (by repeat (first | (with_reducible assumption) | ((with_reducible refine Blk.new ?_); · first | omega | (simp; done) | (simp; omega)) | (with_reducible apply Blk.set4) | (with_reducible apply Blk.set3) | (with_reducible apply Blk.set2) | ((with_reducible refine Blk.put ?_ ?_); · first | omega | (simp; omega)) | (with_reducible refine Blk.old ?_) | (with_reducible refine Blk.drew ?_) | (with_reducible refine Blk.drewN ?_) | ((with_reducible refine Blk.below hb ?_ ?_); · first | omega | (simp; done) | (simp; omega))))⟩ ?_
        rintro w3 ⟨kw3, D0, D1, D2, D3⟩
        have sw3 := kw3.size
        have lD0 := D0.lt
        have lD1 := D1.lt
        have lD2 := D2.lt
        have lD3 := D3.lt
        obtain ⟨d20, d21⟩ := D2.later2
        obtain ⟨d30, d31⟩ := D3.later2
        have f20 := D2.free 0
        have f21 := D2.free 1
        have HC := Lib.hid (fun w' p1 p2 p3 p4 => compareP_any w2.heap.size (w.heap.size + 2) (x, y) b w' p1 p2 p3 p4)
        have hlt2 := cmpP_lt (x, y) b
        have hr := cmpP_bd (x, y) b
        generalize cmpP (x, y) b = r at *
        clear C0 C1 C2 kw2 c00 c01 c20 c21
        by_cases hl : ltP (x, y) b
        · have hr0 : r < 0 := hlt2.2 hl
          rw [if_pos hl] at HN
          clear hlt2 hl
          go_wp2_with fail
          refine wp_region_calm (by kernel_rfl) (by kernel_rfl) ?_
          repeat (go_big_quiet_step (first | (go_at_call 155; with_reducible exact Calls.calm_same ((HC.out _ (d30 _) (d31 _) (d20 _) (d21 _))))))
          refine wpQuiet_nil ?_
          rintro w4 ⟨⟨_, hb⟩, rfl⟩
          have E0 : Blk w4 (w.heap.size) 142 (pcs (c, d)) := (by repeat (first | (with_reducible assumption) | ((with_reducible refine Blk.new ?_); · first | omega | (simp; done) | (simp; omega)) | (with_reducible apply Blk.set4) | (with_reducible apply Blk.set3) | (with_reducible apply Blk.set2) | ((with_reducible refine Blk.put ?_ ?_); · first | omega | (simp; omega)) | (with_reducible refine Blk.old ?_) | (with_reducible refine Blk.drew ?_) | (with_reducible refine Blk.drewN ?_) | ((with_reducible refine Blk.below hb ?_ ?_); · first | omega | (simp; done) | (simp; omega))))
          have lE0 := E0.lt
          have E1 : Blk w4 (w.heap.size + 1) 142 (#[.int .i64 0, .int .i64 0]) := (by repeat (first | (with_reducible assumption) | ((with_reducible refine Blk.new ?_); · first | omega | (simp; done) | (simp; omega)) | (with_reducible apply Blk.set4) | (with_reducible apply Blk.set3) | (with_reducible apply Blk.set2) | ((with_reducible refine Blk.put ?_ ?_); · first | omega | (simp; omega)) | (with_reducible refine Blk.old ?_) | (with_reducible refine Blk.drew ?_) | (with_reducible refine Blk.drewN ?_) | ((with_reducible refine Blk.below hb ?_ ?_); · first | omega | (simp; done) | (simp; omega))))
          have lE1 := E1.lt
          have E2 : Blk w4 (w.heap.size + 2) 142 (pcs b) := (by repeat (first | (with_reducible assumption) | ((with_reducible refine Blk.new ?_); · first | omega | (simp; done) | (simp; omega)) | (with_reducible apply Blk.set4) | (with_reducible apply Blk.set3) | (with_reducible apply Blk.set2) | ((with_reducible refine Blk.put ?_ ?_); · first | omega | (simp; omega)) | (with_reducible refine Blk.old ?_) | (with_reducible refine Blk.drew ?_) | (with_reducible refine Blk.drewN ?_) | ((with_reducible refine Blk.below hb ?_ ?_); · first | omega | (simp; done) | (simp; omega))))
          have lE2 := E2.lt
          have E3 : Blk w4 (w2.heap.size) 142 (pcs (x, y)) := (by repeat (first | (with_reducible assumption) | ((with_reducible refine Blk.new ?_); · first | omega | (simp; done) | (simp; omega)) | (with_reducible apply Blk.set4) | (with_reducible apply Blk.set3) | (with_reducible apply Blk.set2) | ((with_reducible refine Blk.put ?_ ?_); · first | omega | (simp; omega)) | (with_reducible refine Blk.old ?_) | (with_reducible refine Blk.drew ?_) | (with_reducible refine Blk.drewN ?_) | ((with_reducible refine Blk.below hb ?_ ?_); · first | omega | (simp; done) | (simp; omega))))
          have lE3 := E3.lt
          have kw4 : Below w.heap.size w w4 := (by repeat (first | (with_reducible exact Below.refl _ _) | (with_reducible assumption) | (with_reducible refine Below.drew ?_) | (with_reducible refine Below.drewN ?_) | ((with_reducible refine Below.al ?_ ?_); · first | omega | (simp; done) | (simp; omega)) | ((with_reducible refine Below.sc ?_ ?_); · first | omega | (simp; done) | (simp; omega)) | ((with_reducible refine Below.thru hb ?_ ?_); · first | omega | (simp; done) | (simp; omega))))
          have sw4 := kw4.size
          clear hb
          obtain ⟨e30, e31⟩ := E3.p2n
          obtain ⟨e20, e21⟩ := E2.p2n
          have f0 := E2.free 0
          have f1 := E2.free 1
          clear D0 D1 D2 D3 d20 d21 d30 d31
          go_wp2
          go_roundw
          case rel => exact ⟨j + 1, by omega, by omega, by go_num, (by repeat (first | (with_reducible assumption) | ((with_reducible refine Blk.new ?_); · first | omega | (simp; done) | (simp; omega)) | (with_reducible apply Blk.set4) | (with_reducible apply Blk.set3) | (with_reducible apply Blk.set2) | ((with_reducible refine Blk.put ?_ ?_); · first | omega | (simp; omega)) | (with_reducible refine Blk.old ?_) | (with_reducible refine Blk.drew ?_) | (with_reducible refine Blk.drewN ?_) | ((with_reducible refine Blk.below hb ?_ ?_); · first | omega | (simp; done) | (simp; omega)))), (by repeat (first | (with_reducible assumption) | ((with_reducible refine Blk.new ?_); · first | omega | (simp; done) | (simp; omega)) | (with_reducible apply Blk.set4) | (with_reducible apply Blk.set3) | (with_reducible apply Blk.set2) | ((with_reducible refine Blk.put ?_ ?_); · first | omega | (simp; omega)) | (with_reducible refine Blk.old ?_) | (with_reducible refine Blk.drew ?_) | (with_reducible refine Blk.drewN ?_) | ((with_reducible refine Blk.below hb ?_ ?_); · first | omega | (simp; done) | (simp; omega)))), by rw [Nat.add_sub_cancel, HN.out]; exact (by repeat (first | (with_reducible assumption) | ((with_reducible refine Blk.new ?_); · first | omega | (simp; done) | (simp; omega)) | (with_reducible apply Blk.set4) | (with_reducible apply Blk.set3) | (with_reducible apply Blk.set2) | ((with_reducible refine Blk.put ?_ ?_); · first | omega | (simp; omega)) | (with_reducible refine Blk.old ?_) | (with_reducible refine Blk.drew ?_) | (with_reducible refine Blk.drewN ?_) | ((with_reducible refine Blk.below hb ?_ ?_); · first | omega | (simp; done) | (simp; omega)))), (by repeat (first | (with_reducible exact Below.refl _ _) | (with_reducible assumption) | (with_reducible refine Below.drew ?_) | (with_reducible refine Below.drewN ?_) | ((with_reducible refine Below.al ?_ ?_); · first | omega | (simp; done) | (simp; omega)) | ((with_reducible refine Below.sc ?_ ?_); · first | omega | (simp; done) | (simp; omega)) | ((with_reducible refine Below.thru hb ?_ ?_); · first | omega | (simp; done) | (simp; omega))))⟩
          case measure => simp [intOf]; omega
        · have hr0 : ¬ r < 0 := fun h => hl (hlt2.1 h)
          rw [if_neg hl] at HN
          clear hlt2 hl
          go_wp2_with fail
          refine wp_region_calm (by kernel_rfl) (by kernel_rfl) ?_
          repeat (go_big_quiet_step (first | (go_at_call 155; with_reducible exact Calls.calm_same ((HC.out _ (d30 _) (d31 _) (d20 _) (d21 _))))))
          refine wpQuiet_nil ?_
          rintro w4 ⟨⟨_, hb⟩, rfl⟩
          have E0 : Blk w4 (w.heap.size) 142 (pcs (c, d)) := (by repeat (first | (with_reducible assumption) | ((with_reducible refine Blk.new ?_); · first | omega | (simp; done) | (simp; omega)) | (with_reducible apply Blk.set4) | (with_reducible apply Blk.set3) | (with_reducible apply Blk.set2) | ((with_reducible refine Blk.put ?_ ?_); · first | omega | (simp; omega)) | (with_reducible refine Blk.old ?_) | (with_reducible refine Blk.drew ?_) | (with_reducible refine Blk.drewN ?_) | ((with_reducible refine Blk.below hb ?_ ?_); · first | omega | (simp; done) | (simp; omega))))
          have lE0 := E0.lt
          have E1 : Blk w4 (w.heap.size + 1) 142 (#[.int .i64 0, .int .i64 0]) := (by repeat (first | (with_reducible assumption) | ((with_reducible refine Blk.new ?_); · first | omega | (simp; done) | (simp; omega)) | (with_reducible apply Blk.set4) | (with_reducible apply Blk.set3) | (with_reducible apply Blk.set2) | ((with_reducible refine Blk.put ?_ ?_); · first | omega | (simp; omega)) | (with_reducible refine Blk.old ?_) | (with_reducible refine Blk.drew ?_) | (with_reducible refine Blk.drewN ?_) | ((with_reducible refine Blk.below hb ?_ ?_); · first | omega | (simp; done) | (simp; omega))))
          have lE1 := E1.lt
          have E2 : Blk w4 (w.heap.size + 2) 142 (pcs b) := (by repeat (first | (with_reducible assumption) | ((with_reducible refine Blk.new ?_); · first | omega | (simp; done) | (simp; omega)) | (with_reducible apply Blk.set4) | (with_reducible apply Blk.set3) | (with_reducible apply Blk.set2) | ((with_reducible refine Blk.put ?_ ?_); · first | omega | (simp; omega)) | (with_reducible refine Blk.old ?_) | (with_reducible refine Blk.drew ?_) | (with_reducible refine Blk.drewN ?_) | ((with_reducible refine Blk.below hb ?_ ?_); · first | omega | (simp; done) | (simp; omega))))
          have lE2 := E2.lt
          have E3 : Blk w4 (w2.heap.size) 142 (pcs (x, y)) := (by repeat (first | (with_reducible assumption) | ((with_reducible refine Blk.new ?_); · first | omega | (simp; done) | (simp; omega)) | (with_reducible apply Blk.set4) | (with_reducible apply Blk.set3) | (with_reducible apply Blk.set2) | ((with_reducible refine Blk.put ?_ ?_); · first | omega | (simp; omega)) | (with_reducible refine Blk.old ?_) | (with_reducible refine Blk.drew ?_) | (with_reducible refine Blk.drewN ?_) | ((with_reducible refine Blk.below hb ?_ ?_); · first | omega | (simp; done) | (simp; omega))))
          have lE3 := E3.lt
          have kw4 : Below w.heap.size w w4 := (by repeat (first | (with_reducible exact Below.refl _ _) | (with_reducible assumption) | (with_reducible refine Below.drew ?_) | (with_reducible refine Below.drewN ?_) | ((with_reducible refine Below.al ?_ ?_); · first | omega | (simp; done) | (simp; omega)) | ((with_reducible refine Below.sc ?_ ?_); · first | omega | (simp; done) | (simp; omega)) | ((with_reducible refine Below.thru hb ?_ ?_); · first | omega | (simp; done) | (simp; omega))))
          have sw4 := kw4.size
          clear hb
          obtain ⟨e30, e31⟩ := E3.p2n
          obtain ⟨e20, e21⟩ := E2.p2n
          have f0 := E2.free 0
          have f1 := E2.free 1
          clear D0 D1 D2 D3 d20 d21 d30 d31
          go_wp2
          go_roundw
          case rel => exact ⟨j + 1, by omega, by omega, by go_num, E0, E1, by rw [Nat.add_sub_cancel, HN.out]; exact E2, (by repeat (first | (with_reducible exact Below.refl _ _) | (with_reducible assumption) | (with_reducible refine Below.drew ?_) | (with_reducible refine Below.drewN ?_) | ((with_reducible refine Below.al ?_ ?_); · first | omega | (simp; done) | (simp; omega)) | ((with_reducible refine Below.sc ?_ ?_); · first | omega | (simp; done) | (simp; omega)) | ((with_reducible refine Below.thru hb ?_ ?_); · first | omega | (simp; done) | (simp; omega))))⟩
          case measure => simp [intOf]; omega
      · have hu1 : 1 < Int.gcd (j : Int) (n : Int) := hgu.2 hu
        have hle : Int.gcd (j : Int) (n : Int) ≤ 60 := by
          show Nat.gcd j n ≤ 60
          have := Nat.gcd_le_left n (show 0 < j by omega); omega
        have HE := Lib.hid (show nrm n c d j = b by rw [HN.out]; unfold nst; rw [if_neg (fun h => hu h.1)])
        have HD := Lib.hid (fun w' : World => divisor_any (j : Int) (n : Int) w' (by omega) (by omega) (by omega) (by omega))
        generalize Int.gcd (j : Int) (n : Int) = g at *
        clear hgu hu HN
        go_wp2_with fail
        refine (HD.out _).mono ?_
        rintro e w2 ⟨rfl, hb⟩
        have C0 : Blk w2 w.heap.size 142 (pcs (c, d)) := (by repeat (first | (with_reducible assumption) | ((with_reducible refine Blk.new ?_); · first | omega | (simp; done) | (simp; omega)) | (with_reducible apply Blk.set4) | (with_reducible apply Blk.set3) | (with_reducible apply Blk.set2) | ((with_reducible refine Blk.put ?_ ?_); · first | omega | (simp; omega)) | (with_reducible refine Blk.old ?_) | (with_reducible refine Blk.drew ?_) | (with_reducible refine Blk.drewN ?_) | ((with_reducible refine Blk.below hb ?_ ?_); · first | omega | (simp; done) | (simp; omega))))
        have C1 : Blk w2 (w.heap.size + 1) 142 (#[.int .i64 0, .int .i64 0]) := (by repeat (first | (with_reducible assumption) | ((with_reducible refine Blk.new ?_); · first | omega | (simp; done) | (simp; omega)) | (with_reducible apply Blk.set4) | (with_reducible apply Blk.set3) | (with_reducible apply Blk.set2) | ((with_reducible refine Blk.put ?_ ?_); · first | omega | (simp; omega)) | (with_reducible refine Blk.old ?_) | (with_reducible refine Blk.drew ?_) | (with_reducible refine Blk.drewN ?_) | ((with_reducible refine Blk.below hb ?_ ?_); · first | omega | (simp; done) | (simp; omega))))
        have C2 : Blk w2 (w.heap.size + 2) 142 (pcs b) := (by repeat (first | (with_reducible assumption) | ((with_reducible refine Blk.new ?_); · first | omega | (simp; done) | (simp; omega)) | (with_reducible apply Blk.set4) | (with_reducible apply Blk.set3) | (with_reducible apply Blk.set2) | ((with_reducible refine Blk.put ?_ ?_); · first | omega | (simp; omega)) | (with_reducible refine Blk.old ?_) | (with_reducible refine Blk.drew ?_) | (with_reducible refine Blk.drewN ?_) | ((with_reducible refine Blk.below hb ?_ ?_); · first | omega | (simp; done) | (simp; omega))))
        have kw2 : Below w.heap.size w w2 := (by repeat (first | (with_reducible exact Below.refl _ _) | (with_reducible assumption) | (with_reducible refine Below.drew ?_) | (with_reducible refine Below.drewN ?_) | ((with_reducible refine Below.al ?_ ?_); · first | omega | (simp; done) | (simp; omega)) | ((with_reducible refine Below.sc ?_ ?_); · first | omega | (simp; done) | (simp; omega)) | ((with_reducible refine Below.thru hb ?_ ?_); · first | omega | (simp; done) | (simp; omega))))
        clear hb B0 B1 B2 kwr HD
        go_wp2
        go_roundw
        case rel => exact ⟨j + 1, by omega, by omega, by go_num, C0, C1, by rw [Nat.add_sub_cancel, HE.out]; exact C2, kw2⟩
        case measure => simp [intOf]; omega
    · obtain ⟨b20, b21⟩ := B2.p2n
      obtain ⟨b10, b11⟩ := B1.p2
      have f1 := B1.free 0
      have f2 := B1.free 1
      have HE := Lib.hid (show nrmN n c d = b from hnr.out (by omega))
      go_wp2
      refine ret_at (v := .agg #[.int .i64 (b.1 : Int), .int .i64 (b.2 : Int)]) (fun w' => Blk w' (w.heap.size + 1) 142 (#[.int .i64 (b.1 : Int), .int .i64 (b.2 : Int)])) (by repeat (first | (with_reducible assumption) | ((with_reducible refine Blk.new ?_); · first | omega | (simp; done) | (simp; omega)) | (with_reducible apply Blk.set4) | (with_reducible apply Blk.set3) | (with_reducible apply Blk.set2) | ((with_reducible refine Blk.put ?_ ?_); · first | omega | (simp; omega)) | (with_reducible refine Blk.old ?_) | (with_reducible refine Blk.drew ?_) | (with_reducible refine Blk.drewN ?_) | ((with_reducible refine Blk.below hb ?_ ?_); · first | omega | (simp; done) | (simp; omega)))) (fun w' hB => by have q := hB.p2; simp [results, Try.results130, go_sem, q]) rfl ?_
      exact ⟨by rw [HE.out], (by repeat (first | (with_reducible exact Below.refl _ _) | (with_reducible assumption) | (with_reducible refine Below.drew ?_) | (with_reducible refine Below.drewN ?_) | ((with_reducible refine Below.al ?_ ?_); · first | omega | (simp; done) | (simp; omega)) | ((with_reducible refine Below.sc ?_ ?_); · first | omega | (simp; done) | (simp; omega)) | ((with_reducible refine Below.thru hb ?_ ?_); · first | omega | (simp; done) | (simp; omega))))⟩

end Go.Proofs.Ytamkbgodenkboaa
