/- Fractions and coset matrices: the program's walks. -/
import Derived.Test.YtjjbaebddkejnaaChk
import Derived.Test.YtjjbaebddkejnaaOrb
import Derived.Test.YtjjbaebddkejnaaRls
namespace Go.Proofs.Ytjjbaebddkejnaa
open Go.RowKit
set_option linter.unusedSimpArgs false

theorem nf_unit {p : Int} (h : Int.gcd p 0 = 1) : p = 1 ∨ p = -1 := by
  rw [Int.gcd_zero_right] at h
  omega
set_option maxRecDepth 8000 in
set_option maxHeartbeats 2000000 in
theorem fraction_any (p : Int) (q : Nat) (hg : Int.gcd p (q : Int) = 1) (hp : -1000000 ≤ p ∧ p ≤ 1000000) (hq : q ≤ 1000000) (w : World) :
    Calls Try.prog 38 #[.int .i64 p, .int .i64 (q : Int)] w fun e w' => e = .returned (.tuple #[.agg #[.int .i64 (nfQ p q), .int .i64 (q : Int)], .int .i64 0]) ∧ Below w.heap.size w w' := by
  have HD := Lib.hid (fun W : World => divisor_any p (q : Int) W (by omega) (by omega) (by omega) (by omega))
  rw [hg] at HD
  go_enter Try.func38, Try.ntmps38
  go_wp2_with fail
  refine (HD.out _).mono ?_
  rintro e w1 ⟨rfl, hb⟩
  have k1 : Below w.heap.size w w1 := (by repeat (first | (with_reducible exact Below.refl _ _) | (with_reducible assumption) | (with_reducible refine Below.drew ?_) | (with_reducible refine Below.drewN ?_) | ((with_reducible refine Below.al ?_ ?_); · first | omega | (simp; done) | (simp; omega)) | ((with_reducible refine Below.sc ?_ ?_); · first | omega | (simp; done) | (simp; omega)) | ((with_reducible refine Below.thru hb ?_ ?_); · first | omega | (simp; done) | (simp; omega))))
  have B1 : Blk w1 w.heap.size 59 #[.int .i64 0, .int .i64 0] := (by repeat (first | (with_reducible assumption) | ((with_reducible refine Blk.new ?_); · first | omega | (simp; done) | (simp; omega)) | (with_reducible apply Blk.set4) | (with_reducible apply Blk.set3) | (with_reducible apply Blk.set2) | ((with_reducible refine Blk.put ?_ ?_); · first | omega | (simp; omega)) | (with_reducible refine Blk.old ?_) | (with_reducible refine Blk.drew ?_) | (with_reducible refine Blk.drewN ?_) | ((with_reducible refine Blk.below hb ?_ ?_); · first | omega | (simp; done) | (simp; omega))))
  have lB1 := B1.lt
  have s1 := k1.size
  clear hb HD
  by_cases h0 : q = 0
  · subst h0
    have HF := Lib.hid (show nfQ p 0 = 1 from rfl)
    rcases nf_unit hg with rfl | rfl
    · clear hg hp hq
      have HE := Lib.hid (fun W hx => areEntries_any ⟨w1.heap.size, 0, none⟩ 2 [1, 0] W (by simp) hx)
      go_wp2_with fail
      go_region_held3 (fun _ => True) (trivial) (fail)
      refine forget (fun W_ => Below w.heap.size w W_ ∧ Blk W_ (w.heap.size) 59 (#[.int .i64 0, .int .i64 0]) ∧ Blk W_ (w1.heap.size) 59 (#[.int .i64 (IntKind.i64.wrap (1)), .int .i64 (IntKind.i64.wrap (0))])) ⟨(by repeat (first | (with_reducible exact Below.refl _ _) | (with_reducible assumption) | (with_reducible refine Below.drew ?_) | (with_reducible refine Below.drewN ?_) | ((with_reducible refine Below.al ?_ ?_); · first | omega | (simp; done) | (simp; omega)) | ((with_reducible refine Below.sc ?_ ?_); · first | omega | (simp; done) | (simp; omega)) | ((with_reducible refine Below.thru hb ?_ ?_); · first | omega | (simp; done) | (simp; omega)))), (by repeat (first | (with_reducible assumption) | ((with_reducible refine Blk.new ?_); · first | omega | (simp; done) | (simp; omega)) | (with_reducible apply Blk.set4) | (with_reducible apply Blk.set3) | (with_reducible apply Blk.set2) | ((with_reducible refine Blk.put ?_ ?_); · first | omega | (simp; omega)) | (with_reducible refine Blk.old ?_) | (with_reducible refine Blk.drew ?_) | (with_reducible refine Blk.drewN ?_) | ((with_reducible refine Blk.below hb ?_ ?_); · first | omega | (simp; done) | (simp; omega)))), (by repeat (first | (with_reducible assumption) | ((with_reducible refine Blk.new ?_); · first | omega | (simp; done) | (simp; omega)) | (with_reducible apply Blk.set4) | (with_reducible apply Blk.set3) | (with_reducible apply Blk.set2) | ((with_reducible refine Blk.put ?_ ?_); · first | omega | (simp; omega)) | (with_reducible refine Blk.old ?_) | (with_reducible refine Blk.drew ?_) | (with_reducible refine Blk.drewN ?_) | ((with_reducible refine Blk.below hb ?_ ?_); · first | omega | (simp; done) | (simp; omega))))⟩ ?_
      rintro w3 ⟨kw3, B3, C3⟩
      have sw3 := kw3.size
      have lB3 := B3.lt
      have lC3 := C3.lt
      rw [show IntKind.i64.wrap (1) = 1 by rw [IntKind.wrap_i64]; omega, show IntKind.i64.wrap (0) = 0 by rw [IntKind.wrap_i64]; omega] at C3
      go_wp2_with fail
      refine (HE.out _ (fun j hj => by match j, hj with | 0, _ => exact C3.at rfl | 1, _ => exact C3.at rfl)).mono ?_
      rintro e w4 ⟨rfl, rfl⟩
      have hea : ([1, 0] : List Int).all entB = true := by decide
      rw [hea]
      clear hea
      have c3 := C3.p2
      have b3 := B3.p2
      have f30 := B3.free 0
      have f31 := B3.free 1
      go_wp2
      refine ret_at (v := .tuple #[.agg #[.int .i64 (1), .int .i64 (0)], .int .i64 0]) (fun w' => Blk w' (w.heap.size) 59 (#[.int .i64 (1), .int .i64 (0)])) (by repeat (first | (with_reducible assumption) | ((with_reducible refine Blk.new ?_); · first | omega | (simp; done) | (simp; omega)) | (with_reducible apply Blk.set4) | (with_reducible apply Blk.set3) | (with_reducible apply Blk.set2) | ((with_reducible refine Blk.put ?_ ?_); · first | omega | (simp; omega)) | (with_reducible refine Blk.old ?_) | (with_reducible refine Blk.drew ?_) | (with_reducible refine Blk.drewN ?_) | ((with_reducible refine Blk.below hb ?_ ?_); · first | omega | (simp; done) | (simp; omega)))) (fun w' hB => by have q := hB.p2; simp [results, Try.results38, go_sem, q]) rfl ?_
      exact ⟨by rw [HF.out]; rfl, (by repeat (first | (with_reducible exact Below.refl _ _) | (with_reducible assumption) | (with_reducible refine Below.drew ?_) | (with_reducible refine Below.drewN ?_) | ((with_reducible refine Below.al ?_ ?_); · first | omega | (simp; done) | (simp; omega)) | ((with_reducible refine Below.sc ?_ ?_); · first | omega | (simp; done) | (simp; omega)) | ((with_reducible refine Below.thru hb ?_ ?_); · first | omega | (simp; done) | (simp; omega))))⟩
    · clear hg hp hq
      have HE := Lib.hid (fun W hx => areEntries_any ⟨w1.heap.size, 0, none⟩ 2 [1, 0] W (by simp) hx)
      go_wp2_with fail
      go_region_held3 (fun _ => True) (trivial) (fail)
      refine forget (fun W_ => Below w.heap.size w W_ ∧ Blk W_ (w.heap.size) 59 (#[.int .i64 0, .int .i64 0]) ∧ Blk W_ (w1.heap.size) 59 (#[.int .i64 (IntKind.i64.wrap (1)), .int .i64 (IntKind.i64.wrap (0))])) ⟨(by repeat (first | (with_reducible exact Below.refl _ _) | (with_reducible assumption) | (with_reducible refine Below.drew ?_) | (with_reducible refine Below.drewN ?_) | ((with_reducible refine Below.al ?_ ?_); · first | omega | (simp; done) | (simp; omega)) | ((with_reducible refine Below.sc ?_ ?_); · first | omega | (simp; done) | (simp; omega)) | ((with_reducible refine Below.thru hb ?_ ?_); · first | omega | (simp; done) | (simp; omega)))), (by repeat (first | (with_reducible assumption) | ((with_reducible refine Blk.new ?_); · first | omega | (simp; done) | (simp; omega)) | (with_reducible apply Blk.set4) | (with_reducible apply Blk.set3) | (with_reducible apply Blk.set2) | ((with_reducible refine Blk.put ?_ ?_); · first | omega | (simp; omega)) | (with_reducible refine Blk.old ?_) | (with_reducible refine Blk.drew ?_) | (with_reducible refine Blk.drewN ?_) | ((with_reducible refine Blk.below hb ?_ ?_); · first | omega | (simp; done) | (simp; omega)))), (by repeat (first | (with_reducible assumption) | ((with_reducible refine Blk.new ?_); · first | omega | (simp; done) | (simp; omega)) | (with_reducible apply Blk.set4) | (with_reducible apply Blk.set3) | (with_reducible apply Blk.set2) | ((with_reducible refine Blk.put ?_ ?_); · first | omega | (simp; omega)) | (with_reducible refine Blk.old ?_) | (with_reducible refine Blk.drew ?_) | (with_reducible refine Blk.drewN ?_) | ((with_reducible refine Blk.below hb ?_ ?_); · first | omega | (simp; done) | (simp; omega))))⟩ ?_
      rintro w3 ⟨kw3, B3, C3⟩
      have sw3 := kw3.size
      have lB3 := B3.lt
      have lC3 := C3.lt
      rw [show IntKind.i64.wrap (1) = 1 by rw [IntKind.wrap_i64]; omega, show IntKind.i64.wrap (0) = 0 by rw [IntKind.wrap_i64]; omega] at C3
      go_wp2_with fail
      refine (HE.out _ (fun j hj => by match j, hj with | 0, _ => exact C3.at rfl | 1, _ => exact C3.at rfl)).mono ?_
      rintro e w4 ⟨rfl, rfl⟩
      have hea : ([1, 0] : List Int).all entB = true := by decide
      rw [hea]
      clear hea
      have c3 := C3.p2
      have b3 := B3.p2
      have f30 := B3.free 0
      have f31 := B3.free 1
      go_wp2
      refine ret_at (v := .tuple #[.agg #[.int .i64 (1), .int .i64 (0)], .int .i64 0]) (fun w' => Blk w' (w.heap.size) 59 (#[.int .i64 (1), .int .i64 (0)])) (by repeat (first | (with_reducible assumption) | ((with_reducible refine Blk.new ?_); · first | omega | (simp; done) | (simp; omega)) | (with_reducible apply Blk.set4) | (with_reducible apply Blk.set3) | (with_reducible apply Blk.set2) | ((with_reducible refine Blk.put ?_ ?_); · first | omega | (simp; omega)) | (with_reducible refine Blk.old ?_) | (with_reducible refine Blk.drew ?_) | (with_reducible refine Blk.drewN ?_) | ((with_reducible refine Blk.below hb ?_ ?_); · first | omega | (simp; done) | (simp; omega)))) (fun w' hB => by have q := hB.p2; simp [results, Try.results38, go_sem, q]) rfl ?_
      exact ⟨by rw [HF.out]; rfl, (by repeat (first | (with_reducible exact Below.refl _ _) | (with_reducible assumption) | (with_reducible refine Below.drew ?_) | (with_reducible refine Below.drewN ?_) | ((with_reducible refine Below.al ?_ ?_); · first | omega | (simp; done) | (simp; omega)) | ((with_reducible refine Below.sc ?_ ?_); · first | omega | (simp; done) | (simp; omega)) | ((with_reducible refine Below.thru hb ?_ ?_); · first | omega | (simp; done) | (simp; omega))))⟩
  · have HF := Lib.hid (show nfQ p q = p by unfold nfQ; rw [beq_dec, decide_eq_false h0]; rfl)
    have hq1 : 1 ≤ q := by omega
    clear hg
    have HE := Lib.hid (fun W hx => areEntries_any ⟨w1.heap.size, 0, none⟩ 2 [p, (q : Int)] W (by simp) hx)
    go_wp2_with fail
    go_region_held3 (fun _ => True) (trivial) (fail)
    refine forget (fun W_ => Below w.heap.size w W_ ∧ Blk W_ (w.heap.size) 59 (#[.int .i64 0, .int .i64 0]) ∧ Blk W_ (w1.heap.size) 59 (#[.int .i64 (IntKind.i64.wrap (p)), .int .i64 (IntKind.i64.wrap ((q : Int)))])) ⟨(by repeat (first | (with_reducible exact Below.refl _ _) | (with_reducible assumption) | (with_reducible refine Below.drew ?_) | (with_reducible refine Below.drewN ?_) | ((with_reducible refine Below.al ?_ ?_); · first | omega | (simp; done) | (simp; omega)) | ((with_reducible refine Below.sc ?_ ?_); · first | omega | (simp; done) | (simp; omega)) | ((with_reducible refine Below.thru hb ?_ ?_); · first | omega | (simp; done) | (simp; omega)))), (by repeat (first | (with_reducible assumption) | ((with_reducible refine Blk.new ?_); · first | omega | (simp; done) | (simp; omega)) | (with_reducible apply Blk.set4) | (with_reducible apply Blk.set3) | (with_reducible apply Blk.set2) | ((with_reducible refine Blk.put ?_ ?_); · first | omega | (simp; omega)) | (with_reducible refine Blk.old ?_) | (with_reducible refine Blk.drew ?_) | (with_reducible refine Blk.drewN ?_) | ((with_reducible refine Blk.below hb ?_ ?_); · first | omega | (simp; done) | (simp; omega)))), (by repeat (first | (with_reducible assumption) | ((with_reducible refine Blk.new ?_); · first | omega | (simp; done) | (simp; omega)) | (with_reducible apply Blk.set4) | (with_reducible apply Blk.set3) | (with_reducible apply Blk.set2) | ((with_reducible refine Blk.put ?_ ?_); · first | omega | (simp; omega)) | (with_reducible refine Blk.old ?_) | (with_reducible refine Blk.drew ?_) | (with_reducible refine Blk.drewN ?_) | ((with_reducible refine Blk.below hb ?_ ?_); · first | omega | (simp; done) | (simp; omega))))⟩ ?_
    rintro w3 ⟨kw3, B3, C3⟩
    have sw3 := kw3.size
    have lB3 := B3.lt
    have lC3 := C3.lt
    rw [show IntKind.i64.wrap (p) = p by rw [IntKind.wrap_i64]; omega, show IntKind.i64.wrap ((q : Int)) = (q : Int) by rw [IntKind.wrap_i64]; omega] at C3
    go_wp2_with fail
    refine (HE.out _ (fun j hj => by match j, hj with | 0, _ => exact C3.at rfl | 1, _ => exact C3.at rfl)).mono ?_
    rintro e w4 ⟨rfl, rfl⟩
    have hea : ([p, (q : Int)] : List Int).all entB = true := by simp only [List.all_cons, List.all_nil, entB_mk (show -1000000000 ≤ p ∧ p ≤ 1000000000 by omega), entB_mk (show -1000000000 ≤ (q : Int) ∧ (q : Int) ≤ 1000000000 by omega), Bool.and_self]
    rw [hea]
    clear hea
    have c3 := C3.p2
    have b3 := B3.p2
    have f30 := B3.free 0
    have f31 := B3.free 1
    go_wp2
    refine ret_at (v := .tuple #[.agg #[.int .i64 (p), .int .i64 ((q : Int))], .int .i64 0]) (fun w' => Blk w' (w.heap.size) 59 (#[.int .i64 (p), .int .i64 ((q : Int))])) (by repeat (first | (with_reducible assumption) | ((with_reducible refine Blk.new ?_); · first | omega | (simp; done) | (simp; omega)) | (with_reducible apply Blk.set4) | (with_reducible apply Blk.set3) | (with_reducible apply Blk.set2) | ((with_reducible refine Blk.put ?_ ?_); · first | omega | (simp; omega)) | (with_reducible refine Blk.old ?_) | (with_reducible refine Blk.drew ?_) | (with_reducible refine Blk.drewN ?_) | ((with_reducible refine Blk.below hb ?_ ?_); · first | omega | (simp; done) | (simp; omega)))) (fun w' hB => by have q := hB.p2; simp [results, Try.results38, go_sem, q]) rfl ?_
    exact ⟨by rw [HF.out], (by repeat (first | (with_reducible exact Below.refl _ _) | (with_reducible assumption) | (with_reducible refine Below.drew ?_) | (with_reducible refine Below.drewN ?_) | ((with_reducible refine Below.al ?_ ?_); · first | omega | (simp; done) | (simp; omega)) | ((with_reducible refine Below.sc ?_ ?_); · first | omega | (simp; done) | (simp; omega)) | ((with_reducible refine Below.thru hb ?_ ?_); · first | omega | (simp; done) | (simp; omega))))⟩

end Go.Proofs.Ytjjbaebddkejnaa

/- Coset matrices: the program's walk. -/
namespace Go.Proofs.Ytjjbaebddkejnaa
open Go.RowKit
set_option linter.unusedSimpArgs false

theorem abs_bd {b z A : Int} (h : b.natAbs ≤ z.natAbs) (h2 : -A ≤ z ∧ z ≤ A) : -A ≤ b ∧ b ≤ A := by omega
theorem wrap_id {z : Int} (h1 : -1000000 ≤ z) (h2 : z ≤ 1000000) : wrap64 z = z := by unfold wrap64; omega
theorem wrap_id2 {z : Int} (h : 0 ≤ z ∧ z ≤ 301000) : wrap64 (z - 1) = z - 1 := wrap_id (by omega) (by omega)
theorem tdiv_bd2 {z c b : Int} (h : 0 ≤ z ∧ z ≤ 301000) (e : Int.tdiv (z - 1) c = b) : -301000 ≤ b ∧ b ≤ 301000 := by
  have h1 := Int.natAbs_tdiv_le_natAbs (z - 1) c
  rw [e] at h1
  clear e
  exact abs_bd h1 (by omega)
theorem kdQ_le {n c r d d2 : Nat} (h : kdQ n c r d = some d2) : d ≤ d2 ∧ d2 ≤ d + r * n := by
  induction r generalizing d with
  | zero => cases h
  | succ r ih =>
    rw [kdQ] at h
    cases hb : Nat.blt 1 (Nat.gcd c d) with
    | true =>
      rw [hb] at h
      have := ih h
      rw [Nat.succ_mul]
      omega
    | false =>
      rw [hb] at h
      simp only [cond_false, Option.some.injEq] at h
      omega
theorem aQ_le {c d r a a2 : Nat} (h : aQ c d r a = some a2) : a ≤ a2 ∧ a2 ≤ a + r := by
  induction r generalizing a with
  | zero => cases h
  | succ r ih =>
    rw [aQ] at h
    cases hb : Nat.beq (Nat.mod (Nat.mul a d) c) (Nat.mod 1 c) with
    | true =>
      rw [hb] at h
      simp only [cond_true, Option.some.injEq] at h
      omega
    | false =>
      rw [hb] at h
      have := ih h
      omega
theorem aQ_test {a d c : Nat} : Nat.beq (Nat.mod (Nat.mul a d) c) (Nat.mod 1 c) = decide (Int.tmod ((a : Int) * (d : Int) - 1) (c : Int) = 0) := by
  rw [beq_dec, decide_eq_decide]
  show a * d % c = 1 % c ↔ _
  have h1 : Int.tmod ((a : Int) * (d : Int) - 1) (c : Int) = 0 ↔ (c : Int) ∣ ((a : Int) * (d : Int) - 1) := ⟨Int.dvd_of_tmod_eq_zero, Int.tmod_eq_zero_of_dvd⟩
  rw [h1, Int.dvd_iff_emod_eq_zero, ← Int.emod_eq_emod_iff_emod_sub_eq_zero]
  have e1 : ((a : Int) * (d : Int)) % (c : Int) = ((a * d % c : Nat) : Int) := by
    rw [Int.natCast_emod, Int.natCast_mul]
  have e2 : (1 : Int) % (c : Int) = ((1 % c : Nat) : Int) := by
    rw [Int.natCast_emod]; rfl
  rw [e1, e2]
  omega
set_option maxRecDepth 8000 in
set_option maxHeartbeats 2000000 in
theorem cosetMatrix_any (n c d : Nat) (q : Nat × Nat) (h : cosQ n c d = some q) (hn : 1 ≤ n ∧ n ≤ 60) (hc : c < n) (hd : d < n) (w : World) :
    Calls Try.prog 37 #[.int .i64 (n : Int), .agg #[.int .i64 (c : Int), .int .i64 (d : Int)]] w fun e w' => e = .returned (mv ⟨(q.1 : Int), bQ c q, (c : Int), (q.2 : Int)⟩) ∧ Below w.heap.size w w' := by
  by_cases h0 : c = 0
  · subst h0
    have e : q = (1, 1) := by
      unfold cosQ at h
      simpa [beq_dec] using h.symm
    subst e
    have HB := Lib.hid (show bQ 0 (1, 1) = 0 by unfold bQ; simp [beq_dec])
    clear h
    go_enter Try.func37, Try.ntmps37
    go_wp2_with fail
    go_region_held3 (fun w' => w'.cell? ⟨w.heap.size, 0, none⟩ = some (.int .i64 0) ∧ w'.cell? ⟨w.heap.size, 1, none⟩ = some (.int .i64 (d : Int))) (go_keep) (fail)
    refine forget (fun W_ => Below w.heap.size w W_ ∧ Blk W_ (w.heap.size + 1) 57 (#[.int .i64 0, .int .i64 0, .int .i64 0, .int .i64 0])) ⟨(by repeat (first | (with_reducible exact Below.refl _ _) | (with_reducible assumption) | (with_reducible refine Below.drew ?_) | (with_reducible refine Below.drewN ?_) | ((with_reducible refine Below.al ?_ ?_); · first | omega | (simp; done) | (simp; omega)) | ((with_reducible refine Below.sc ?_ ?_); · first | omega | (simp; done) | (simp; omega)) | ((with_reducible refine Below.thru hb ?_ ?_); · first | omega | (simp; done) | (simp; omega)))), (by repeat (first | (with_reducible assumption) | ((with_reducible refine Blk.new ?_); · first | omega | (simp; done) | (simp; omega)) | (with_reducible apply Blk.set4) | (with_reducible apply Blk.set3) | (with_reducible apply Blk.set2) | ((with_reducible refine Blk.put ?_ ?_); · first | omega | (simp; omega)) | (with_reducible refine Blk.old ?_) | (with_reducible refine Blk.drew ?_) | (with_reducible refine Blk.drewN ?_) | ((with_reducible refine Blk.below hb ?_ ?_); · first | omega | (simp; done) | (simp; omega))))⟩ ?_
    rintro w1 ⟨kw1, B1⟩
    have sw1 := kw1.size
    have lB1 := B1.lt
    go_wp2_with fail
    refine (identity_any _).mono ?_
    rintro e w2 ⟨rfl, hb⟩
    have C1 : Blk w2 (w.heap.size + 1) 57 #[.int .i64 0, .int .i64 0, .int .i64 0, .int .i64 0] := (by repeat (first | (with_reducible assumption) | ((with_reducible refine Blk.new ?_); · first | omega | (simp; done) | (simp; omega)) | (with_reducible apply Blk.set4) | (with_reducible apply Blk.set3) | (with_reducible apply Blk.set2) | ((with_reducible refine Blk.put ?_ ?_); · first | omega | (simp; omega)) | (with_reducible refine Blk.old ?_) | (with_reducible refine Blk.drew ?_) | (with_reducible refine Blk.drewN ?_) | ((with_reducible refine Blk.below hb ?_ ?_); · first | omega | (simp; done) | (simp; omega))))
    have kw2 : Below w.heap.size w w2 := (by repeat (first | (with_reducible exact Below.refl _ _) | (with_reducible assumption) | (with_reducible refine Below.drew ?_) | (with_reducible refine Below.drewN ?_) | ((with_reducible refine Below.al ?_ ?_); · first | omega | (simp; done) | (simp; omega)) | ((with_reducible refine Below.sc ?_ ?_); · first | omega | (simp; done) | (simp; omega)) | ((with_reducible refine Below.thru hb ?_ ?_); · first | omega | (simp; done) | (simp; omega))))
    have f0 := C1.free 0
    have f1 := C1.free 1
    have f2 := C1.free 2
    have f3 := C1.free 3
    have m0 := C1.at (i := 0) rfl
    have m1 := C1.at (i := 1) rfl
    have m2 := C1.at (i := 2) rfl
    have m3 := C1.at (i := 3) rfl
    clear hb B1 kw1
    go_wp2
    refine ret_at (v := mv ⟨1, 0, 0, 1⟩) (fun w' => Blk w' (w.heap.size + 1) 57 (mcs ⟨1, 0, 0, 1⟩)) (by repeat (first | (with_reducible assumption) | ((with_reducible refine Blk.new ?_); · first | omega | (simp; done) | (simp; omega)) | (with_reducible apply Blk.set4) | (with_reducible apply Blk.set3) | (with_reducible apply Blk.set2) | ((with_reducible refine Blk.put ?_ ?_); · first | omega | (simp; omega)) | (with_reducible refine Blk.old ?_) | (with_reducible refine Blk.drew ?_) | (with_reducible refine Blk.drewN ?_) | ((with_reducible refine Blk.below hb ?_ ?_); · first | omega | (simp; done) | (simp; omega)))) (fun w' hB => by have q := hB.m; simp [results, Try.results37, go_sem, q]) rfl ?_
    exact ⟨by rw [HB.out]; rfl, (by repeat (first | (with_reducible exact Below.refl _ _) | (with_reducible assumption) | (with_reducible refine Below.drew ?_) | (with_reducible refine Below.drewN ?_) | ((with_reducible refine Below.al ?_ ?_); · first | omega | (simp; done) | (simp; omega)) | ((with_reducible refine Below.sc ?_ ?_); · first | omega | (simp; done) | (simp; omega)) | ((with_reducible refine Below.thru hb ?_ ?_); · first | omega | (simp; done) | (simp; omega))))⟩
  · have hc0 : 0 < c := by omega
    obtain ⟨a, d2⟩ := q
    have hcs : ∃ _ : (kdQ n c 70 d = some d2), aQ c d2 70 0 = some a := by
      unfold cosQ at h
      rw [beq_dec, decide_eq_false h0, cond_false] at h
      obtain ⟨x, h1, h2⟩ := Option.bind_eq_some_iff.1 h
      obtain ⟨y, h3, h4⟩ := Option.bind_eq_some_iff.1 h2
      simp only [Option.some.injEq, Prod.mk.injEq] at h4
      obtain ⟨rfl, rfl⟩ := h4
      exact ⟨h1, h3⟩
    obtain ⟨hk, ha⟩ := hcs
    have bk := kdQ_le hk
    have ba := aQ_le ha
    have HK := Lib.hid hk
    have HA := Lib.hid ha
    have HB := Lib.hid (show bQ c (a, d2) = Int.tdiv ((a : Int) * (d2 : Int) - 1) (c : Int) by unfold bQ; rw [beq_dec, decide_eq_false h0]; rfl)
    have h70 : 70 * n ≤ 70 * 60 := Nat.mul_le_mul_left _ hn.2
    have hd2 : d2 ≤ 4300 := by omega
    have hcb : ((c : Int) == 0) = false := by simp; omega
    clear h hk ha h70
    go_enter Try.func37, Try.ntmps37
    go_wp2_with fail
    go_region_held3 (fun w' => w'.cell? ⟨w.heap.size, 0, none⟩ = some (.int .i64 (c : Int)) ∧ w'.cell? ⟨w.heap.size, 1, none⟩ = some (.int .i64 (d : Int))) (go_keep) (fail)
    go_wp2_with fail
    refine forget (fun W_ => Below w.heap.size w W_ ∧ Blk W_ (w.heap.size + 1) 57 (#[.int .i64 0, .int .i64 0, .int .i64 0, .int .i64 0])) ⟨(by repeat (first | (with_reducible exact Below.refl _ _) | (with_reducible assumption) | (with_reducible refine Below.drew ?_) | (with_reducible refine Below.drewN ?_) | ((with_reducible refine Below.al ?_ ?_); · first | omega | (simp; done) | (simp; omega)) | ((with_reducible refine Below.sc ?_ ?_); · first | omega | (simp; done) | (simp; omega)) | ((with_reducible refine Below.thru hb ?_ ?_); · first | omega | (simp; done) | (simp; omega)))), (by repeat (first | (with_reducible assumption) | ((with_reducible refine Blk.new ?_); · first | omega | (simp; done) | (simp; omega)) | (with_reducible apply Blk.set4) | (with_reducible apply Blk.set3) | (with_reducible apply Blk.set2) | ((with_reducible refine Blk.put ?_ ?_); · first | omega | (simp; omega)) | (with_reducible refine Blk.old ?_) | (with_reducible refine Blk.drew ?_) | (with_reducible refine Blk.drewN ?_) | ((with_reducible refine Blk.below hb ?_ ?_); · first | omega | (simp; done) | (simp; omega))))⟩ ?_
    rintro w1 ⟨kw1, B1⟩
    have sw1 := kw1.size
    have lB1 := B1.lt
    go_loopw [6] (fun v wr => ∃ k r : Nat, v = .int .i64 (k : Int) ∧ Hid (kdQ n c r k = some d2) ∧ Blk wr (w.heap.size + 1) 57 #[.int .i64 0, .int .i64 0, .int .i64 0, .int .i64 0] ∧ Below w.heap.size w wr) (fun v _ => d2 + 1 - (intOf v).toNat)
    case atStart => exact ⟨d, 70, rfl, HK, B1, kw1⟩
    case round =>
      clear B1 kw1 sw1 lB1 HK bk
      obtain ⟨k, r, rfl, HK, B1, kwr⟩ := hrel
      have bk := kdQ_le HK.out
      have swr := kwr.size
      have lB1 := B1.lt
      obtain ⟨r, rfl⟩ : ∃ r', r = r' + 1 := by
        cases r with
        | zero => have := HK.out; rw [kdQ] at this; cases this
        | succ r => exact ⟨r, rfl⟩
      have HN := Lib.hid HK.out
      have HD := Lib.hid (fun W : World => divisor_any (c : Int) (k : Int) W (by omega) (by omega) (by omega) (by omega))
      have hgc : Int.gcd (c : Int) (k : Int) = Nat.gcd c k := rfl
      rw [hgc] at HD
      have hgl : Nat.gcd c k ≤ c := Nat.gcd_le_left k hc0
      rw [kdQ, blt_dec] at HN
      by_cases hg : 1 < Nat.gcd c k
      · rw [decide_eq_true hg, cond_true] at HN
        have bk2 := kdQ_le HN.out
        clear HK hgc
        generalize Nat.gcd c k = g at *
        go_wp2_with fail
        refine (HD.out _).mono ?_
        rintro e w2 ⟨rfl, hb⟩
        have C1 : Blk w2 (w.heap.size + 1) 57 #[.int .i64 0, .int .i64 0, .int .i64 0, .int .i64 0] := (by repeat (first | (with_reducible assumption) | ((with_reducible refine Blk.new ?_); · first | omega | (simp; done) | (simp; omega)) | (with_reducible apply Blk.set4) | (with_reducible apply Blk.set3) | (with_reducible apply Blk.set2) | ((with_reducible refine Blk.put ?_ ?_); · first | omega | (simp; omega)) | (with_reducible refine Blk.old ?_) | (with_reducible refine Blk.drew ?_) | (with_reducible refine Blk.drewN ?_) | ((with_reducible refine Blk.below hb ?_ ?_); · first | omega | (simp; done) | (simp; omega))))
        have kw2 : Below w.heap.size w w2 := (by repeat (first | (with_reducible exact Below.refl _ _) | (with_reducible assumption) | (with_reducible refine Below.drew ?_) | (with_reducible refine Below.drewN ?_) | ((with_reducible refine Below.al ?_ ?_); · first | omega | (simp; done) | (simp; omega)) | ((with_reducible refine Below.sc ?_ ?_); · first | omega | (simp; done) | (simp; omega)) | ((with_reducible refine Below.thru hb ?_ ?_); · first | omega | (simp; done) | (simp; omega))))
        clear hb B1 kwr HD
        go_wp2
        go_roundw
        case rel => exact ⟨k + n, r, by go_num, HN, C1, kw2⟩
        case measure => simp [intOf]; omega
      · rw [decide_eq_false hg, cond_false] at HN
        obtain rfl : k = d2 := by have := HN.out; simpa using this
        clear HK hgc HN bk
        generalize Nat.gcd c k = g at *
        go_wp2_with fail
        refine (HD.out _).mono ?_
        rintro e w2 ⟨rfl, hb⟩
        have C1 : Blk w2 (w.heap.size + 1) 57 #[.int .i64 0, .int .i64 0, .int .i64 0, .int .i64 0] := (by repeat (first | (with_reducible assumption) | ((with_reducible refine Blk.new ?_); · first | omega | (simp; done) | (simp; omega)) | (with_reducible apply Blk.set4) | (with_reducible apply Blk.set3) | (with_reducible apply Blk.set2) | ((with_reducible refine Blk.put ?_ ?_); · first | omega | (simp; omega)) | (with_reducible refine Blk.old ?_) | (with_reducible refine Blk.drew ?_) | (with_reducible refine Blk.drewN ?_) | ((with_reducible refine Blk.below hb ?_ ?_); · first | omega | (simp; done) | (simp; omega))))
        have kw2 : Below w.heap.size w w2 := (by repeat (first | (with_reducible exact Below.refl _ _) | (with_reducible assumption) | (with_reducible refine Below.drew ?_) | (with_reducible refine Below.drewN ?_) | ((with_reducible refine Below.al ?_ ?_); · first | omega | (simp; done) | (simp; omega)) | ((with_reducible refine Below.sc ?_ ?_); · first | omega | (simp; done) | (simp; omega)) | ((with_reducible refine Below.thru hb ?_ ?_); · first | omega | (simp; done) | (simp; omega))))
        clear hb B1 kwr HD
        go_wp2_with fail
        go_loopw [7] (fun v wr => ∃ x r : Nat, v = .int .i64 (x : Int) ∧ Hid (aQ c k r x = some a) ∧ Blk wr (w.heap.size + 1) 57 #[.int .i64 0, .int .i64 0, .int .i64 0, .int .i64 0] ∧ Below w.heap.size w wr) (fun v _ => a + 1 - (intOf v).toNat)
        case atStart => exact ⟨0, 70, rfl, HA, C1, kw2⟩
        case round =>
          clear C1 kw2 HA
          obtain ⟨x, r, rfl, HA, C1, kwr⟩ := hrel
          have bx := aQ_le HA.out
          have swr := kwr.size
          have lC1 := C1.lt
          obtain ⟨r, rfl⟩ : ∃ r', r = r' + 1 := by
            cases r with
            | zero => have := HA.out; rw [aQ] at this; cases this
            | succ r => exact ⟨r, rfl⟩
          have HN := Lib.hid HA.out
          have hm : x * k ≤ 70 * 4300 := Nat.mul_le_mul (by omega) (by omega)
          rw [aQ, aQ_test] at HN
          have hz : (x : Int) * (k : Int) = ((x * k : Nat) : Int) := by rw [Int.natCast_mul]
          have HQ := Lib.hid (show bQ c (a, k) = Int.tdiv ((a : Int) * (k : Int) - 1) (c : Int) from HB.out)
          have hn0 : ¬ (c : Int) = 0 := by omega
          have hmb : 0 ≤ (x : Int) * (k : Int) ∧ (x : Int) * (k : Int) ≤ 301000 := by rw [hz]; omega
          have htm := tmod_bd ((x : Int) * (k : Int) - 1) (c : Int) (by omega)
          clear hd2 hgl hg
          by_cases ht : Int.tmod ((x : Int) * (k : Int) - 1) (c : Int) = 0
          · rw [decide_eq_true ht, cond_true] at HN
            obtain rfl : x = a := by have := HN.out; simpa using this
            clear hm hz htm HN HA bx ba
            obtain ⟨z, ez⟩ : ∃ z, (x : Int) * (k : Int) = z := ⟨_, rfl⟩
            rw [ez] at hmb ht HQ
            have hw : wrap64 ((x : Int) * (k : Int)) = z := by rw [ez]; unfold wrap64; omega
            clear ez
            obtain ⟨b, eb⟩ : ∃ b, Int.tdiv (z - 1) (c : Int) = b := ⟨_, rfl⟩
            rw [eb] at HQ
            have hdv := tdiv_bd2 hmb eb
            have hwy : wrap64 (z - 1) = z - 1 := by exact wrap_id (by omega) (by omega)
            have hwb : wrap64 b = b := wrap_id (by omega) (by omega)
            have kww := Lib.hid kwr
            clear hdv hmb swr kwr
            have f0 := C1.free 0
            have f1 := C1.free 1
            have f2 := C1.free 2
            have f3 := C1.free 3
            have m0 := C1.at (i := 0) rfl
            have m1 := C1.at (i := 1) rfl
            have m2 := C1.at (i := 2) rfl
            have m3 := C1.at (i := 3) rfl
            go_wp2
            clear eb ht hwy hwb hw
            have kwr := kww.out
            refine ret_at (v := mv ⟨(x : Int), b, (c : Int), (k : Int)⟩) (fun w' => Blk w' (w.heap.size + 1) 57 (mcs ⟨(x : Int), b, (c : Int), (k : Int)⟩)) (by repeat (first | (with_reducible assumption) | ((with_reducible refine Blk.new ?_); · first | omega | (simp; done) | (simp; omega)) | (with_reducible apply Blk.set4) | (with_reducible apply Blk.set3) | (with_reducible apply Blk.set2) | ((with_reducible refine Blk.put ?_ ?_); · first | omega | (simp; omega)) | (with_reducible refine Blk.old ?_) | (with_reducible refine Blk.drew ?_) | (with_reducible refine Blk.drewN ?_) | ((with_reducible refine Blk.below hb ?_ ?_); · first | omega | (simp; done) | (simp; omega)))) (fun w' hB => by have q := hB.m; simp [results, Try.results37, go_sem, q]) rfl ?_
            exact ⟨by rw [HQ.out], (by repeat (first | (with_reducible exact Below.refl _ _) | (with_reducible assumption) | (with_reducible refine Below.drew ?_) | (with_reducible refine Below.drewN ?_) | ((with_reducible refine Below.al ?_ ?_); · first | omega | (simp; done) | (simp; omega)) | ((with_reducible refine Below.sc ?_ ?_); · first | omega | (simp; done) | (simp; omega)) | ((with_reducible refine Below.thru hb ?_ ?_); · first | omega | (simp; done) | (simp; omega))))⟩
          · rw [decide_eq_false ht, cond_false] at HN
            have bx2 := aQ_le HN.out
            have htb : (Int.tmod ((x : Int) * (k : Int) - 1) (c : Int) != 0) = true := by simpa using ht
            clear hm hz HA HQ ht
            obtain ⟨z, ez⟩ : ∃ z, (x : Int) * (k : Int) = z := ⟨_, rfl⟩
            rw [ez] at hmb htb htm
            have hw : wrap64 ((x : Int) * (k : Int)) = z := by rw [ez]; unfold wrap64; omega
            clear ez
            obtain ⟨t, et⟩ : ∃ t, Int.tmod (z - 1) (c : Int) = t := ⟨_, rfl⟩
            rw [et] at htb
            have hwy := wrap_id2 hmb
            have hxa := bx.1
            have hx70 : x ≤ 70 := Nat.le_trans bx.1 (by simpa using ba.2)
            clear htm hmb ba bx
            go_wp2
            clear et htb hwy hw
            go_roundw
            case rel => exact ⟨x + 1, r, by go_num, HN, C1, kwr⟩
            case measure => simp [intOf]; omega

end Go.Proofs.Ytjjbaebddkejnaa

/- bezout: the program's walk. -/
namespace Go.Proofs.Ytjjbaebddkejnaa
open Go.RowKit
set_option linter.unusedSimpArgs false

theorem smB_bd {z : Int} (h : smB z = true) : -1000000000 ≤ z ∧ z ≤ 1000000000 := by
  unfold smB at h
  simp only [Bool.and_eq_true, decide_eq_true_eq] at h
  exact h
/-- The numbers of bezout's loop stay small. -/
structure BzS (p q a b c d : Int) : Prop where
  p : -1000000 ≤ p ∧ p ≤ 1000000
  q : -1000000 ≤ q ∧ q ≤ 1000000
  a : -1000000000 ≤ a ∧ a ≤ 1000000000
  b : -1000000000 ≤ b ∧ b ≤ 1000000000
  c : -1000000000 ≤ c ∧ c ≤ 1000000000
  d : -1000000000 ≤ d ∧ d ≤ 1000000000
theorem mul_bd3 {a b A B : Int} (hA : 0 ≤ A) (ha : -A ≤ a ∧ a ≤ A) (hb : -B ≤ b ∧ b ≤ B) : -(A * B) ≤ a * b ∧ a * b ≤ A * B := by
  have h1 : (a * b).natAbs ≤ A.natAbs * B.natAbs := by
    rw [Int.natAbs_mul]
    exact Nat.mul_le_mul (by omega) (by omega)
  have h2 : ((A.natAbs * B.natAbs : Nat) : Int) = A * B := by
    rw [Int.natCast_mul, Int.natAbs_of_nonneg hA, Int.natAbs_of_nonneg (by omega)]
  generalize a * b = x at *
  generalize A * B = y at *
  omega
/-- One round: the new numbers, what they are in 64 bits. -/
theorem bz_step {r : Nat} {p q a b c d : Int} {rs : Int × Int} (h : bzF (r + 1) p q a b c d = some rs) (hs : BzS p q a b c d) (hq : q ≠ 0) :
    ∃ n q' a' b' n1 n2 n3 : Int, Int.tdiv p q = n ∧ wrap64 n = n ∧ wrap64 (n * q) = n1 ∧ wrap64 (p - n1) = q' ∧ wrap64 (n * c) = n2 ∧ wrap64 (a - n2) = a' ∧ wrap64 (n * d) = n3 ∧ wrap64 (b - n3) = b' ∧ bzF r q q' c d a' b' = some rs ∧ BzS q q' c d a' b' ∧ q'.natAbs < q.natAbs := by
  rw [bzF, decide_eq_false hq, cond_false] at h
  cases hc : (smB (a - Int.tdiv p q * c) && smB (b - Int.tdiv p q * d)) with
  | false => rw [hc] at h; cases h
  | true =>
    rw [hc, cond_true] at h
    simp only [Bool.and_eq_true] at hc
    have ha := smB_bd hc.1
    have hb := smB_bd hc.2
    have hn := Int.natAbs_tdiv_le_natAbs p q
    have ht := tmod_lt (a := p) hq
    have hm := Int.mul_tdiv_add_tmod p q
    rw [Int.mul_comm] at hm
    obtain ⟨n, e⟩ : ∃ n, Int.tdiv p q = n := ⟨_, rfl⟩
    rw [e] at h ha hb hn hm
    obtain ⟨t, et⟩ : ∃ t, Int.tmod p q = t := ⟨_, rfl⟩
    rw [et] at ht hm
    clear et hc
    have hn2 : -1000000 ≤ n ∧ n ≤ 1000000 := by
      have := hs.p
      clear e h ha hb hm ht
      omega
    have m1 := mul_bd3 (by decide) hn2 hs.q
    have m2 := mul_bd3 (by decide) hn2 hs.c
    have m3 := mul_bd3 (by decide) hn2 hs.d
    have hp := hs.p
    have hqq := hs.q
    have hsa := hs.a
    have hsb := hs.b
    refine ⟨n, p - n * q, a - n * c, b - n * d, n * q, n * c, n * d, e, ?_⟩
    clear e hn
    generalize n * q = x at *
    generalize n * c = y at *
    generalize n * d = z at *
    have ht2 : (p - x).natAbs < q.natAbs := by
      have : p - x = t := by omega
      rw [this]; exact ht
    refine ⟨?_, ?_, ?_, ?_, ?_, ?_, ?_, h, ⟨hqq, ?_, hs.c, hs.d, ha, hb⟩, ht2⟩
    all_goals clear h
    all_goals first
      | (unfold wrap64; omega)
      | omega
theorem bz_end {r : Nat} {p a b c d : Int} {rs : Int × Int} (h : bzF r p 0 a b c d = some rs) (hs : BzS p 0 a b c d) : ∃ x y : Int, wrap64 (-b) = -b ∧ wrap64 (-b * p) = x ∧ wrap64 (a * p) = y ∧ rs = (x, y) := by
  cases r with
  | zero => cases h
  | succ r =>
    rw [bzF] at h
    simp only [decide_true, cond_true, Option.some.injEq] at h
    have h1 : -1000000000 ≤ -b ∧ -b ≤ 1000000000 := by have := hs.b; omega
    have m1 := mul_bd3 (by decide) h1 hs.p
    have m2 := mul_bd3 (by decide) hs.a hs.p
    refine ⟨-b * p, a * p, ?_, ?_, ?_, h.symm⟩
    · unfold wrap64; omega
    · clear h m2
      generalize -b * p = x at *
      unfold wrap64; omega
    · clear h m1
      generalize a * p = x at *
      unfold wrap64; omega
set_option maxRecDepth 8000 in
set_option maxHeartbeats 2000000 in
theorem bezout_any (p q : Int) (rs : Int × Int) (h : bzF 64 p q 1 0 0 1 = some rs) (hp : -1000000 ≤ p ∧ p ≤ 1000000) (hq : -1000000 ≤ q ∧ q ≤ 1000000) (w : World) :
    Calls Try.prog 63 #[.int .i64 p, .int .i64 q] w fun e w' => e = .returned (.tuple #[.int .i64 rs.1, .int .i64 rs.2]) ∧ Below w.heap.size w w' := by
  have H := Lib.hid h
  clear h
  go_enter Try.func63, Try.ntmps63
  go_wp2_with fail
  go_loopw [0, 1, 6, 7, 8, 9] (fun v0 v1 v6 v7 v8 v9 wr => ∃ (p q a b c d : Int) (r : Nat), v0 = .int .i64 p ∧ v1 = .int .i64 q ∧ v6 = .int .i64 a ∧ v7 = .int .i64 b ∧ v8 = .int .i64 c ∧ v9 = .int .i64 d ∧ Hid (bzF r p q a b c d = some rs) ∧ Hid (BzS p q a b c d) ∧ Below w.heap.size w wr) (fun _ v1 _ _ _ _ _ => (intOf v1).natAbs)
  case atStart => exact ⟨p, q, 1, 0, 0, 1, 64, rfl, rfl, rfl, rfl, rfl, rfl, H, Lib.hid ⟨hp, hq, by omega, by omega, by omega, by omega⟩, (by repeat (first | (with_reducible exact Below.refl _ _) | (with_reducible assumption) | (with_reducible refine Below.drew ?_) | (with_reducible refine Below.drewN ?_) | ((with_reducible refine Below.al ?_ ?_); · first | omega | (simp; done) | (simp; omega)) | ((with_reducible refine Below.sc ?_ ?_); · first | omega | (simp; done) | (simp; omega)) | ((with_reducible refine Below.thru hb ?_ ?_); · first | omega | (simp; done) | (simp; omega))))⟩
  case round =>
    clear H hp hq
    obtain ⟨p, q, a, b, c, d, r, rfl, rfl, rfl, rfl, rfl, rfl, HB, HS, kwr⟩ := hrel
    by_cases h0 : q = 0
    · subst h0
      obtain ⟨x, y, e1, e2, e3, e4⟩ := bz_end HB.out HS.out
      have HE := Lib.hid e4
      clear HB HS e4
      go_wp2
      go_ret2
      exact ⟨by rw [HE.out, ← e2, ← e3]; rfl, kwr⟩
    · obtain ⟨r, rfl⟩ : ∃ r', r = r' + 1 := by
        cases r with
        | zero => have := HB.out; cases this
        | succ r => exact ⟨r, rfl⟩
      obtain ⟨n, q', a', b', n1, n2, n3, e0, e1, e2, e3, e4, e5, e6, e7, h1, h2, h3⟩ := bz_step HB.out HS.out h0
      have H1 := Lib.hid h1
      have H2 := Lib.hid h2
      have H3 := Lib.hid h3
      clear h1 h2 h3 HB HS
      go_wp2
      go_roundw
      case rel => exact ⟨q, q', c, d, a', b', r, rfl, by rw [e3], rfl, rfl, by rw [e5], by rw [e7], H1, H2, kwr⟩
      case measure => simpa [intOf, e3] using H3.out

end Go.Proofs.Ytjjbaebddkejnaa

/- The cusps of a level's coset matrices: what the check says (plain law). -/
namespace Go.Proofs.Ytjjbaebddkejnaa
open Go.RowKit
set_option linter.unusedSimpArgs false

theorem upQ_at {j n : Nat} (h : upQ j n = true) : ∀ m, n - j < m → m ≤ n → levQ m (lineQ m m) = true := by
  induction j with
  | zero => intro m h1 h2; omega
  | succ j ih =>
    intro m h1 h2
    rw [upQ] at h
    cases hr : levQ (n - j) (lineQ (n - j) (n - j)) with
    | false => rw [hr] at h; cases h
    | true =>
      rw [hr] at h
      by_cases e : m = n - j
      · subst e; exact hr
      · exact ih h m (by omega) h2
theorem lev_at {n : Nat} (hn : 1 ≤ n ∧ n ≤ 60) : levQ n (lineL n) = true := by
  have : levQ n (lineQ n n) = true := by
    by_cases h1 : n ≤ 24
    · exact upQ_at upQ1 n (by omega) h1
    · by_cases h2 : n ≤ 36
      · exact upQ_at upQ2 n (by omega) h2
      · by_cases h3 : n ≤ 48
        · exact upQ_at upQ3 n (by omega) h3
        · exact upQ_at upQ4 n (by omega) hn.2
  rwa [lineQ_eq] at this
theorem allQ_at {n : Nat} {L : List (Nat × Nat)} {ns : List Int} : ∀ {l : List (Nat × Nat)} {i : Nat}, allQ n L ns i l = true → ∀ k (hk : k < l.length), pairQ n L ns (i + k) l[k] = true
  | [], _, _, k, hk => absurd hk (Nat.not_lt_zero _)
  | x :: l, i, h, k, hk => by
    rw [allQ] at h
    cases hr : pairQ n L ns i x with
    | false => rw [hr] at h; cases h
    | true =>
      rw [hr] at h
      match k, hk with
      | 0, _ => exact hr
      | k + 1, hk =>
        have := allQ_at h k (by simpa using hk)
        rwa [show i + 1 + k = i + (k + 1) by omega] at this
/-- What the check says of a pair. -/
structure PairF (n : Nat) (L : List (Nat × Nat)) (ns : List Int) (i : Nat) (x q : Nat × Nat) (j1 j2 : Nat) : Prop where
  cos : cosQ n x.1 x.2 = some q
  g1 : Int.gcd (q.1 : Int) (x.1 : Int) = 1
  g2 : Int.gcd (nfQ (bQ x.1 q) q.2) (q.2 : Int) = 1
  b1 : q.1 < 100000
  b2 : q.2 < 100000
  bb : -1000000 ≤ bQ x.1 q ∧ bQ x.1 q ≤ 1000000
  c1 : cfQ n L (nfQ (q.1 : Int) x.1) x.1 = some j1
  n1 : ns.getD j1 0 = ns.getD i 0
  c2 : cfQ n L (nfQ (bQ x.1 q) q.2) q.2 = some j2
  n2 : ns.getD j2 0 = ns.getD (sQ n L x) 0
  t : tQ n L x < L.length
  s : sQ n L x < L.length
theorem pairQ_F {n : Nat} {L : List (Nat × Nat)} {ns : List Int} {i : Nat} {x : Nat × Nat} (h : pairQ n L ns i x = true) : ∃ q j1 j2, PairF n L ns i x q j1 j2 := by
  unfold pairQ at h
  cases hq : cosQ n x.1 x.2 with
  | none => rw [hq] at h; cases h
  | some q =>
    rw [hq] at h
    simp only [Bool.and_eq_true, decide_eq_true_eq, blt_dec] at h
    obtain ⟨⟨⟨⟨⟨⟨⟨⟨h1, h2⟩, h3⟩, h4⟩, h5⟩, h6⟩, h7⟩, h8⟩, h9⟩ := h
    cases hc1 : cfQ n L (nfQ (q.1 : Int) x.1) x.1 with
    | none => rw [hc1] at h6; cases h6
    | some j1 =>
      cases hc2 : cfQ n L (nfQ (bQ x.1 q) q.2) q.2 with
      | none => rw [hc2] at h7; cases h7
      | some j2 =>
        rw [hc1] at h6
        rw [hc2] at h7
        exact ⟨q, j1, j2, hq, h1, h2, h3, h4, h5, hc1, of_decide_eq_true h6, hc2, of_decide_eq_true h7, h8, h9⟩
theorem tQ_eq {n : Nat} {x : Nat × Nat} (hx : x ∈ lineL n) (h : tQ n (lineL n) x < (lineL n).length) : mv1 n tM x = (tQ n (lineL n) x : Int) := by
  obtain ⟨h1, h2, -⟩ := line_pair hx
  rw [mv_T]
  unfold nrmC
  rw [pos_mod _ _ h1, add_mod2]
  unfold tQ at h ⊢
  simp only [nrmF_eq] at h ⊢
  exact idQ_eq (p := nrmN n x.1 ((x.1 + x.2) % n)) h
theorem sQ_eq {n : Nat} {x : Nat × Nat} (hx : x ∈ lineL n) (h : sQ n (lineL n) x < (lineL n).length) : idxP (lineL n) (nrmC n (x.2 : Int) (-(x.1 : Int))) = (sQ n (lineL n) x : Int) := by
  rw [nrmC_s hx]
  unfold sQ at h ⊢
  simp only [nrmF_eq] at h ⊢
  exact idQ_eq (p := nrmN n x.2 ((n - x.1) % n)) h
theorem isPrC_t {n : Nat} {x : Nat × Nat} (hx : x ∈ lineL n) : isPrC n (x.1 : Int) ((x.1 : Int) + x.2) = true := by
  obtain ⟨h1, h2, h3⟩ := line_pair hx
  unfold isPrC
  rw [add_mod2, pos_mod _ _ h1]
  refine (isPr_iff _ _ _).2 fun g a b c => (isPr_iff _ _ _).1 h3 g a ?_ c
  exact (Nat.dvd_add_iff_right a).2 ((Nat.dvd_mod_iff c).1 b)
theorem kdQ_gcd {n c r d d2 : Nat} (h : kdQ n c r d = some d2) : ¬ 1 < Nat.gcd c d2 := by
  induction r generalizing d with
  | zero => cases h
  | succ r ih =>
    rw [kdQ, blt_dec] at h
    by_cases e : 1 < Nat.gcd c d
    · rw [decide_eq_true e] at h
      exact ih h
    · rw [decide_eq_false e] at h
      cases h
      exact e
/-- The second column's numbers have no divisor in common. -/
theorem gcd_b {n c d : Nat} {q : Nat × Nat} (h : cosQ n c d = some q) (hg : Int.gcd (nfQ (bQ c q) q.2) (q.2 : Int) = 1) : Int.gcd (bQ c q) (q.2 : Int) = 1 := by
  by_cases h0 : q.2 = 0
  · unfold cosQ at h
    rw [beq_dec] at h
    by_cases hc : c = 0
    · rw [decide_eq_true hc] at h
      cases h
      cases h0
    · rw [decide_eq_false hc] at h
      obtain ⟨d2, hd, h⟩ := Option.bind_eq_some_iff.1 (show ((kdQ n c 70 d).bind fun d2 => (aQ c d2 70 0).bind fun a => some (a, d2)) = some q from h)
      obtain ⟨a, -, h⟩ := Option.bind_eq_some_iff.1 h
      cases h
      have := kdQ_gcd hd
      simp only at h0
      subst h0
      rw [Nat.gcd_zero_right] at this
      have hc1 : c = 1 := by omega
      subst hc1
      simp [bQ]
      rfl
  · unfold nfQ at hg
    rw [beq_dec, decide_eq_false h0] at hg
    exact hg
theorem fracB_of {p : Int} {q : Nat} (hg : Int.gcd (nfQ p q) (q : Int) = 1) (hp : -1000000 ≤ p ∧ p ≤ 1000000) (hq : q ≤ 1000000) : fracB (nfQ p q) (q : Int) = true ∧ (-1000000 ≤ nfQ p q ∧ nfQ p q ≤ 1000000) := by
  have hb : -1000000 ≤ nfQ p q ∧ nfQ p q ≤ 1000000 := by
    unfold nfQ
    cases Nat.beq q 0 with
    | true => show -1000000 ≤ (1 : Int) ∧ (1 : Int) ≤ 1000000; omega
    | false => exact hp
  refine ⟨?_, hb⟩
  have h3 : 0 < (q : Int) ∨ nfQ p q = 1 := by
    by_cases h : q = 0
    · right; subst h; rfl
    · left; omega
  unfold fracB
  rw [Bool.and_eq_true, Bool.and_eq_true, decide_eq_true_eq]
  refine ⟨⟨?_, ?_⟩, by omega, hg, h3⟩
  · exact entB_mk (by omega)
  · exact entB_mk (by omega)
/-- What the program's and the reference's ends of a level need. -/
structure EndF (n k : Nat) (q : Nat × Nat) (j1 j2 : Nat) (x : Nat × Nat) : Prop where
  mem : x ∈ lineL n
  cos : cosQ n x.1 x.2 = some q
  g1 : Int.gcd (q.1 : Int) (x.1 : Int) = 1
  g2 : Int.gcd (bQ x.1 q) (q.2 : Int) = 1
  b1 : q.1 < 100000
  b2 : q.2 < 100000
  bb : -1000000 ≤ bQ x.1 q ∧ bQ x.1 q ≤ 1000000
  c1 : cfQ n (lineL n) (nfQ (q.1 : Int) x.1) x.1 = some j1
  f1 : fracB (nfQ (q.1 : Int) x.1) (x.1 : Int) = true ∧ (-1000000 ≤ nfQ (q.1 : Int) x.1 ∧ nfQ (q.1 : Int) x.1 ≤ 1000000)
  n1 : (numL (movL n tM) (lineL n).length).getD j1 0 = (numL (movL n tM) (lineL n).length).getD k 0
  c2 : cfQ n (lineL n) (nfQ (bQ x.1 q) q.2) q.2 = some j2
  f2 : fracB (nfQ (bQ x.1 q) q.2) (q.2 : Int) = true ∧ (-1000000 ≤ nfQ (bQ x.1 q) q.2 ∧ nfQ (bQ x.1 q) q.2 ≤ 1000000)
  n2 : (numL (movL n tM) (lineL n).length).getD j2 0 = (numL (movL n tM) (lineL n).length).getD (sQ n (lineL n) x) 0
  s : sQ n (lineL n) x < (lineL n).length
  si : idxP (lineL n) (nrmC n (x.2 : Int) (-(x.1 : Int))) = (sQ n (lineL n) x : Int)
theorem lev_ok {n : Nat} (hn : 1 ≤ n ∧ n ≤ 60) (h72 : (lineL n).length ≤ 72) (h0 : 1 ≤ (lineL n).length) : Lvl n ∧ ∀ k (hk : k < (lineL n).length), ∃ q j1 j2, EndF n k q j1 j2 (lineL n)[k] := by
  have h := lev_at hn
  unfold levQ at h
  rw [blt_dec, decide_eq_false (by omega)] at h
  have h := allQ_at (show allQ n (lineL n) (numQ n (lineL n)) 0 (lineL n) = true from h)
  have hT : ∀ x ∈ lineL n, mv1 n tM x = (tQ n (lineL n) x : Int) := fun x hx => by
    obtain ⟨k, hk, rfl⟩ := List.mem_iff_getElem.1 hx
    obtain ⟨q, j1, j2, F⟩ := pairQ_F (h k hk)
    exact tQ_eq hx F.t
  have hN : numQ n (lineL n) = numL (movL n tM) (lineL n).length := by
    unfold numQ movL
    rw [List.map_congr_left hT]
  rw [hN] at h
  refine ⟨⟨hn, h72, h0, fun k hk => isPrC_t (List.getElem_mem hk), fun k hk => by rw [hT _ (List.getElem_mem hk)]; omega⟩, fun k hk => ?_⟩
  obtain ⟨q, j1, j2, F⟩ := pairQ_F (h k hk)
  rw [Nat.zero_add] at F
  have hm := List.getElem_mem hk
  have hx := (line_pair hm).1
  have g2 := gcd_b F.cos F.g2
  have g1 : Int.gcd (nfQ (q.1 : Int) (lineL n)[k].1) ((lineL n)[k].1 : Int) = 1 := by
    unfold nfQ
    cases hb : Nat.beq (lineL n)[k].1 0 with
    | true =>
      show Int.gcd 1 _ = 1
      exact Int.one_gcd
    | false => exact F.g1
  exact ⟨q, j1, j2, hm, F.cos, F.g1, g2, F.b1, F.b2, F.bb, F.c1, fracB_of g1 (by have := F.b1; omega) (by omega), F.n1, F.c2, fracB_of F.g2 F.bb (by have := F.b2; omega), F.n2, F.s, sQ_eq hm F.s⟩
/-- A coset of a fraction lies in the line. -/
theorem cfQ_lt {n : Nat} {L : List (Nat × Nat)} {p : Int} {q j : Nat} (h : cfQ n L p q = some j) : j < L.length := by
  unfold cfQ at h
  obtain ⟨rs, -, h⟩ := Option.bind_eq_some_iff.1 h
  revert h
  generalize nrmF n (Nat.mod q n) (Int.toNat (rs.2 % (n : Int))) = y
  obtain ⟨x, y⟩ := y
  intro h
  simp only [blt_dec] at h
  by_cases e : idQ L x y < L.length
  · rw [decide_eq_true e] at h
    cases h
    exact e
  · rw [decide_eq_false e] at h
    cases h
/-- The coset of a fraction as the program finds it. -/
theorem cfQ_eq {n : Nat} {p : Int} {q j : Nat} (h : cfQ n (lineL n) p q = some j) : ∃ rs, bzF 64 p (q : Int) 1 0 0 1 = some rs ∧ idxP (lineL n) (nrmC n (q : Int) rs.2) = (j : Int) := by
  have hj := cfQ_lt h
  unfold cfQ at h
  obtain ⟨rs, hr, h⟩ := Option.bind_eq_some_iff.1 h
  refine ⟨rs, hr, ?_⟩
  have e : nrmC n (q : Int) rs.2 = nrmF n (Nat.mod q n) (Int.toNat (rs.2 % (n : Int))) := by
    unfold nrmC
    rw [nrmF_eq, ← Int.natCast_emod, Int.toNat_natCast]
    rfl
  rw [e]
  revert h
  generalize nrmF n (Nat.mod q n) (Int.toNat (rs.2 % (n : Int))) = y
  obtain ⟨x, y⟩ := y
  intro h
  simp only [blt_dec] at h
  by_cases e : idQ (lineL n) x y < (lineL n).length
  · rw [decide_eq_true e] at h
    cases h
    exact idQ_eq (p := (x, y)) e
  · rw [decide_eq_false e] at h
    cases h

end Go.Proofs.Ytjjbaebddkejnaa
