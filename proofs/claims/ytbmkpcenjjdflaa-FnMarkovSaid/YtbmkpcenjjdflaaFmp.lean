/- Contracts of NeighbourOf. -/
import Derived.Test.YtbmkpcenjjdflaaOrdm
import Derived.Test.YtbmkpcenjjdflaaTbS
import Derived.Test.YtbmkpcenjjdflaaMks
namespace Go.Proofs.Ytbmkpcenjjdflaa
open Go.RowKit
set_option linter.unusedSimpArgs false

def T3.ok (t : T3) : Bool := triB t.x t.y t.z
theorem T3.ok_spec {t : T3} (h : t.ok = true) : 1 ≤ t.x ∧ t.x ≤ t.y ∧ t.y ≤ t.z ∧ t.z ≤ 1000000000 ∧ t.x * t.x + t.y * t.y + t.z * t.z = 3 * t.x * t.y * t.z := by
  unfold T3.ok triB at h
  exact of_decide_eq_true h
theorem T3.ok_small {t : T3} (h : t.ok = true) : t.small := by
  have := T3.ok_spec h
  refine ⟨⟨?_, ?_⟩, ⟨?_, ?_⟩, ?_, ?_⟩ <;> omega

/-- What NeighbourOf gives. -/
def nbR (t : T3) (i : Int) : T3 × Int :=
  if t.ok then (if inB i 0 2 then (if (t.nb i).z ≤ 1000000000 then (t.nb i, 0) else (⟨0, 0, 0⟩, 3)) else (⟨0, 0, 0⟩, 2)) else (⟨0, 0, 0⟩, 1)

theorem l09Is_t (t : T3) (w : World) :
    Calls Try.prog 41 #[.agg #[.int .i64 t.x, .int .i64 t.y, .int .i64 t.z]] w fun e w' => e = .returned (.bool t.ok) ∧ Below w.heap.size w w' := l09Is_any t.x t.y t.z w
theorem IsTriple_t (t : T3) (w : World) :
    Calls Try.prog 20 #[.agg #[.int .i64 t.x, .int .i64 t.y, .int .i64 t.z]] w fun e w' => e = .returned (.bool t.ok) ∧ Below w.heap.size w w' := IsTriple_any t.x t.y t.z w
theorem i012 {i : Int} (h : inB i 0 2 = true) : i = 0 ∨ i = 1 ∨ i = 2 := by
  have := inB_true h
  omega

set_option maxHeartbeats 2000000 in
theorem specNeighbourOf_any (t : T3) (i : Int) (w : World) :
    Calls Try.prog 19 #[.agg #[.int .i64 t.x, .int .i64 t.y, .int .i64 t.z], .int .i64 i] w fun e w' => e = .returned (.tuple #[tv (nbR t i).1, .int .i64 (nbR t i).2]) ∧ Below w.heap.size w w' := by
  cases h1 : t.ok with
  | false =>
    have HF := Lib.hid (show nbR t i = (⟨0, 0, 0⟩, 1) by simp [nbR, h1])
    go_enter Try.func19, Try.ntmps19
    go_wp2_with fail
    refine (l09Is_t t _).mono ?_
    rintro e w1 ⟨rfl, hb⟩
    have B0 : Blk w1 (w.heap.size) 36 (tcs t) := (by repeat (first | (with_reducible assumption) | ((with_reducible refine Blk.new ?_); · first | omega | (simp; done) | (simp; omega)) | (with_reducible apply Blk.set4) | (with_reducible apply Blk.set3) | (with_reducible apply Blk.set2) | ((with_reducible refine Blk.put ?_ ?_); · first | omega | (simp; omega)) | (with_reducible refine Blk.old ?_) | (with_reducible refine Blk.drew ?_) | (with_reducible refine Blk.drewN ?_) | ((with_reducible refine Blk.below hb ?_ ?_); · first | omega | (simp; done) | (simp; omega))))
    have lB0 := B0.lt
    have B1 : Blk w1 (w.heap.size + 1) 36 (tcs ⟨0, 0, 0⟩) := (by repeat (first | (with_reducible assumption) | ((with_reducible refine Blk.new ?_); · first | omega | (simp; done) | (simp; omega)) | (with_reducible apply Blk.set4) | (with_reducible apply Blk.set3) | (with_reducible apply Blk.set2) | ((with_reducible refine Blk.put ?_ ?_); · first | omega | (simp; omega)) | (with_reducible refine Blk.old ?_) | (with_reducible refine Blk.drew ?_) | (with_reducible refine Blk.drewN ?_) | ((with_reducible refine Blk.below hb ?_ ?_); · first | omega | (simp; done) | (simp; omega))))
    have lB1 := B1.lt
    have kw1 : Below w.heap.size w w1 := (by repeat (first | (with_reducible exact Below.refl _ _) | (with_reducible assumption) | (with_reducible refine Below.drew ?_) | (with_reducible refine Below.drewN ?_) | ((with_reducible refine Below.al ?_ ?_); · first | omega | (simp; done) | (simp; omega)) | ((with_reducible refine Below.sc ?_ ?_); · first | omega | (simp; done) | (simp; omega)) | ((with_reducible refine Below.thru hb ?_ ?_); · first | omega | (simp; done) | (simp; omega))))
    have sw1 := kw1.size
    clear hb
    have q1 := B1.t
    have f1 := B1.tf
    go_wp2
    refine ret_at (v := .tuple #[tv ⟨0, 0, 0⟩, .int .i64 1]) (fun w' => Blk w' (w.heap.size + 1) 36 (tcs ⟨0, 0, 0⟩)) (by repeat (first | (with_reducible assumption) | ((with_reducible refine Blk.new ?_); · first | omega | (simp; done) | (simp; omega)) | (with_reducible apply Blk.set4) | (with_reducible apply Blk.set3) | (with_reducible apply Blk.set2) | ((with_reducible refine Blk.put ?_ ?_); · first | omega | (simp; omega)) | (with_reducible refine Blk.old ?_) | (with_reducible refine Blk.drew ?_) | (with_reducible refine Blk.drewN ?_) | ((with_reducible refine Blk.below hb ?_ ?_); · first | omega | (simp; done) | (simp; omega)))) (fun w' hB => by have q := hB.t; simp [results, Try.results19, go_sem, q]) rfl ?_
    exact ⟨by rw [HF.out], (by repeat (first | (with_reducible exact Below.refl _ _) | (with_reducible assumption) | (with_reducible refine Below.drew ?_) | (with_reducible refine Below.drewN ?_) | ((with_reducible refine Below.al ?_ ?_); · first | omega | (simp; done) | (simp; omega)) | ((with_reducible refine Below.sc ?_ ?_); · first | omega | (simp; done) | (simp; omega)) | ((with_reducible refine Below.thru hb ?_ ?_); · first | omega | (simp; done) | (simp; omega))))⟩
  | true =>
    cases h2 : inB i 0 2 with
    | false =>
      have HF := Lib.hid (show nbR t i = (⟨0, 0, 0⟩, 2) by simp [nbR, h1, h2])
      go_enter Try.func19, Try.ntmps19
      go_wp2_with fail
      refine (l09Is_t t _).mono ?_
      rintro e w1 ⟨rfl, hb⟩
      have B0 : Blk w1 (w.heap.size) 36 (tcs t) := (by repeat (first | (with_reducible assumption) | ((with_reducible refine Blk.new ?_); · first | omega | (simp; done) | (simp; omega)) | (with_reducible apply Blk.set4) | (with_reducible apply Blk.set3) | (with_reducible apply Blk.set2) | ((with_reducible refine Blk.put ?_ ?_); · first | omega | (simp; omega)) | (with_reducible refine Blk.old ?_) | (with_reducible refine Blk.drew ?_) | (with_reducible refine Blk.drewN ?_) | ((with_reducible refine Blk.below hb ?_ ?_); · first | omega | (simp; done) | (simp; omega))))
      have lB0 := B0.lt
      have B1 : Blk w1 (w.heap.size + 1) 36 (tcs ⟨0, 0, 0⟩) := (by repeat (first | (with_reducible assumption) | ((with_reducible refine Blk.new ?_); · first | omega | (simp; done) | (simp; omega)) | (with_reducible apply Blk.set4) | (with_reducible apply Blk.set3) | (with_reducible apply Blk.set2) | ((with_reducible refine Blk.put ?_ ?_); · first | omega | (simp; omega)) | (with_reducible refine Blk.old ?_) | (with_reducible refine Blk.drew ?_) | (with_reducible refine Blk.drewN ?_) | ((with_reducible refine Blk.below hb ?_ ?_); · first | omega | (simp; done) | (simp; omega))))
      have lB1 := B1.lt
      have kw1 : Below w.heap.size w w1 := (by repeat (first | (with_reducible exact Below.refl _ _) | (with_reducible assumption) | (with_reducible refine Below.drew ?_) | (with_reducible refine Below.drewN ?_) | ((with_reducible refine Below.al ?_ ?_); · first | omega | (simp; done) | (simp; omega)) | ((with_reducible refine Below.sc ?_ ?_); · first | omega | (simp; done) | (simp; omega)) | ((with_reducible refine Below.thru hb ?_ ?_); · first | omega | (simp; done) | (simp; omega))))
      have sw1 := kw1.size
      clear hb
      have q1 := B1.t
      have f1 := B1.tf
      go_wp2_with (go_at_call 29; refine (l01In_any _ _ _ _).mono ?_; rintro e w' ⟨rfl, rfl⟩)
      refine ret_at (v := .tuple #[tv ⟨0, 0, 0⟩, .int .i64 2]) (fun w' => Blk w' (w.heap.size + 1) 36 (tcs ⟨0, 0, 0⟩)) (by repeat (first | (with_reducible assumption) | ((with_reducible refine Blk.new ?_); · first | omega | (simp; done) | (simp; omega)) | (with_reducible apply Blk.set4) | (with_reducible apply Blk.set3) | (with_reducible apply Blk.set2) | ((with_reducible refine Blk.put ?_ ?_); · first | omega | (simp; omega)) | (with_reducible refine Blk.old ?_) | (with_reducible refine Blk.drew ?_) | (with_reducible refine Blk.drewN ?_) | ((with_reducible refine Blk.below hb ?_ ?_); · first | omega | (simp; done) | (simp; omega)))) (fun w' hB => by have q := hB.t; simp [results, Try.results19, go_sem, q]) rfl ?_
      exact ⟨by rw [HF.out], (by repeat (first | (with_reducible exact Below.refl _ _) | (with_reducible assumption) | (with_reducible refine Below.drew ?_) | (with_reducible refine Below.drewN ?_) | ((with_reducible refine Below.al ?_ ?_); · first | omega | (simp; done) | (simp; omega)) | ((with_reducible refine Below.sc ?_ ?_); · first | omega | (simp; done) | (simp; omega)) | ((with_reducible refine Below.thru hb ?_ ?_); · first | omega | (simp; done) | (simp; omega))))⟩
    | true =>
      have hs := T3.ok_small h1
      have hi := i012 h2
      by_cases h3 : (t.nb i).z ≤ 1000000000
      · have HF := Lib.hid (show nbR t i = (t.nb i, 0) by simp [nbR, h1, h2, h3])
        go_enter Try.func19, Try.ntmps19
        go_wp2_with fail
        refine (l09Is_t t _).mono ?_
        rintro e w1 ⟨rfl, hb⟩
        have B0 : Blk w1 (w.heap.size) 36 (tcs t) := (by repeat (first | (with_reducible assumption) | ((with_reducible refine Blk.new ?_); · first | omega | (simp; done) | (simp; omega)) | (with_reducible apply Blk.set4) | (with_reducible apply Blk.set3) | (with_reducible apply Blk.set2) | ((with_reducible refine Blk.put ?_ ?_); · first | omega | (simp; omega)) | (with_reducible refine Blk.old ?_) | (with_reducible refine Blk.drew ?_) | (with_reducible refine Blk.drewN ?_) | ((with_reducible refine Blk.below hb ?_ ?_); · first | omega | (simp; done) | (simp; omega))))
        have lB0 := B0.lt
        have B1 : Blk w1 (w.heap.size + 1) 36 (tcs ⟨0, 0, 0⟩) := (by repeat (first | (with_reducible assumption) | ((with_reducible refine Blk.new ?_); · first | omega | (simp; done) | (simp; omega)) | (with_reducible apply Blk.set4) | (with_reducible apply Blk.set3) | (with_reducible apply Blk.set2) | ((with_reducible refine Blk.put ?_ ?_); · first | omega | (simp; omega)) | (with_reducible refine Blk.old ?_) | (with_reducible refine Blk.drew ?_) | (with_reducible refine Blk.drewN ?_) | ((with_reducible refine Blk.below hb ?_ ?_); · first | omega | (simp; done) | (simp; omega))))
        have lB1 := B1.lt
        have kw1 : Below w.heap.size w w1 := (by repeat (first | (with_reducible exact Below.refl _ _) | (with_reducible assumption) | (with_reducible refine Below.drew ?_) | (with_reducible refine Below.drewN ?_) | ((with_reducible refine Below.al ?_ ?_); · first | omega | (simp; done) | (simp; omega)) | ((with_reducible refine Below.sc ?_ ?_); · first | omega | (simp; done) | (simp; omega)) | ((with_reducible refine Below.thru hb ?_ ?_); · first | omega | (simp; done) | (simp; omega))))
        have sw1 := kw1.size
        clear hb
        have q0 := B0.t
        go_wp2_with (go_at_call 29; refine (l01In_any _ _ _ _).mono ?_; rintro e w' ⟨rfl, rfl⟩)
        refine (l09Neighbour_any t i _ hs hi).mono ?_
        rintro e w2 ⟨rfl, hb⟩
        have D1 : Blk w2 (w.heap.size + 1) 36 (tcs ⟨0, 0, 0⟩) := (by repeat (first | (with_reducible assumption) | ((with_reducible refine Blk.new ?_); · first | omega | (simp; done) | (simp; omega)) | (with_reducible apply Blk.set4) | (with_reducible apply Blk.set3) | (with_reducible apply Blk.set2) | ((with_reducible refine Blk.put ?_ ?_); · first | omega | (simp; omega)) | (with_reducible refine Blk.old ?_) | (with_reducible refine Blk.drew ?_) | (with_reducible refine Blk.drewN ?_) | ((with_reducible refine Blk.below hb ?_ ?_); · first | omega | (simp; done) | (simp; omega))))
        have kw2 : Below w.heap.size w w2 := (by repeat (first | (with_reducible exact Below.refl _ _) | (with_reducible assumption) | (with_reducible refine Below.drew ?_) | (with_reducible refine Below.drewN ?_) | ((with_reducible refine Below.al ?_ ?_); · first | omega | (simp; done) | (simp; omega)) | ((with_reducible refine Below.sc ?_ ?_); · first | omega | (simp; done) | (simp; omega)) | ((with_reducible refine Below.thru hb ?_ ?_); · first | omega | (simp; done) | (simp; omega))))
        have sw2 := kw2.size
        have lD1 := D1.lt
        clear hb B0 B1 q0 hs hi h1 h2
        have q1 := D1.t
        have f1 := D1.tf
        go_wp2
        refine ret_at (v := .tuple #[tv (t.nb i), .int .i64 0]) (fun w' => Blk w' (w.heap.size + 1) 36 (tcs (t.nb i))) (by repeat (first | (with_reducible assumption) | ((with_reducible refine Blk.new ?_); · first | omega | (simp; done) | (simp; omega)) | (with_reducible apply Blk.set4) | (with_reducible apply Blk.set3) | (with_reducible apply Blk.set2) | ((with_reducible refine Blk.put ?_ ?_); · first | omega | (simp; omega)) | (with_reducible refine Blk.old ?_) | (with_reducible refine Blk.drew ?_) | (with_reducible refine Blk.drewN ?_) | ((with_reducible refine Blk.below hb ?_ ?_); · first | omega | (simp; done) | (simp; omega)))) (fun w' hB => by have q := hB.t; simp [results, Try.results19, go_sem, q]) rfl ?_
        exact ⟨by rw [HF.out], (by repeat (first | (with_reducible exact Below.refl _ _) | (with_reducible assumption) | (with_reducible refine Below.drew ?_) | (with_reducible refine Below.drewN ?_) | ((with_reducible refine Below.al ?_ ?_); · first | omega | (simp; done) | (simp; omega)) | ((with_reducible refine Below.sc ?_ ?_); · first | omega | (simp; done) | (simp; omega)) | ((with_reducible refine Below.thru hb ?_ ?_); · first | omega | (simp; done) | (simp; omega))))⟩
      · have HF := Lib.hid (show nbR t i = (⟨0, 0, 0⟩, 3) by simp [nbR, h1, h2, h3])
        go_enter Try.func19, Try.ntmps19
        go_wp2_with fail
        refine (l09Is_t t _).mono ?_
        rintro e w1 ⟨rfl, hb⟩
        have B0 : Blk w1 (w.heap.size) 36 (tcs t) := (by repeat (first | (with_reducible assumption) | ((with_reducible refine Blk.new ?_); · first | omega | (simp; done) | (simp; omega)) | (with_reducible apply Blk.set4) | (with_reducible apply Blk.set3) | (with_reducible apply Blk.set2) | ((with_reducible refine Blk.put ?_ ?_); · first | omega | (simp; omega)) | (with_reducible refine Blk.old ?_) | (with_reducible refine Blk.drew ?_) | (with_reducible refine Blk.drewN ?_) | ((with_reducible refine Blk.below hb ?_ ?_); · first | omega | (simp; done) | (simp; omega))))
        have lB0 := B0.lt
        have B1 : Blk w1 (w.heap.size + 1) 36 (tcs ⟨0, 0, 0⟩) := (by repeat (first | (with_reducible assumption) | ((with_reducible refine Blk.new ?_); · first | omega | (simp; done) | (simp; omega)) | (with_reducible apply Blk.set4) | (with_reducible apply Blk.set3) | (with_reducible apply Blk.set2) | ((with_reducible refine Blk.put ?_ ?_); · first | omega | (simp; omega)) | (with_reducible refine Blk.old ?_) | (with_reducible refine Blk.drew ?_) | (with_reducible refine Blk.drewN ?_) | ((with_reducible refine Blk.below hb ?_ ?_); · first | omega | (simp; done) | (simp; omega))))
        have lB1 := B1.lt
        have kw1 : Below w.heap.size w w1 := (by repeat (first | (with_reducible exact Below.refl _ _) | (with_reducible assumption) | (with_reducible refine Below.drew ?_) | (with_reducible refine Below.drewN ?_) | ((with_reducible refine Below.al ?_ ?_); · first | omega | (simp; done) | (simp; omega)) | ((with_reducible refine Below.sc ?_ ?_); · first | omega | (simp; done) | (simp; omega)) | ((with_reducible refine Below.thru hb ?_ ?_); · first | omega | (simp; done) | (simp; omega))))
        have sw1 := kw1.size
        clear hb
        have q0 := B0.t
        go_wp2_with (go_at_call 29; refine (l01In_any _ _ _ _).mono ?_; rintro e w' ⟨rfl, rfl⟩)
        refine (l09Neighbour_any t i _ hs hi).mono ?_
        rintro e w2 ⟨rfl, hb⟩
        have D1 : Blk w2 (w.heap.size + 1) 36 (tcs ⟨0, 0, 0⟩) := (by repeat (first | (with_reducible assumption) | ((with_reducible refine Blk.new ?_); · first | omega | (simp; done) | (simp; omega)) | (with_reducible apply Blk.set4) | (with_reducible apply Blk.set3) | (with_reducible apply Blk.set2) | ((with_reducible refine Blk.put ?_ ?_); · first | omega | (simp; omega)) | (with_reducible refine Blk.old ?_) | (with_reducible refine Blk.drew ?_) | (with_reducible refine Blk.drewN ?_) | ((with_reducible refine Blk.below hb ?_ ?_); · first | omega | (simp; done) | (simp; omega))))
        have kw2 : Below w.heap.size w w2 := (by repeat (first | (with_reducible exact Below.refl _ _) | (with_reducible assumption) | (with_reducible refine Below.drew ?_) | (with_reducible refine Below.drewN ?_) | ((with_reducible refine Below.al ?_ ?_); · first | omega | (simp; done) | (simp; omega)) | ((with_reducible refine Below.sc ?_ ?_); · first | omega | (simp; done) | (simp; omega)) | ((with_reducible refine Below.thru hb ?_ ?_); · first | omega | (simp; done) | (simp; omega))))
        have sw2 := kw2.size
        have lD1 := D1.lt
        clear hb B0 B1 q0 hs hi h1 h2
        have q1 := D1.t
        have f1 := D1.tf
        go_wp2
        refine ret_at (v := .tuple #[tv ⟨0, 0, 0⟩, .int .i64 3]) (fun w' => Blk w' (w.heap.size + 1) 36 (tcs ⟨0, 0, 0⟩)) (by repeat (first | (with_reducible assumption) | ((with_reducible refine Blk.new ?_); · first | omega | (simp; done) | (simp; omega)) | (with_reducible apply Blk.set4) | (with_reducible apply Blk.set3) | (with_reducible apply Blk.set2) | ((with_reducible refine Blk.put ?_ ?_); · first | omega | (simp; omega)) | (with_reducible refine Blk.old ?_) | (with_reducible refine Blk.drew ?_) | (with_reducible refine Blk.drewN ?_) | ((with_reducible refine Blk.below hb ?_ ?_); · first | omega | (simp; done) | (simp; omega)))) (fun w' hB => by have q := hB.t; simp [results, Try.results19, go_sem, q]) rfl ?_
        exact ⟨by rw [HF.out], (by repeat (first | (with_reducible exact Below.refl _ _) | (with_reducible assumption) | (with_reducible refine Below.drew ?_) | (with_reducible refine Below.drewN ?_) | ((with_reducible refine Below.al ?_ ?_); · first | omega | (simp; done) | (simp; omega)) | ((with_reducible refine Below.sc ?_ ?_); · first | omega | (simp; done) | (simp; omega)) | ((with_reducible refine Below.thru hb ?_ ?_); · first | omega | (simp; done) | (simp; omega))))⟩

set_option maxHeartbeats 2000000 in
theorem NeighbourOf_any (t : T3) (i : Int) (w : World) :
    Calls Try.prog 18 #[.agg #[.int .i64 t.x, .int .i64 t.y, .int .i64 t.z], .int .i64 i] w fun e w' => e = .returned (.tuple #[tv (nbR t i).1, .int .i64 (nbR t i).2]) ∧ Below w.heap.size w w' := by
  cases h1 : t.ok with
  | false =>
    have HF := Lib.hid (show nbR t i = (⟨0, 0, 0⟩, 1) by simp [nbR, h1])
    go_enter Try.func18, Try.ntmps18
    go_wp2_with fail
    refine (IsTriple_t t _).mono ?_
    rintro e w1 ⟨rfl, hb⟩
    have B0 : Blk w1 (w.heap.size) 36 (tcs t) := (by repeat (first | (with_reducible assumption) | ((with_reducible refine Blk.new ?_); · first | omega | (simp; done) | (simp; omega)) | (with_reducible apply Blk.set4) | (with_reducible apply Blk.set3) | (with_reducible apply Blk.set2) | ((with_reducible refine Blk.put ?_ ?_); · first | omega | (simp; omega)) | (with_reducible refine Blk.old ?_) | (with_reducible refine Blk.drew ?_) | (with_reducible refine Blk.drewN ?_) | ((with_reducible refine Blk.below hb ?_ ?_); · first | omega | (simp; done) | (simp; omega))))
    have lB0 := B0.lt
    have B1 : Blk w1 (w.heap.size + 1) 36 (tcs ⟨0, 0, 0⟩) := (by repeat (first | (with_reducible assumption) | ((with_reducible refine Blk.new ?_); · first | omega | (simp; done) | (simp; omega)) | (with_reducible apply Blk.set4) | (with_reducible apply Blk.set3) | (with_reducible apply Blk.set2) | ((with_reducible refine Blk.put ?_ ?_); · first | omega | (simp; omega)) | (with_reducible refine Blk.old ?_) | (with_reducible refine Blk.drew ?_) | (with_reducible refine Blk.drewN ?_) | ((with_reducible refine Blk.below hb ?_ ?_); · first | omega | (simp; done) | (simp; omega))))
    have lB1 := B1.lt
    have kw1 : Below w.heap.size w w1 := (by repeat (first | (with_reducible exact Below.refl _ _) | (with_reducible assumption) | (with_reducible refine Below.drew ?_) | (with_reducible refine Below.drewN ?_) | ((with_reducible refine Below.al ?_ ?_); · first | omega | (simp; done) | (simp; omega)) | ((with_reducible refine Below.sc ?_ ?_); · first | omega | (simp; done) | (simp; omega)) | ((with_reducible refine Below.thru hb ?_ ?_); · first | omega | (simp; done) | (simp; omega))))
    have sw1 := kw1.size
    clear hb
    have q1 := B1.t
    have f1 := B1.tf
    go_wp2
    refine ret_at (v := .tuple #[tv ⟨0, 0, 0⟩, .int .i64 1]) (fun w' => Blk w' (w.heap.size + 1) 36 (tcs ⟨0, 0, 0⟩)) (by repeat (first | (with_reducible assumption) | ((with_reducible refine Blk.new ?_); · first | omega | (simp; done) | (simp; omega)) | (with_reducible apply Blk.set4) | (with_reducible apply Blk.set3) | (with_reducible apply Blk.set2) | ((with_reducible refine Blk.put ?_ ?_); · first | omega | (simp; omega)) | (with_reducible refine Blk.old ?_) | (with_reducible refine Blk.drew ?_) | (with_reducible refine Blk.drewN ?_) | ((with_reducible refine Blk.below hb ?_ ?_); · first | omega | (simp; done) | (simp; omega)))) (fun w' hB => by have q := hB.t; simp [results, Try.results18, go_sem, q]) rfl ?_
    exact ⟨by rw [HF.out], (by repeat (first | (with_reducible exact Below.refl _ _) | (with_reducible assumption) | (with_reducible refine Below.drew ?_) | (with_reducible refine Below.drewN ?_) | ((with_reducible refine Below.al ?_ ?_); · first | omega | (simp; done) | (simp; omega)) | ((with_reducible refine Below.sc ?_ ?_); · first | omega | (simp; done) | (simp; omega)) | ((with_reducible refine Below.thru hb ?_ ?_); · first | omega | (simp; done) | (simp; omega))))⟩
  | true =>
    cases h2 : inB i 0 2 with
    | false =>
      have HF := Lib.hid (show nbR t i = (⟨0, 0, 0⟩, 2) by simp [nbR, h1, h2])
      go_enter Try.func18, Try.ntmps18
      go_wp2_with fail
      refine (IsTriple_t t _).mono ?_
      rintro e w1 ⟨rfl, hb⟩
      have B0 : Blk w1 (w.heap.size) 36 (tcs t) := (by repeat (first | (with_reducible assumption) | ((with_reducible refine Blk.new ?_); · first | omega | (simp; done) | (simp; omega)) | (with_reducible apply Blk.set4) | (with_reducible apply Blk.set3) | (with_reducible apply Blk.set2) | ((with_reducible refine Blk.put ?_ ?_); · first | omega | (simp; omega)) | (with_reducible refine Blk.old ?_) | (with_reducible refine Blk.drew ?_) | (with_reducible refine Blk.drewN ?_) | ((with_reducible refine Blk.below hb ?_ ?_); · first | omega | (simp; done) | (simp; omega))))
      have lB0 := B0.lt
      have B1 : Blk w1 (w.heap.size + 1) 36 (tcs ⟨0, 0, 0⟩) := (by repeat (first | (with_reducible assumption) | ((with_reducible refine Blk.new ?_); · first | omega | (simp; done) | (simp; omega)) | (with_reducible apply Blk.set4) | (with_reducible apply Blk.set3) | (with_reducible apply Blk.set2) | ((with_reducible refine Blk.put ?_ ?_); · first | omega | (simp; omega)) | (with_reducible refine Blk.old ?_) | (with_reducible refine Blk.drew ?_) | (with_reducible refine Blk.drewN ?_) | ((with_reducible refine Blk.below hb ?_ ?_); · first | omega | (simp; done) | (simp; omega))))
      have lB1 := B1.lt
      have kw1 : Below w.heap.size w w1 := (by repeat (first | (with_reducible exact Below.refl _ _) | (with_reducible assumption) | (with_reducible refine Below.drew ?_) | (with_reducible refine Below.drewN ?_) | ((with_reducible refine Below.al ?_ ?_); · first | omega | (simp; done) | (simp; omega)) | ((with_reducible refine Below.sc ?_ ?_); · first | omega | (simp; done) | (simp; omega)) | ((with_reducible refine Below.thru hb ?_ ?_); · first | omega | (simp; done) | (simp; omega))))
      have sw1 := kw1.size
      clear hb
      have q1 := B1.t
      have f1 := B1.tf
      go_wp2_with (go_at_call 31; refine (within_any _ _ _ _).mono ?_; rintro e w' ⟨rfl, rfl⟩)
      refine ret_at (v := .tuple #[tv ⟨0, 0, 0⟩, .int .i64 2]) (fun w' => Blk w' (w.heap.size + 1) 36 (tcs ⟨0, 0, 0⟩)) (by repeat (first | (with_reducible assumption) | ((with_reducible refine Blk.new ?_); · first | omega | (simp; done) | (simp; omega)) | (with_reducible apply Blk.set4) | (with_reducible apply Blk.set3) | (with_reducible apply Blk.set2) | ((with_reducible refine Blk.put ?_ ?_); · first | omega | (simp; omega)) | (with_reducible refine Blk.old ?_) | (with_reducible refine Blk.drew ?_) | (with_reducible refine Blk.drewN ?_) | ((with_reducible refine Blk.below hb ?_ ?_); · first | omega | (simp; done) | (simp; omega)))) (fun w' hB => by have q := hB.t; simp [results, Try.results18, go_sem, q]) rfl ?_
      exact ⟨by rw [HF.out], (by repeat (first | (with_reducible exact Below.refl _ _) | (with_reducible assumption) | (with_reducible refine Below.drew ?_) | (with_reducible refine Below.drewN ?_) | ((with_reducible refine Below.al ?_ ?_); · first | omega | (simp; done) | (simp; omega)) | ((with_reducible refine Below.sc ?_ ?_); · first | omega | (simp; done) | (simp; omega)) | ((with_reducible refine Below.thru hb ?_ ?_); · first | omega | (simp; done) | (simp; omega))))⟩
    | true =>
      have hs := T3.ok_small h1
      have hi := i012 h2
      by_cases h3 : (t.nb i).z ≤ 1000000000
      · have HF := Lib.hid (show nbR t i = (t.nb i, 0) by simp [nbR, h1, h2, h3])
        go_enter Try.func18, Try.ntmps18
        go_wp2_with fail
        refine (IsTriple_t t _).mono ?_
        rintro e w1 ⟨rfl, hb⟩
        have B0 : Blk w1 (w.heap.size) 36 (tcs t) := (by repeat (first | (with_reducible assumption) | ((with_reducible refine Blk.new ?_); · first | omega | (simp; done) | (simp; omega)) | (with_reducible apply Blk.set4) | (with_reducible apply Blk.set3) | (with_reducible apply Blk.set2) | ((with_reducible refine Blk.put ?_ ?_); · first | omega | (simp; omega)) | (with_reducible refine Blk.old ?_) | (with_reducible refine Blk.drew ?_) | (with_reducible refine Blk.drewN ?_) | ((with_reducible refine Blk.below hb ?_ ?_); · first | omega | (simp; done) | (simp; omega))))
        have lB0 := B0.lt
        have B1 : Blk w1 (w.heap.size + 1) 36 (tcs ⟨0, 0, 0⟩) := (by repeat (first | (with_reducible assumption) | ((with_reducible refine Blk.new ?_); · first | omega | (simp; done) | (simp; omega)) | (with_reducible apply Blk.set4) | (with_reducible apply Blk.set3) | (with_reducible apply Blk.set2) | ((with_reducible refine Blk.put ?_ ?_); · first | omega | (simp; omega)) | (with_reducible refine Blk.old ?_) | (with_reducible refine Blk.drew ?_) | (with_reducible refine Blk.drewN ?_) | ((with_reducible refine Blk.below hb ?_ ?_); · first | omega | (simp; done) | (simp; omega))))
        have lB1 := B1.lt
        have kw1 : Below w.heap.size w w1 := (by repeat (first | (with_reducible exact Below.refl _ _) | (with_reducible assumption) | (with_reducible refine Below.drew ?_) | (with_reducible refine Below.drewN ?_) | ((with_reducible refine Below.al ?_ ?_); · first | omega | (simp; done) | (simp; omega)) | ((with_reducible refine Below.sc ?_ ?_); · first | omega | (simp; done) | (simp; omega)) | ((with_reducible refine Below.thru hb ?_ ?_); · first | omega | (simp; done) | (simp; omega))))
        have sw1 := kw1.size
        clear hb
        have q0 := B0.t
        go_wp2_with (go_at_call 31; refine (within_any _ _ _ _).mono ?_; rintro e w' ⟨rfl, rfl⟩)
        refine (neighbour_any t i _ hs hi).mono ?_
        rintro e w2 ⟨rfl, hb⟩
        have D1 : Blk w2 (w.heap.size + 1) 36 (tcs ⟨0, 0, 0⟩) := (by repeat (first | (with_reducible assumption) | ((with_reducible refine Blk.new ?_); · first | omega | (simp; done) | (simp; omega)) | (with_reducible apply Blk.set4) | (with_reducible apply Blk.set3) | (with_reducible apply Blk.set2) | ((with_reducible refine Blk.put ?_ ?_); · first | omega | (simp; omega)) | (with_reducible refine Blk.old ?_) | (with_reducible refine Blk.drew ?_) | (with_reducible refine Blk.drewN ?_) | ((with_reducible refine Blk.below hb ?_ ?_); · first | omega | (simp; done) | (simp; omega))))
        have kw2 : Below w.heap.size w w2 := (by repeat (first | (with_reducible exact Below.refl _ _) | (with_reducible assumption) | (with_reducible refine Below.drew ?_) | (with_reducible refine Below.drewN ?_) | ((with_reducible refine Below.al ?_ ?_); · first | omega | (simp; done) | (simp; omega)) | ((with_reducible refine Below.sc ?_ ?_); · first | omega | (simp; done) | (simp; omega)) | ((with_reducible refine Below.thru hb ?_ ?_); · first | omega | (simp; done) | (simp; omega))))
        have sw2 := kw2.size
        have lD1 := D1.lt
        clear hb B0 B1 q0 hs hi h1 h2
        have q1 := D1.t
        have f1 := D1.tf
        go_wp2
        refine ret_at (v := .tuple #[tv (t.nb i), .int .i64 0]) (fun w' => Blk w' (w.heap.size + 1) 36 (tcs (t.nb i))) (by repeat (first | (with_reducible assumption) | ((with_reducible refine Blk.new ?_); · first | omega | (simp; done) | (simp; omega)) | (with_reducible apply Blk.set4) | (with_reducible apply Blk.set3) | (with_reducible apply Blk.set2) | ((with_reducible refine Blk.put ?_ ?_); · first | omega | (simp; omega)) | (with_reducible refine Blk.old ?_) | (with_reducible refine Blk.drew ?_) | (with_reducible refine Blk.drewN ?_) | ((with_reducible refine Blk.below hb ?_ ?_); · first | omega | (simp; done) | (simp; omega)))) (fun w' hB => by have q := hB.t; simp [results, Try.results18, go_sem, q]) rfl ?_
        exact ⟨by rw [HF.out], (by repeat (first | (with_reducible exact Below.refl _ _) | (with_reducible assumption) | (with_reducible refine Below.drew ?_) | (with_reducible refine Below.drewN ?_) | ((with_reducible refine Below.al ?_ ?_); · first | omega | (simp; done) | (simp; omega)) | ((with_reducible refine Below.sc ?_ ?_); · first | omega | (simp; done) | (simp; omega)) | ((with_reducible refine Below.thru hb ?_ ?_); · first | omega | (simp; done) | (simp; omega))))⟩
      · have HF := Lib.hid (show nbR t i = (⟨0, 0, 0⟩, 3) by simp [nbR, h1, h2, h3])
        go_enter Try.func18, Try.ntmps18
        go_wp2_with fail
        refine (IsTriple_t t _).mono ?_
        rintro e w1 ⟨rfl, hb⟩
        have B0 : Blk w1 (w.heap.size) 36 (tcs t) := (by repeat (first | (with_reducible assumption) | ((with_reducible refine Blk.new ?_); · first | omega | (simp; done) | (simp; omega)) | (with_reducible apply Blk.set4) | (with_reducible apply Blk.set3) | (with_reducible apply Blk.set2) | ((with_reducible refine Blk.put ?_ ?_); · first | omega | (simp; omega)) | (with_reducible refine Blk.old ?_) | (with_reducible refine Blk.drew ?_) | (with_reducible refine Blk.drewN ?_) | ((with_reducible refine Blk.below hb ?_ ?_); · first | omega | (simp; done) | (simp; omega))))
        have lB0 := B0.lt
        have B1 : Blk w1 (w.heap.size + 1) 36 (tcs ⟨0, 0, 0⟩) := (by repeat (first | (with_reducible assumption) | ((with_reducible refine Blk.new ?_); · first | omega | (simp; done) | (simp; omega)) | (with_reducible apply Blk.set4) | (with_reducible apply Blk.set3) | (with_reducible apply Blk.set2) | ((with_reducible refine Blk.put ?_ ?_); · first | omega | (simp; omega)) | (with_reducible refine Blk.old ?_) | (with_reducible refine Blk.drew ?_) | (with_reducible refine Blk.drewN ?_) | ((with_reducible refine Blk.below hb ?_ ?_); · first | omega | (simp; done) | (simp; omega))))
        have lB1 := B1.lt
        have kw1 : Below w.heap.size w w1 := (by repeat (first | (with_reducible exact Below.refl _ _) | (with_reducible assumption) | (with_reducible refine Below.drew ?_) | (with_reducible refine Below.drewN ?_) | ((with_reducible refine Below.al ?_ ?_); · first | omega | (simp; done) | (simp; omega)) | ((with_reducible refine Below.sc ?_ ?_); · first | omega | (simp; done) | (simp; omega)) | ((with_reducible refine Below.thru hb ?_ ?_); · first | omega | (simp; done) | (simp; omega))))
        have sw1 := kw1.size
        clear hb
        have q0 := B0.t
        go_wp2_with (go_at_call 31; refine (within_any _ _ _ _).mono ?_; rintro e w' ⟨rfl, rfl⟩)
        refine (neighbour_any t i _ hs hi).mono ?_
        rintro e w2 ⟨rfl, hb⟩
        have D1 : Blk w2 (w.heap.size + 1) 36 (tcs ⟨0, 0, 0⟩) := (by repeat (first | (with_reducible assumption) | ((with_reducible refine Blk.new ?_); · first | omega | (simp; done) | (simp; omega)) | (with_reducible apply Blk.set4) | (with_reducible apply Blk.set3) | (with_reducible apply Blk.set2) | ((with_reducible refine Blk.put ?_ ?_); · first | omega | (simp; omega)) | (with_reducible refine Blk.old ?_) | (with_reducible refine Blk.drew ?_) | (with_reducible refine Blk.drewN ?_) | ((with_reducible refine Blk.below hb ?_ ?_); · first | omega | (simp; done) | (simp; omega))))
        have kw2 : Below w.heap.size w w2 := (by repeat (first | (with_reducible exact Below.refl _ _) | (with_reducible assumption) | (with_reducible refine Below.drew ?_) | (with_reducible refine Below.drewN ?_) | ((with_reducible refine Below.al ?_ ?_); · first | omega | (simp; done) | (simp; omega)) | ((with_reducible refine Below.sc ?_ ?_); · first | omega | (simp; done) | (simp; omega)) | ((with_reducible refine Below.thru hb ?_ ?_); · first | omega | (simp; done) | (simp; omega))))
        have sw2 := kw2.size
        have lD1 := D1.lt
        clear hb B0 B1 q0 hs hi h1 h2
        have q1 := D1.t
        have f1 := D1.tf
        go_wp2
        refine ret_at (v := .tuple #[tv ⟨0, 0, 0⟩, .int .i64 3]) (fun w' => Blk w' (w.heap.size + 1) 36 (tcs ⟨0, 0, 0⟩)) (by repeat (first | (with_reducible assumption) | ((with_reducible refine Blk.new ?_); · first | omega | (simp; done) | (simp; omega)) | (with_reducible apply Blk.set4) | (with_reducible apply Blk.set3) | (with_reducible apply Blk.set2) | ((with_reducible refine Blk.put ?_ ?_); · first | omega | (simp; omega)) | (with_reducible refine Blk.old ?_) | (with_reducible refine Blk.drew ?_) | (with_reducible refine Blk.drewN ?_) | ((with_reducible refine Blk.below hb ?_ ?_); · first | omega | (simp; done) | (simp; omega)))) (fun w' hB => by have q := hB.t; simp [results, Try.results18, go_sem, q]) rfl ?_
        exact ⟨by rw [HF.out], (by repeat (first | (with_reducible exact Below.refl _ _) | (with_reducible assumption) | (with_reducible refine Below.drew ?_) | (with_reducible refine Below.drewN ?_) | ((with_reducible refine Below.al ?_ ?_); · first | omega | (simp; done) | (simp; omega)) | ((with_reducible refine Below.sc ?_ ?_); · first | omega | (simp; done) | (simp; omega)) | ((with_reducible refine Below.thru hb ?_ ?_); · first | omega | (simp; done) | (simp; omega))))⟩

end Go.Proofs.Ytbmkpcenjjdflaa

/- The way down from a triple: plain law. -/
namespace Go.Proofs.Ytbmkpcenjjdflaa
open Go.RowKit

theorem one_le_mul {a b : Int} (h : 1 ≤ a) (k : 1 ≤ b) : 1 ≤ a * b := by
  have := Int.mul_pos (a := a) (b := b) (by omega) (by omega)
  omega
theorem sq_one {y : Int} (h : 1 ≤ y) (e : y * y = 1) : y = 1 := by
  have := Int.mul_le_mul_of_nonneg_left (a := 1) (b := y) (c := y) h (by omega)
  omega
/-- The next number stands below. -/
theorem down_num {x y z : Int} (h1 : 1 ≤ x) (h2 : x ≤ y) (h3 : y ≤ z) (e : x * x + y * y + z * z = 3 * x * y * z) (hz : 1 < z) :
    y < z ∧ 1 ≤ 3 * x * y - z ∧ 3 * x * y - z ≤ y := by
  have ex : x * x ≤ y * y := Int.mul_le_mul h2 h2 (by omega) (by omega)
  have ypos : 1 ≤ y * y := one_le_mul (by omega) (by omega)
  have xpos : 1 ≤ x * x := one_le_mul h1 h1
  have en : z * (3 * x * y - z) = x * x + y * y := by
    rw [Int.mul_sub, Int.mul_comm z (3 * x * y)]
    omega
  have hyz : y < z := by
    by_cases hc : y = z
    rotate_left
    · omega
    subst hc
    have e1 : 3 * x * y * y = 3 * (x * (y * y)) := by rw [Int.mul_assoc (3 * x) y y, Int.mul_assoc 3 x (y * y)]
    rw [e1] at e
    have e2 : 1 * (y * y) ≤ x * (y * y) := Int.mul_le_mul_of_nonneg_right h1 (by omega)
    have e3 : y * y = x * (y * y) := by omega
    have e4 : x = 1 := by
      have : (x - 1) * (y * y) = 0 := by rw [Int.sub_mul]; omega
      rcases Int.mul_eq_zero.1 this with h | h <;> omega
    subst e4
    have := sq_one (y := y) (by omega) (by omega)
    omega
  have hn1 : 1 ≤ 3 * x * y - z := by
    by_cases h : 1 ≤ 3 * x * y - z
    · exact h
    · have := Int.mul_le_mul_of_nonneg_left (a := 3 * x * y - z) (b := 0) (c := z) (by omega) (by omega)
      omega
  refine ⟨hyz, hn1, ?_⟩
  by_cases h : 3 * x * y - z ≤ y
  · exact h
  · have hp : 1 ≤ (z - y) * (3 * x * y - z - y) := one_le_mul (by omega) (by omega)
    have ee : (z - y) * (3 * x * y - z - y) = z * (3 * x * y - z) - z * y - (y * (3 * x * y) - y * z - y * y) := by
      rw [Int.sub_mul, Int.mul_sub z, Int.mul_sub y (3 * x * y - z) y, Int.mul_sub y]
    have e1 : y * (3 * x * y) = 3 * (x * (y * y)) := by rw [Int.mul_assoc 3 x y, Int.mul_left_comm y 3, Int.mul_left_comm y x y]
    have e2 : 1 * (y * y) ≤ x * (y * y) := Int.mul_le_mul_of_nonneg_right h1 (by omega)
    have e3 : z * y = y * z := Int.mul_comm _ _
    omega

theorem nb2_ok {t : T3} (h : t.ok = true) (hz : 1 < t.z) : (t.nb 2).ok = true ∧ (t.nb 2).z < t.z := by
  obtain ⟨h1, h2, h3, h4, e⟩ := T3.ok_spec h
  obtain ⟨hyz, hn1, hny⟩ := down_num h1 h2 h3 e hz
  have E : t.nb 2 = sort3 t.x t.y (3 * t.x * t.y - t.z) := by simp [T3.nb]
  rw [E]
  generalize hn : 3 * t.x * t.y - t.z = n at *
  have en : t.x * t.x + t.y * t.y + n * n = 3 * t.x * t.y * n := by
    have e1 : t.z * t.z + t.z * n = 3 * t.x * t.y * t.z := by rw [← Int.mul_add, show t.z + n = 3 * t.x * t.y by omega, Int.mul_comm]
    have e2 : n * t.z + n * n = 3 * t.x * t.y * n := by rw [← Int.mul_add, show t.z + n = 3 * t.x * t.y by omega, Int.mul_comm]
    have e3 : t.z * n = n * t.z := Int.mul_comm _ _
    omega
  have hs : sort3 t.x t.y n = if t.x ≤ n then ⟨t.x, n, t.y⟩ else ⟨n, t.x, t.y⟩ := by
    simp only [sort3]
    split <;> simp only [T3.mk.injEq] <;> omega
  rw [hs]
  have c1 : 3 * t.x * t.y * n = 3 * t.x * n * t.y := by rw [Int.mul_assoc (3 * t.x), Int.mul_comm t.y n, ← Int.mul_assoc]
  have c2 : 3 * t.x * t.y * n = 3 * n * t.x * t.y := by rw [c1, Int.mul_assoc 3 t.x n, Int.mul_comm t.x n, ← Int.mul_assoc]
  unfold T3.ok triB
  split
  · exact ⟨decide_eq_true ⟨by dsimp only; omega, by dsimp only; omega, by dsimp only; omega, by dsimp only; omega, by dsimp only; omega⟩, by dsimp only; omega⟩
  · exact ⟨decide_eq_true ⟨by dsimp only; omega, by dsimp only; omega, by dsimp only; omega, by dsimp only; omega, by dsimp only; omega⟩, by dsimp only; omega⟩

/-- The k-th triple on the way down. -/
def dn (t : T3) : Nat → T3
  | 0 => t
  | k + 1 => (dn t k).nb 2
theorem dn_inv {t : T3} (h : t.ok = true) (k : Nat) (hk : ∀ j, j < k → 1 < (dn t j).z) : (dn t k).ok = true ∧ (dn t k).z + k ≤ t.z := by
  induction k with
  | zero => exact ⟨h, by simp [dn]⟩
  | succ k ih =>
    obtain ⟨h1, h2⟩ := ih fun j hj => hk j (by omega)
    obtain ⟨h3, h4⟩ := nb2_ok h1 (hk k (by omega))
    exact ⟨h3, by show (T3.nb (dn t k) 2).z + ((k + 1 : Nat) : Int) ≤ t.z; omega⟩
theorem ok_one {t : T3} (h : t.ok = true) : t = ⟨1, 1, 1⟩ ↔ ¬ 1 < t.z := by
  obtain ⟨h1, h2, h3, h4, e⟩ := T3.ok_spec h
  constructor
  · intro h; rw [h]; decide
  · intro h
    obtain ⟨x, y, z⟩ := t
    simp only at *
    simp only [T3.mk.injEq]
    omega

/-- All triples on the way down to 1, 1, 1. -/
def dns (t : T3) (k : Nat) : List T3 := (List.range (k + 1)).map (dn t)
theorem dns_length (t : T3) (k : Nat) : (dns t k).length = k + 1 := by simp [dns]
theorem dns_succ (t : T3) (k : Nat) : dns t (k + 1) = dns t k ++ [dn t (k + 1)] := by
  unfold dns
  rw [List.range_succ, List.map_append]
  rfl
theorem dns_get (t : T3) (k j : Nat) (h : j < (dns t k).length) : (dns t k)[j] = dn t j := by simp [dns]
/-- The way ends at step k. -/
def Ends (t : T3) (k : Nat) : Prop := (∀ j, j < k → 1 < (dn t j).z) ∧ ¬ 1 < (dn t k).z
theorem Ends.unique {t : T3} {k l : Nat} (h : Ends t k) (g : Ends t l) : k = l := by
  rcases Nat.lt_trichotomy k l with e | e | e
  · exact absurd (g.1 k e) h.2
  · exact e
  · exact absurd (h.1 l e) g.2

end Go.Proofs.Ytbmkpcenjjdflaa

/- Contracts of DownPath: the way down from a triple. -/
namespace Go.Proofs.Ytbmkpcenjjdflaa
open Go.RowKit
set_option linter.unusedSimpArgs false

theorem dn_len {t : T3} (h : t.ok = true) {k : Nat} (hk : ∀ j, j < k → 1 < (dn t j).z) : k + 1 ≤ 1000000000 ∧ k + 1 ≤ t.z.toNat := by
  have h1 := dn_inv h k hk
  have h2 := T3.ok_spec h1.1
  have h3 := T3.ok_spec h
  omega
/-- What down gives: the triples on the way down, in a slice of the call's own. -/
def GivesDown (t : T3) (w : World) (e : Ending) (w' : World) : Prop := ∃ v k, e = .returned v ∧ Ends t k ∧ OwnT w' w.heap.size v (dns t k) ∧ Below w.heap.size w w'

set_option maxHeartbeats 2000000 in
theorem down_any (t : T3) (w : World) (h : t.ok = true) :
    Calls Try.prog 44 #[.agg #[.int .i64 t.x, .int .i64 t.y, .int .i64 t.z]] w (GivesDown t w) := by
  obtain ⟨i0, hi, hz0, hz1, hz2⟩ := info_parts infoT
  go_enter Try.func44, Try.ntmps44
  go_wp2
  go_loopw [3] (fun v wr => ∃ k : Nat, Hid (∀ j, j < k → 1 < (dn t j).z) ∧ Blk wr w.heap.size 36 (tcs (dn t k)) ∧ OwnT wr (w.heap.size + 1) v (dns t k) ∧ Below w.heap.size w wr) (fun v _ => t.z.toNat + 1 - lenOf v)
  case atStart => exact ⟨0, Lib.hid (fun j hj => absurd hj (by omega)), (show Blk _ _ _ (tcs t) from (by repeat (first | (with_reducible assumption) | ((with_reducible refine Blk.new ?_); · first | omega | (simp; done) | (simp; omega)) | (with_reducible apply Blk.set4) | (with_reducible apply Blk.set3) | (with_reducible apply Blk.set2) | ((with_reducible refine Blk.put ?_ ?_); · first | omega | (simp; omega)) | (with_reducible refine Blk.old ?_) | (with_reducible refine Blk.drew ?_) | (with_reducible refine Blk.drewN ?_) | ((with_reducible refine Blk.below hb ?_ ?_); · first | omega | (simp; done) | (simp; omega))))), OwnK.of_blk (xs := dns t 0) (Blk.new (by simp)) (by omega) rfl (by simp [dns, maxLen]), (by repeat (first | (with_reducible exact Below.refl _ _) | (with_reducible assumption) | (with_reducible refine Below.drew ?_) | (with_reducible refine Below.drewN ?_) | ((with_reducible refine Below.al ?_ ?_); · first | omega | (simp; done) | (simp; omega)) | ((with_reducible refine Below.sc ?_ ?_); · first | omega | (simp; done) | (simp; omega)) | ((with_reducible refine Below.thru hb ?_ ?_); · first | omega | (simp; done) | (simp; omega))))⟩
  case round =>
    obtain ⟨k, hk, B, O, kwr⟩ := hrel
    have h1 := (dn_inv h k hk.out).1
    have hlen := dn_len h hk.out
    have q := B.t
    have lB := B.lt
    have swr := kwr.size
    by_cases hz : 1 < (dn t k).z
    · have hs := T3.ok_small h1
      go_wp2_with fail
      refine (neighbour_any (dn t k) 2 _ hs (.inr (.inr rfl))).mono ?_
      rw [show (dn t k).nb 2 = dn t (k + 1) from rfl]
      rintro e w1 ⟨rfl, hb⟩
      have B1 : Blk w1 w.heap.size 36 (tcs (dn t k)) := (by repeat (first | (with_reducible assumption) | ((with_reducible refine Blk.new ?_); · first | omega | (simp; done) | (simp; omega)) | (with_reducible apply Blk.set4) | (with_reducible apply Blk.set3) | (with_reducible apply Blk.set2) | ((with_reducible refine Blk.put ?_ ?_); · first | omega | (simp; omega)) | (with_reducible refine Blk.old ?_) | (with_reducible refine Blk.drew ?_) | (with_reducible refine Blk.drewN ?_) | ((with_reducible refine Blk.below hb ?_ ?_); · first | omega | (simp; done) | (simp; omega))))
      have O1 : OwnT w1 (w.heap.size + 1) u3 (dns t k) := O.below hb
      have kw1 : Below w.heap.size w w1 := (by repeat (first | (with_reducible exact Below.refl _ _) | (with_reducible assumption) | (with_reducible refine Below.drew ?_) | (with_reducible refine Below.drewN ?_) | ((with_reducible refine Below.al ?_ ?_); · first | omega | (simp; done) | (simp; omega)) | ((with_reducible refine Below.sc ?_ ?_); · first | omega | (simp; done) | (simp; omega)) | ((with_reducible refine Below.thru hb ?_ ?_); · first | omega | (simp; done) | (simp; omega))))
      have sw1 := kw1.size
      have lB1 := B1.lt
      have q1 := B1.t
      have f1 := B1.tf
      have H := Lib.hid (And.intro B1 (And.intro O1 kw1))
      clear hb B O kwr lB swr q hs B1 O1 kw1
      go_wp2_with (at_builtin; refine wpList_app encT rfl _ _ 22 36 24 rfl Try.underlying22 i0 _ hi hz0 hz1 hz2 rfl u3 (dns t k) (w.heap.size + 1) w1.heap.size 1 (tcs (dn t (k + 1))) [dn t (k + 1)] rfl ?o1 rfl ?b1 rfl ?l1 ?l2 ?l3 ?_)
      case o1 =>
        have O1 := H.out.2.1
        exact (by repeat (first | (with_reducible assumption) | (with_reducible refine Own.drew ?_) | (with_reducible refine Own.drewN ?_) | (with_reducible refine Own.alloc ?_) | (with_reducible refine OwnK.drew ?_) | (with_reducible refine OwnK.drewN ?_) | (with_reducible refine OwnK.alloc ?_) | ((with_reducible refine OwnK.put ?_ ?_); · first | omega | (simp; done) | (simp; omega)) | ((with_reducible refine Own.below hb ?_)) | ((with_reducible refine OwnK.below hb ?_))))
      case b1 => exact Blk.new (by simp)
      case l1 => rw [dns_length]; simp only [List.length_cons, List.length_nil, maxLen]; omega
      case l2 => rw [dns_length]; simp only [List.length_cons, List.length_nil]; omega
      case l3 => simp; omega
      intro v' w2 O2 hg
      have B1 := H.out.1
      have O1 := H.out.2.1
      have kw1 := H.out.2.2
      have B2 : Blk w2 w.heap.size 36 (tcs (dn t (k + 1))) := Blk.grownK hg (e := encT) (E := 36) (B := w.heap.size + 1) (xs := dns t k) (by repeat (first | (with_reducible assumption) | (with_reducible refine Own.drew ?_) | (with_reducible refine Own.drewN ?_) | (with_reducible refine Own.alloc ?_) | (with_reducible refine OwnK.drew ?_) | (with_reducible refine OwnK.drewN ?_) | (with_reducible refine OwnK.alloc ?_) | ((with_reducible refine OwnK.put ?_ ?_); · first | omega | (simp; done) | (simp; omega)) | ((with_reducible refine Own.below hb ?_)) | ((with_reducible refine OwnK.below hb ?_)))) (by omega) (by repeat (first | (with_reducible assumption) | ((with_reducible refine Blk.new ?_); · first | omega | (simp; done) | (simp; omega)) | (with_reducible apply Blk.set4) | (with_reducible apply Blk.set3) | (with_reducible apply Blk.set2) | ((with_reducible refine Blk.put ?_ ?_); · first | omega | (simp; omega)) | (with_reducible refine Blk.old ?_) | (with_reducible refine Blk.drew ?_) | (with_reducible refine Blk.drewN ?_) | ((with_reducible refine Blk.below hb ?_ ?_); · first | omega | (simp; done) | (simp; omega))))
      have kw2 : Below w.heap.size w w2 := Below.grownK hg (e := encT) (E := 36) (B := w.heap.size + 1) (xs := dns t k) (by repeat (first | (with_reducible assumption) | (with_reducible refine Own.drew ?_) | (with_reducible refine Own.drewN ?_) | (with_reducible refine Own.alloc ?_) | (with_reducible refine OwnK.drew ?_) | (with_reducible refine OwnK.drewN ?_) | (with_reducible refine OwnK.alloc ?_) | ((with_reducible refine OwnK.put ?_ ?_); · first | omega | (simp; done) | (simp; omega)) | ((with_reducible refine Own.below hb ?_)) | ((with_reducible refine OwnK.below hb ?_)))) (by omega) (by simp; omega) (by repeat (first | (with_reducible exact Below.refl _ _) | (with_reducible assumption) | (with_reducible refine Below.drew ?_) | (with_reducible refine Below.drewN ?_) | ((with_reducible refine Below.al ?_ ?_); · first | omega | (simp; done) | (simp; omega)) | ((with_reducible refine Below.sc ?_ ?_); · first | omega | (simp; done) | (simp; omega)) | ((with_reducible refine Below.thru hb ?_ ?_); · first | omega | (simp; done) | (simp; omega))))
      have len1 := O1.lenOf
      have len2 := O2.lenOf
      rw [← dns_succ] at O2 len2
      rw [dns_length] at len1 len2
      clear hg B1 O1 kw1 H
      go_wp2
      go_roundw
      case rel => exact ⟨k + 1, Lib.hid (fun j hj => if e : j < k then hk.out j e else (show j = k by omega) ▸ hz), B2, O2, kw2⟩
      case measure => rw [len1, len2]; omega
    · go_wp2
      refine bodyPost_ret (v := u3) (by simp [results, Try.results44, go_sem]) rfl ?_
      exact ⟨u3, k, rfl, ⟨hk.out, by omega⟩, O.mono (by omega), kwr⟩

/-- What DownPath gives. -/
def GivesPath (t : T3) (w : World) (e : Ending) (w' : World) : Prop :=
  ∃ v xs c, e = .returned (.tuple #[v, .int .i64 c]) ∧ (if t.ok then c = 0 ∧ ∃ k, Ends t k ∧ xs = dns t k else c = 1 ∧ xs = []) ∧ OwnT w' w.heap.size v xs ∧ Below w.heap.size w w'

set_option maxHeartbeats 2000000 in
theorem DownPath_any (t : T3) (w : World) :
    Calls Try.prog 23 #[.agg #[.int .i64 t.x, .int .i64 t.y, .int .i64 t.z]] w (GivesPath t w) := by
  cases h1 : t.ok with
  | false =>
    go_enter Try.func23, Try.ntmps23
    go_wp2_with fail
    refine (IsTriple_t t _).mono ?_
    rintro e w1 ⟨rfl, hb⟩
    have kw1 : Below w.heap.size w w1 := (by repeat (first | (with_reducible exact Below.refl _ _) | (with_reducible assumption) | (with_reducible refine Below.drew ?_) | (with_reducible refine Below.drewN ?_) | ((with_reducible refine Below.al ?_ ?_); · first | omega | (simp; done) | (simp; omega)) | ((with_reducible refine Below.sc ?_ ?_); · first | omega | (simp; done) | (simp; omega)) | ((with_reducible refine Below.thru hb ?_ ?_); · first | omega | (simp; done) | (simp; omega))))
    have sw1 := kw1.size
    clear hb
    go_wp2
    go_ret2
    exact ⟨_, [], 1, rfl, by rw [h1]; exact ⟨rfl, rfl⟩, OwnK.nil _ _, kw1⟩
  | true =>
    go_enter Try.func23, Try.ntmps23
    go_wp2_with fail
    refine (IsTriple_t t _).mono ?_
    rintro e w1 ⟨rfl, hb⟩
    have B1 : Blk w1 (w.heap.size) 36 (tcs t) := (by repeat (first | (with_reducible assumption) | ((with_reducible refine Blk.new ?_); · first | omega | (simp; done) | (simp; omega)) | (with_reducible apply Blk.set4) | (with_reducible apply Blk.set3) | (with_reducible apply Blk.set2) | ((with_reducible refine Blk.put ?_ ?_); · first | omega | (simp; omega)) | (with_reducible refine Blk.old ?_) | (with_reducible refine Blk.drew ?_) | (with_reducible refine Blk.drewN ?_) | ((with_reducible refine Blk.below hb ?_ ?_); · first | omega | (simp; done) | (simp; omega))))
    have lB1 := B1.lt
    have kw1 : Below w.heap.size w w1 := (by repeat (first | (with_reducible exact Below.refl _ _) | (with_reducible assumption) | (with_reducible refine Below.drew ?_) | (with_reducible refine Below.drewN ?_) | ((with_reducible refine Below.al ?_ ?_); · first | omega | (simp; done) | (simp; omega)) | ((with_reducible refine Below.sc ?_ ?_); · first | omega | (simp; done) | (simp; omega)) | ((with_reducible refine Below.thru hb ?_ ?_); · first | omega | (simp; done) | (simp; omega))))
    have sw1 := kw1.size
    clear hb
    have q1 := B1.t
    go_wp2_with fail
    refine (down_any t _ h1).mono ?_
    rintro e w2 ⟨v, k, rfl, hk, O, hb⟩
    have kw2 : Below w.heap.size w w2 := (by repeat (first | (with_reducible exact Below.refl _ _) | (with_reducible assumption) | (with_reducible refine Below.drew ?_) | (with_reducible refine Below.drewN ?_) | ((with_reducible refine Below.al ?_ ?_); · first | omega | (simp; done) | (simp; omega)) | ((with_reducible refine Below.sc ?_ ?_); · first | omega | (simp; done) | (simp; omega)) | ((with_reducible refine Below.thru hb ?_ ?_); · first | omega | (simp; done) | (simp; omega))))
    clear hb
    go_wp2
    go_ret2
    exact ⟨_, dns t k, 0, rfl, by rw [h1]; exact ⟨rfl, k, hk, rfl⟩, O.mono (by omega), kw2⟩

set_option maxHeartbeats 2000000 in
theorem specDownPath_any (t : T3) (w : World) :
    Calls Try.prog 24 #[.agg #[.int .i64 t.x, .int .i64 t.y, .int .i64 t.z]] w (GivesPath t w) := by
  cases h1 : t.ok with
  | false =>
    go_enter Try.func24, Try.ntmps24
    go_wp2_with fail
    refine (l09Is_t t _).mono ?_
    rintro e w1 ⟨rfl, hb⟩
    have kw1 : Below w.heap.size w w1 := (by repeat (first | (with_reducible exact Below.refl _ _) | (with_reducible assumption) | (with_reducible refine Below.drew ?_) | (with_reducible refine Below.drewN ?_) | ((with_reducible refine Below.al ?_ ?_); · first | omega | (simp; done) | (simp; omega)) | ((with_reducible refine Below.sc ?_ ?_); · first | omega | (simp; done) | (simp; omega)) | ((with_reducible refine Below.thru hb ?_ ?_); · first | omega | (simp; done) | (simp; omega))))
    have sw1 := kw1.size
    clear hb
    go_wp2
    go_ret2
    exact ⟨_, [], 1, rfl, by rw [h1]; exact ⟨rfl, rfl⟩, OwnK.nil _ _, kw1⟩
  | true =>
    obtain ⟨i0, hi, hz0, hz1, hz2⟩ := info_parts infoT
    go_enter Try.func24, Try.ntmps24
    go_wp2_with fail
    refine (l09Is_t t _).mono ?_
    rintro e w1 ⟨rfl, hb⟩
    have B1 : Blk w1 (w.heap.size) 36 (tcs t) := (by repeat (first | (with_reducible assumption) | ((with_reducible refine Blk.new ?_); · first | omega | (simp; done) | (simp; omega)) | (with_reducible apply Blk.set4) | (with_reducible apply Blk.set3) | (with_reducible apply Blk.set2) | ((with_reducible refine Blk.put ?_ ?_); · first | omega | (simp; omega)) | (with_reducible refine Blk.old ?_) | (with_reducible refine Blk.drew ?_) | (with_reducible refine Blk.drewN ?_) | ((with_reducible refine Blk.below hb ?_ ?_); · first | omega | (simp; done) | (simp; omega))))
    have lB1 := B1.lt
    have kw1 : Below w.heap.size w w1 := (by repeat (first | (with_reducible exact Below.refl _ _) | (with_reducible assumption) | (with_reducible refine Below.drew ?_) | (with_reducible refine Below.drewN ?_) | ((with_reducible refine Below.al ?_ ?_); · first | omega | (simp; done) | (simp; omega)) | ((with_reducible refine Below.sc ?_ ?_); · first | omega | (simp; done) | (simp; omega)) | ((with_reducible refine Below.thru hb ?_ ?_); · first | omega | (simp; done) | (simp; omega))))
    have sw1 := kw1.size
    clear hb
    have q1 := B1.t
    have H1 := Lib.hid h1
    go_wp2
    refine forget (fun W_ => Below w.heap.size w W_ ∧ Blk W_ (w.heap.size) 36 (tcs t) ∧ Blk W_ (w1.heap.size) 36 (tcs t)) ⟨(by repeat (first | (with_reducible exact Below.refl _ _) | (with_reducible assumption) | (with_reducible refine Below.drew ?_) | (with_reducible refine Below.drewN ?_) | ((with_reducible refine Below.al ?_ ?_); · first | omega | (simp; done) | (simp; omega)) | ((with_reducible refine Below.sc ?_ ?_); · first | omega | (simp; done) | (simp; omega)) | ((with_reducible refine Below.thru hb ?_ ?_); · first | omega | (simp; done) | (simp; omega)))), (by repeat (first | (with_reducible assumption) | ((with_reducible refine Blk.new ?_); · first | omega | (simp; done) | (simp; omega)) | (with_reducible apply Blk.set4) | (with_reducible apply Blk.set3) | (with_reducible apply Blk.set2) | ((with_reducible refine Blk.put ?_ ?_); · first | omega | (simp; omega)) | (with_reducible refine Blk.old ?_) | (with_reducible refine Blk.drew ?_) | (with_reducible refine Blk.drewN ?_) | ((with_reducible refine Blk.below hb ?_ ?_); · first | omega | (simp; done) | (simp; omega)))), (by repeat (first | (with_reducible assumption) | ((with_reducible refine Blk.new ?_); · first | omega | (simp; done) | (simp; omega)) | (with_reducible apply Blk.set4) | (with_reducible apply Blk.set3) | (with_reducible apply Blk.set2) | ((with_reducible refine Blk.put ?_ ?_); · first | omega | (simp; omega)) | (with_reducible refine Blk.old ?_) | (with_reducible refine Blk.drew ?_) | (with_reducible refine Blk.drewN ?_) | ((with_reducible refine Blk.below hb ?_ ?_); · first | omega | (simp; done) | (simp; omega))))⟩ ?_
    rintro w2 ⟨kw2, B2, B3⟩
    have sw2 := kw2.size
    have lB2 := B2.lt
    have lB3 := B3.lt
    have O2 : OwnT w2 (w.heap.size + 1) (.slice (some ⟨w1.heap.size, 0, none⟩) 1 1) (dns t 0) := OwnK.of_blk (xs := dns t 0) B3 (by omega) rfl (by simp [dns, maxLen])
    clear B1 B3 lB1 kw1 sw1 q1
    go_loopw [4] (fun v wr => ∃ k : Nat, Hid (∀ j, j < k → 1 < (dn t j).z) ∧ Blk wr w.heap.size 36 (tcs (dn t k)) ∧ OwnT wr (w.heap.size + 1) v (dns t k) ∧ Below w.heap.size w wr) (fun v _ => t.z.toNat + 1 - lenOf v)
    case atStart => exact ⟨0, Lib.hid (fun j hj => absurd hj (by omega)), B2, O2, kw2⟩
    case round =>
      clear B2 O2 kw2 sw2 lB2 lB3
      obtain ⟨k, hk, B, O, kwr⟩ := hrel
      have h2 := (dn_inv H1.out k hk.out).1
      have hlen := dn_len H1.out hk.out
      have q := B.t
      have lB := B.lt
      have swr := kwr.size
      have hE := run_equalInT (dn t k) ⟨1, 1, 1⟩
      have hone := ok_one h2
      by_cases hz : 1 < (dn t k).z
      · have hs := T3.ok_small h2
        rw [decide_eq_false (fun e => hone.1 e hz)] at hE
        clear hone
        go_wp2_with fail
        clear hE
        refine (l09Neighbour_any (dn t k) 2 _ hs (.inr (.inr rfl))).mono ?_
        rw [show (dn t k).nb 2 = dn t (k + 1) from rfl]
        rintro e w3 ⟨rfl, hb⟩
        have B1 : Blk w3 w.heap.size 36 (tcs (dn t k)) := (by repeat (first | (with_reducible assumption) | ((with_reducible refine Blk.new ?_); · first | omega | (simp; done) | (simp; omega)) | (with_reducible apply Blk.set4) | (with_reducible apply Blk.set3) | (with_reducible apply Blk.set2) | ((with_reducible refine Blk.put ?_ ?_); · first | omega | (simp; omega)) | (with_reducible refine Blk.old ?_) | (with_reducible refine Blk.drew ?_) | (with_reducible refine Blk.drewN ?_) | ((with_reducible refine Blk.below hb ?_ ?_); · first | omega | (simp; done) | (simp; omega))))
        have O1 : OwnT w3 (w.heap.size + 1) u4 (dns t k) := O.below hb
        have kw3 : Below w.heap.size w w3 := (by repeat (first | (with_reducible exact Below.refl _ _) | (with_reducible assumption) | (with_reducible refine Below.drew ?_) | (with_reducible refine Below.drewN ?_) | ((with_reducible refine Below.al ?_ ?_); · first | omega | (simp; done) | (simp; omega)) | ((with_reducible refine Below.sc ?_ ?_); · first | omega | (simp; done) | (simp; omega)) | ((with_reducible refine Below.thru hb ?_ ?_); · first | omega | (simp; done) | (simp; omega))))
        have sw3 := kw3.size
        have lB1 := B1.lt
        have q1 := B1.t
        have f1 := B1.tf
        have H := Lib.hid (And.intro B1 (And.intro O1 kw3))
        clear hb B O kwr lB swr q hs B1 O1 kw3
        go_wp2_with (at_builtin; refine wpList_app encT rfl _ _ 22 36 24 rfl Try.underlying22 i0 _ hi hz0 hz1 hz2 rfl u4 (dns t k) (w.heap.size + 1) w3.heap.size 1 (tcs (dn t (k + 1))) [dn t (k + 1)] rfl ?o1 rfl ?b1 rfl ?l1 ?l2 ?l3 ?_)
        case o1 =>
          have O1 := H.out.2.1
          exact (by repeat (first | (with_reducible assumption) | (with_reducible refine Own.drew ?_) | (with_reducible refine Own.drewN ?_) | (with_reducible refine Own.alloc ?_) | (with_reducible refine OwnK.drew ?_) | (with_reducible refine OwnK.drewN ?_) | (with_reducible refine OwnK.alloc ?_) | ((with_reducible refine OwnK.put ?_ ?_); · first | omega | (simp; done) | (simp; omega)) | ((with_reducible refine Own.below hb ?_)) | ((with_reducible refine OwnK.below hb ?_))))
        case b1 => exact Blk.new (by simp)
        case l1 => rw [dns_length]; simp only [List.length_cons, List.length_nil, maxLen]; omega
        case l2 => rw [dns_length]; simp only [List.length_cons, List.length_nil]; omega
        case l3 => simp; omega
        intro v' w4 O2 hg
        have B1 := H.out.1
        have O1 := H.out.2.1
        have kw3 := H.out.2.2
        have B2 : Blk w4 w.heap.size 36 (tcs (dn t (k + 1))) := Blk.grownK hg (e := encT) (E := 36) (B := w.heap.size + 1) (xs := dns t k) (by repeat (first | (with_reducible assumption) | (with_reducible refine Own.drew ?_) | (with_reducible refine Own.drewN ?_) | (with_reducible refine Own.alloc ?_) | (with_reducible refine OwnK.drew ?_) | (with_reducible refine OwnK.drewN ?_) | (with_reducible refine OwnK.alloc ?_) | ((with_reducible refine OwnK.put ?_ ?_); · first | omega | (simp; done) | (simp; omega)) | ((with_reducible refine Own.below hb ?_)) | ((with_reducible refine OwnK.below hb ?_)))) (by omega) (by repeat (first | (with_reducible assumption) | ((with_reducible refine Blk.new ?_); · first | omega | (simp; done) | (simp; omega)) | (with_reducible apply Blk.set4) | (with_reducible apply Blk.set3) | (with_reducible apply Blk.set2) | ((with_reducible refine Blk.put ?_ ?_); · first | omega | (simp; omega)) | (with_reducible refine Blk.old ?_) | (with_reducible refine Blk.drew ?_) | (with_reducible refine Blk.drewN ?_) | ((with_reducible refine Blk.below hb ?_ ?_); · first | omega | (simp; done) | (simp; omega))))
        have kw4 : Below w.heap.size w w4 := Below.grownK hg (e := encT) (E := 36) (B := w.heap.size + 1) (xs := dns t k) (by repeat (first | (with_reducible assumption) | (with_reducible refine Own.drew ?_) | (with_reducible refine Own.drewN ?_) | (with_reducible refine Own.alloc ?_) | (with_reducible refine OwnK.drew ?_) | (with_reducible refine OwnK.drewN ?_) | (with_reducible refine OwnK.alloc ?_) | ((with_reducible refine OwnK.put ?_ ?_); · first | omega | (simp; done) | (simp; omega)) | ((with_reducible refine Own.below hb ?_)) | ((with_reducible refine OwnK.below hb ?_)))) (by omega) (by simp; omega) (by repeat (first | (with_reducible exact Below.refl _ _) | (with_reducible assumption) | (with_reducible refine Below.drew ?_) | (with_reducible refine Below.drewN ?_) | ((with_reducible refine Below.al ?_ ?_); · first | omega | (simp; done) | (simp; omega)) | ((with_reducible refine Below.sc ?_ ?_); · first | omega | (simp; done) | (simp; omega)) | ((with_reducible refine Below.thru hb ?_ ?_); · first | omega | (simp; done) | (simp; omega))))
        have len1 := O1.lenOf
        have len2 := O2.lenOf
        rw [← dns_succ] at O2 len2
        rw [dns_length] at len1 len2
        clear hg B1 O1 kw3 H
        go_wp2
        go_roundw
        case rel => exact ⟨k + 1, Lib.hid (fun j hj => if e : j < k then hk.out j e else (show j = k by omega) ▸ hz), B2, O2, kw4⟩
        case measure => rw [len1, len2]; omega
      · rw [decide_eq_true (hone.2 hz)] at hE
        clear hone
        go_wp2
        go_ret2
        exact ⟨_, dns t k, 0, rfl, by rw [h1]; exact ⟨rfl, k, ⟨hk.out, by omega⟩, rfl⟩, O.mono (by omega), kwr⟩

end Go.Proofs.Ytbmkpcenjjdflaa

/- Neighbours of neighbours come back (plain law). -/
namespace Go.Proofs.Ytbmkpcenjjdflaa
open Go.RowKit
set_option linter.unusedSimpArgs false

theorem sort3_of {a b c : Int} (h1 : a ≤ b) (h2 : b ≤ c) : sort3 a b c = ⟨a, b, c⟩ := by
  simp only [sort3, T3.mk.injEq]
  refine ⟨?_, ?_, ?_⟩ <;> omega
theorem sort3_swap (a b c : Int) : sort3 b a c = sort3 a b c := by
  simp only [sort3, T3.mk.injEq]
  refine ⟨?_, ?_, ?_⟩ <;> omega
/-- Three numbers, two of them in order: where the third one stands, and what replacing it gives. -/
theorem sort3_back {a b n : Int} (h : a ≤ b) : ∃ k : Int, (k = 0 ∨ k = 1 ∨ k = 2) ∧ (sort3 a b n).nb k = sort3 a b (3 * a * b - n) := by
  by_cases h1 : n ≤ a
  · refine ⟨0, .inl rfl, ?_⟩
    have e : sort3 a b n = ⟨n, a, b⟩ := by
      rw [← sort3_perm a b n]
      exact sort3_of h1 h
    rw [e]
    simp [T3.nb]
  · by_cases h2 : n ≤ b
    · refine ⟨1, .inr (.inl rfl), ?_⟩
      have e : sort3 a b n = ⟨a, n, b⟩ := by
        rw [← sort3_perm a b n, sort3_swap]
        exact sort3_of (by omega) h2
      rw [e]
      have e2 : 3 * b * a = 3 * a * b := by grind
      simp only [T3.nb]
      rw [if_neg (by decide), if_pos trivial, e2, sort3_swap]
    · refine ⟨2, .inr (.inr rfl), ?_⟩
      have e : sort3 a b n = ⟨a, b, n⟩ := sort3_of h (by omega)
      rw [e]
      simp only [T3.nb]
      rw [if_neg (by decide), if_neg (by decide)]
/-- The two numbers that stay, the new one, the old one. -/
theorem nb_form {t : T3} (h : t.ok = true) {i : Int} (hi : i = 0 ∨ i = 1 ∨ i = 2) : ∃ a b n r : Int, 1 ≤ a ∧ a ≤ b ∧ 1 ≤ r ∧ n = 3 * a * b - r ∧ t.nb i = sort3 a b n ∧ sort3 a b r = t ∧ a * a + b * b + r * r = 3 * a * b * r := by
  obtain ⟨h1, h2, h3, h4, h5⟩ := T3.ok_spec h
  rcases hi with rfl | rfl | rfl
  · refine ⟨t.y, t.z, 3 * t.y * t.z - t.x, t.x, by omega, h3, h1, rfl, by simp [T3.nb], ?_, by grind⟩
    rw [← sort3_perm]
    exact sort3_of h2 h3
  · refine ⟨t.x, t.z, 3 * t.x * t.z - t.y, t.y, h1, by omega, by omega, rfl, ?_, ?_, by grind⟩
    · simp only [T3.nb]
      rw [if_neg (by decide), if_pos trivial, sort3_swap, show 3 * t.z * t.x = 3 * t.x * t.z by grind]
    · rw [← sort3_perm, sort3_swap]
      exact sort3_of h2 h3
  · refine ⟨t.x, t.y, 3 * t.x * t.y - t.z, t.z, h1, h2, by omega, rfl, ?_, sort3_of h2 h3, h5⟩
    simp only [T3.nb]
    rw [if_neg (by decide), if_neg (by decide)]
theorem nb_back {t : T3} (h : t.ok = true) {i : Int} (hi : i = 0 ∨ i = 1 ∨ i = 2) : ∃ k : Int, (k = 0 ∨ k = 1 ∨ k = 2) ∧ (t.nb i).nb k = t := by
  obtain ⟨a, b, n, r, -, hab, -, hn, e1, e2, -⟩ := nb_form h hi
  obtain ⟨k, hk, e⟩ := sort3_back (n := n) hab
  refine ⟨k, hk, ?_⟩
  rw [e1, e, hn, show 3 * a * b - (3 * a * b - r) = r by omega, e2]
theorem sort3_ok {a b n : Int} (h1 : 1 ≤ a) (h2 : a ≤ b) (h3 : 1 ≤ n) (he : a * a + b * b + n * n = 3 * a * b * n) (hz : (sort3 a b n).z ≤ 1000000000) : (sort3 a b n).ok = true := by
  unfold T3.ok triB
  refine decide_eq_true ?_
  by_cases h4 : n ≤ a
  · have e : sort3 a b n = ⟨n, a, b⟩ := by
      rw [← sort3_perm a b n]
      exact sort3_of h4 h2
    rw [e] at hz ⊢
    exact ⟨h3, h4, h2, hz, by simp only; grind⟩
  · by_cases h5 : n ≤ b
    · have e : sort3 a b n = ⟨a, n, b⟩ := by
        rw [← sort3_perm a b n, sort3_swap]
        exact sort3_of (by omega) h5
      rw [e] at hz ⊢
      exact ⟨h1, by simp only; omega, h5, hz, by simp only; grind⟩
    · have e : sort3 a b n = ⟨a, b, n⟩ := sort3_of h2 (by omega)
      rw [e] at hz ⊢
      exact ⟨h1, h2, by simp only; omega, hz, by simp only; grind⟩
theorem nb_okI {t : T3} (h : t.ok = true) {i : Int} (hi : i = 0 ∨ i = 1 ∨ i = 2) (hz : (t.nb i).z ≤ 1000000000) : (t.nb i).ok = true := by
  obtain ⟨a, b, n, r, ha, hab, hr, hn, e1, e2, he⟩ := nb_form h hi
  rw [e1] at hz ⊢
  have hrn : r * n = a * a + b * b := by
    have : n = 3 * a * b - r := hn
    subst this
    grind
  have hpos : 0 < a * a := Int.mul_pos (by omega) (by omega)
  have hpos2 : 0 ≤ b * b := Int.mul_nonneg (by omega) (by omega)
  have hn1 : 1 ≤ n := by
    rcases Int.lt_or_le 0 n with h | h
    · exact h
    · exfalso
      have := Int.mul_nonneg_of_nonpos_of_nonpos (a := -r) (b := n) (by omega) h
      have e3 : -r * n = -(r * n) := by grind
      omega
  refine sort3_ok ha hab hn1 ?_ hz
  have : r = 3 * a * b - n := by omega
  grind
theorem trL_ok {t : T3} (h : t ∈ trL) : t.ok = true := by
  have e : trL.all T3.ok = true := by decide +kernel
  exact List.all_eq_true.1 e t h

end Go.Proofs.Ytbmkpcenjjdflaa
