/- The law FnExactFreeWord: its walk. -/
import Derived.Test.YtkopidbbcijcaaaFreeS
import Derived.Test.YtkopidbbcijcaaaLaw
namespace Go.Proofs.Ytkopidbbcijcaaa
open Go.RowKit
set_option linter.unusedSimpArgs false

/-- What FreeWord gives, the same from both. -/
theorem freeR (m : M) : ∃ r : ByteArray × Int, (∀ w : World, Calls Try.prog 7 #[.agg #[.int .i64 m.a, .int .i64 m.b, .int .i64 m.c, .int .i64 m.d]] w fun e w' => e = .returned (.tuple #[.string r.1, .int .i64 r.2]) ∧ Below w.heap.size w w') ∧
    (∀ w : World, Calls Try.prog 5 #[.agg #[.int .i64 m.a, .int .i64 m.b, .int .i64 m.c, .int .i64 m.d]] w fun e w' => e = .returned (.tuple #[.string r.1, .int .i64 r.2]) ∧ Below w.heap.size w w') := by
  cases h : m.ok with
  | true =>
    by_cases hx : ∃ k, ChEnds m k
    · obtain ⟨k, hk⟩ := hx
      refine ⟨resF (chAll m k), fun w => ?_, fun w => ?_⟩
      · refine (FreeWord_in m w h).mono ?_
        rintro e w' ⟨⟨k2, h2, he⟩, hb⟩
        obtain rfl := hk.unique h2
        exact ⟨he, hb⟩
      · refine (specFreeWord_in m w h).mono ?_
        rintro e w' ⟨⟨k2, h2, he⟩, hb⟩
        obtain rfl := hk.unique h2
        exact ⟨he, hb⟩
    · refine ⟨(⟨#[]⟩, 0), fun w => ?_, fun w => ?_⟩
      · refine (FreeWord_in m w h).mono ?_
        rintro e w' ⟨⟨k2, h2, he⟩, hb⟩
        exact absurd ⟨k2, h2⟩ hx
      · refine (specFreeWord_in m w h).mono ?_
        rintro e w' ⟨⟨k2, h2, he⟩, hb⟩
        exact absurd ⟨k2, h2⟩ hx
  | false =>
    refine ⟨(⟨#[]⟩, 1), fun w => ?_, fun w => ?_⟩
    · go_enter Try.func7, Try.ntmps7
      go_wp2_with fail
      refine (IsMatrix_any m _).mono ?_
      rw [h]
      rintro e w1 ⟨rfl, hb⟩
      have k1 : Below w.heap.size w w1 := (by repeat (first | (with_reducible exact Below.refl _ _) | (with_reducible assumption) | (with_reducible refine Below.drew ?_) | (with_reducible refine Below.drewN ?_) | ((with_reducible refine Below.al ?_ ?_); · first | omega | (simp; done) | (simp; omega)) | ((with_reducible refine Below.sc ?_ ?_); · first | omega | (simp; done) | (simp; omega)) | ((with_reducible refine Below.thru hb ?_ ?_); · first | omega | (simp; done) | (simp; omega))))
      clear hb h
      go_wp2
      go_ret2
      exact ⟨rfl, k1⟩
    · go_enter Try.func5, Try.ntmps5
      go_wp2_with fail
      refine (l01Is_any m _).mono ?_
      rw [h]
      rintro e w1 ⟨rfl, hb⟩
      have k1 : Below w.heap.size w w1 := (by repeat (first | (with_reducible exact Below.refl _ _) | (with_reducible assumption) | (with_reducible refine Below.drew ?_) | (with_reducible refine Below.drewN ?_) | ((with_reducible refine Below.al ?_ ?_); · first | omega | (simp; done) | (simp; omega)) | ((with_reducible refine Below.sc ?_ ?_); · first | omega | (simp; done) | (simp; omega)) | ((with_reducible refine Below.thru hb ?_ ?_); · first | omega | (simp; done) | (simp; omega))))
      clear hb h
      go_wp2
      go_ret2
      exact ⟨rfl, k1⟩

set_option maxRecDepth 8000 in
set_option maxHeartbeats 2000000 in
theorem FreeWord_law (m : M) (w : World) : Calls Try.prog 3 #[.agg #[.int .i64 m.a, .int .i64 m.b, .int .i64 m.c, .int .i64 m.d]] w fun e w' => e = .returned (.bool true) ∧ Below w.heap.size w w' := by
  obtain ⟨⟨r, c⟩, hi0, hs0⟩ := freeR m
  have HI := Lib.hid hi0
  have HS := Lib.hid hs0
  clear hi0 hs0
  simp only at HI HS
  go_enter Try.func3, Try.ntmps3
  go_wp2_with fail
  refine (toMatrix_any m _).mono ?_
  rintro e w1 ⟨rfl, hb⟩
  have B1 : Blk w1 w.heap.size 22 (mcs m) := (by repeat (first | (with_reducible assumption) | ((with_reducible refine Blk.new ?_); · first | omega | (simp; done) | (simp; omega)) | (with_reducible apply Blk.set4) | (with_reducible apply Blk.set3) | (with_reducible apply Blk.set2) | ((with_reducible refine Blk.put ?_ ?_); · first | omega | (simp; omega)) | (with_reducible refine Blk.old ?_) | (with_reducible refine Blk.drew ?_) | (with_reducible refine Blk.drewN ?_) | ((with_reducible refine Blk.below hb ?_ ?_); · first | omega | (simp; done) | (simp; omega))))
  have k1 : Below w.heap.size w w1 := (by repeat (first | (with_reducible exact Below.refl _ _) | (with_reducible assumption) | (with_reducible refine Below.drew ?_) | (with_reducible refine Below.drewN ?_) | ((with_reducible refine Below.al ?_ ?_); · first | omega | (simp; done) | (simp; omega)) | ((with_reducible refine Below.sc ?_ ?_); · first | omega | (simp; done) | (simp; omega)) | ((with_reducible refine Below.thru hb ?_ ?_); · first | omega | (simp; done) | (simp; omega))))
  have s1 := k1.size
  have lB1 := B1.lt
  clear hb
  go_wp2_with fail
  refine (HS.out _).mono ?_
  rintro e w2 ⟨rfl, hb⟩
  have B2 : Blk w2 w.heap.size 22 (mcs m) := (by repeat (first | (with_reducible assumption) | ((with_reducible refine Blk.new ?_); · first | omega | (simp; done) | (simp; omega)) | (with_reducible apply Blk.set4) | (with_reducible apply Blk.set3) | (with_reducible apply Blk.set2) | ((with_reducible refine Blk.put ?_ ?_); · first | omega | (simp; omega)) | (with_reducible refine Blk.old ?_) | (with_reducible refine Blk.drew ?_) | (with_reducible refine Blk.drewN ?_) | ((with_reducible refine Blk.below hb ?_ ?_); · first | omega | (simp; done) | (simp; omega))))
  have b2 := B2.m
  have k2 : Below w.heap.size w w2 := (by repeat (first | (with_reducible exact Below.refl _ _) | (with_reducible assumption) | (with_reducible refine Below.drew ?_) | (with_reducible refine Below.drewN ?_) | ((with_reducible refine Below.al ?_ ?_); · first | omega | (simp; done) | (simp; omega)) | ((with_reducible refine Below.sc ?_ ?_); · first | omega | (simp; done) | (simp; omega)) | ((with_reducible refine Below.thru hb ?_ ?_); · first | omega | (simp; done) | (simp; omega))))
  have s2 := k2.size
  have lB2 := B2.lt
  clear hb B1 k1
  go_wp2_with fail
  refine (toMatrix_any m _).mono ?_
  rintro e w3 ⟨rfl, hb⟩
  have k3 : Below w.heap.size w w3 := (by repeat (first | (with_reducible exact Below.refl _ _) | (with_reducible assumption) | (with_reducible refine Below.drew ?_) | (with_reducible refine Below.drewN ?_) | ((with_reducible refine Below.al ?_ ?_); · first | omega | (simp; done) | (simp; omega)) | ((with_reducible refine Below.sc ?_ ?_); · first | omega | (simp; done) | (simp; omega)) | ((with_reducible refine Below.thru hb ?_ ?_); · first | omega | (simp; done) | (simp; omega))))
  have s3 := k3.size
  clear hb b2 B2 k2
  go_wp2_with fail
  refine (HI.out _).mono ?_
  rintro e w4 ⟨rfl, hb⟩
  have k4 : Below w.heap.size w w4 := (by repeat (first | (with_reducible exact Below.refl _ _) | (with_reducible assumption) | (with_reducible refine Below.drew ?_) | (with_reducible refine Below.drewN ?_) | ((with_reducible refine Below.al ?_ ?_); · first | omega | (simp; done) | (simp; omega)) | ((with_reducible refine Below.sc ?_ ?_); · first | omega | (simp; done) | (simp; omega)) | ((with_reducible refine Below.thru hb ?_ ?_); · first | omega | (simp; done) | (simp; omega))))
  clear hb k3
  go_wp2
  go_ret
  exact ⟨rfl, k4⟩
theorem FnExactFreeWord_walk (a b c d : Int) (w : World) (_ : (Lit.int .i64 a).wf = true) (_ : (Lit.int .i64 b).wf = true) (_ : (Lit.int .i64 c).wf = true) (_ : (Lit.int .i64 d).wf = true) :
    Calls Try.prog 3 #[.agg #[.int .i64 a, .int .i64 b, .int .i64 c, .int .i64 d]] w fun e w' => e = .returned (.bool true) ∧ Below w.heap.size w w' := FreeWord_law ⟨a, b, c, d⟩ w

end Go.Proofs.Ytkopidbbcijcaaa
