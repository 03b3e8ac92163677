/- The law FnExactMatrixOfLetters: its walk. -/
import Derived.Test.YtcijbgfiefmdkaaDoorMol
namespace Go.Proofs.YtcijbgfiefmdkaaDoor
open Go.RowKit

set_option maxRecDepth 8000 in
set_option maxHeartbeats 1000000 in
theorem FnExactMatrixOfLetters_walk (s : ByteArray) (w : World) (hs : s.size ≤ 140737488351232) : Calls Tryd.prog 4 #[.string s] w fun e w' => e = .returned (.bool true) ∧ Below w.heap.size w w' := by
  by_cases h20 : s.size > 1048576
  · have h21 : (1048576 : Int) < (s.size : Int) := by omega
    go_enter Tryd.func4, Tryd.ntmps4
    go_wp2
    go_ret
    exact ⟨rfl, (by repeat (first | (with_reducible exact Below.refl _ _) | (with_reducible assumption) | (with_reducible refine Below.drew ?_) | (with_reducible refine Below.drewN ?_) | ((with_reducible refine Below.al ?_ ?_); · first | omega | (simp; done) | (simp; omega)) | ((with_reducible refine Below.sc ?_ ?_); · first | omega | (simp; done) | (simp; omega)) | ((with_reducible refine Below.thru hb ?_ ?_); · first | omega | (simp; done) | (simp; omega))))⟩
  · have h21 : ¬ (1048576 : Int) < (s.size : Int) := by omega
    have HS := Lib.hid (fun w' : World => specMatrixOfLetters_any s w' (by omega))
    have HI := Lib.hid (fun w' : World => MatrixOfLetters_any s w' (by omega))
    obtain ⟨r, c, hrc⟩ := molV_form s
    rw [hrc] at HS HI
    clear hrc
    go_enter Tryd.func4, Tryd.ntmps4
    go_wp2_with fail
    refine (HS.out _).mono ?_
    rintro e w1 ⟨rfl, hb⟩
    have k1 : Below w.heap.size w w1 := (by repeat (first | (with_reducible exact Below.refl _ _) | (with_reducible assumption) | (with_reducible refine Below.drew ?_) | (with_reducible refine Below.drewN ?_) | ((with_reducible refine Below.al ?_ ?_); · first | omega | (simp; done) | (simp; omega)) | ((with_reducible refine Below.sc ?_ ?_); · first | omega | (simp; done) | (simp; omega)) | ((with_reducible refine Below.thru hb ?_ ?_); · first | omega | (simp; done) | (simp; omega))))
    have s1 := k1.size
    clear hb
    go_wp2_with fail
    refine (HI.out _).mono ?_
    rintro e w2 ⟨rfl, hb⟩
    have B2 : Blk w2 w1.heap.size 26 (mcs r) := (by repeat (first | (with_reducible assumption) | ((with_reducible refine Blk.new ?_); · first | omega | (simp; done) | (simp; omega)) | (with_reducible apply Blk.set4) | (with_reducible apply Blk.set3) | (with_reducible apply Blk.set2) | ((with_reducible refine Blk.put ?_ ?_); · first | omega | (simp; omega)) | (with_reducible refine Blk.old ?_) | (with_reducible refine Blk.drew ?_) | (with_reducible refine Blk.drewN ?_) | ((with_reducible refine Blk.below hb ?_ ?_); · first | omega | (simp; done) | (simp; omega))))
    have k2 : Below w.heap.size w w2 := (by repeat (first | (with_reducible exact Below.refl _ _) | (with_reducible assumption) | (with_reducible refine Below.drew ?_) | (with_reducible refine Below.drewN ?_) | ((with_reducible refine Below.al ?_ ?_); · first | omega | (simp; done) | (simp; omega)) | ((with_reducible refine Below.sc ?_ ?_); · first | omega | (simp; done) | (simp; omega)) | ((with_reducible refine Below.thru hb ?_ ?_); · first | omega | (simp; done) | (simp; omega))))
    have s2 := k2.size
    have b2 := B2.m
    have lB2 := B2.lt
    clear hb
    go_wp2_with fail
    refine (eqMatrix_same r _).mono ?_
    rintro e w3 ⟨rfl, hb⟩
    have k3 : Below w.heap.size w w3 := (by repeat (first | (with_reducible exact Below.refl _ _) | (with_reducible assumption) | (with_reducible refine Below.drew ?_) | (with_reducible refine Below.drewN ?_) | ((with_reducible refine Below.al ?_ ?_); · first | omega | (simp; done) | (simp; omega)) | ((with_reducible refine Below.sc ?_ ?_); · first | omega | (simp; done) | (simp; omega)) | ((with_reducible refine Below.thru hb ?_ ?_); · first | omega | (simp; done) | (simp; omega))))
    clear hb
    go_wp2
    go_ret
    exact ⟨rfl, k3⟩

end Go.Proofs.YtcijbgfiefmdkaaDoor
