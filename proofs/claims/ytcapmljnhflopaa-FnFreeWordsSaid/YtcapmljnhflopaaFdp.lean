/- Matrices drawn, seldom something else. -/
import Derived.Test.YtcapmljnhflopaaFdo
namespace Go.Proofs.Ytcapmljnhflopaa
open Go.RowKit
set_option linter.unusedSimpArgs false

/-- A matrix or something else. -/
def DrawU (w0 w : World) (g : Nat) (code : List Int) (e : Ending) (w' : World) : Prop := ∃ m : M, e = .returned (mv m) ∧ Kpt w0 w w' g code
set_option maxRecDepth 8000 in
set_option maxHeartbeats 4000000 in
theorem l01Bad_any {w0 w : World} {g : Nat} {code : List Int} (t : M) (hK : Kpt w0 w w g code) :
    Calls Try.prog 28 #[.pointer (some ⟨g, 0, none⟩), mv t] w (DrawU w0 w g code) := by
  have hg := hK.1.lt
  obtain ⟨GF, hGF⟩ : ∃ GF, DrawU w0 w g code = GF := ⟨_, rfl⟩
  rw [hGF]
  have HGF := Lib.hid hGF
  clear hGF
  go_enter Try.func28, Try.ntmps28
  go_wp2_with fail
  refine (next_src (w0 := w0) (wa := w) (code := code) 50 (by repeat (first | (with_reducible assumption) | (with_reducible refine Kpt.drew ?_) | (with_reducible refine Kpt.drewN ?_) | (with_reducible refine Kpt.alloc ?_) | ((with_reducible refine Kpt.put ?_ ?_ ?_); (· omega); (· omega)))) (by decide)).mono ?_
  rintro e w1 ⟨k, rfl, hk, kp⟩
  have K1 : Kpt w0 w w1 g code := Kpt.step (by repeat (first | (with_reducible assumption) | (with_reducible refine Kpt.drew ?_) | (with_reducible refine Kpt.drewN ?_) | (with_reducible refine Kpt.alloc ?_) | ((with_reducible refine Kpt.put ?_ ?_ ?_); (· omega); (· omega)))) kp
  have kk := kp.2.2
  have s1 := kp.size
  simp at s1
  have A0 : Blk w1 w.heap.size 25 (mcs t) := (by repeat (first | (with_reducible assumption) | ((with_reducible refine Blk.new ?_); · first | omega | (simp; done) | (simp; omega)) | (with_reducible apply Blk.set4) | (with_reducible apply Blk.set3) | (with_reducible apply Blk.set2) | ((with_reducible refine Blk.put ?_ ?_); · first | omega | (simp; omega)) | (with_reducible refine Blk.old ?_) | (with_reducible refine Blk.drew ?_) | (with_reducible refine Blk.drewN ?_) | ((with_reducible refine Blk.below hb ?_ ?_); · first | omega | (simp; done) | (simp; omega)) | ((with_reducible refine Blk.below hb4 ?_ ?_); · first | omega | (simp; done) | (simp; omega)) | ((with_reducible refine Blk.below hb5 ?_ ?_); · first | omega | (simp; done) | (simp; omega)) | ((with_reducible refine Blk.keep kk ?_ ?_); · first | omega | (simp; done) | (simp; omega))))
  have A1 : Blk w1 (w.heap.size + 1) 25 (mcs ⟨0, 0, 0, 0⟩) := (by repeat (first | (with_reducible assumption) | ((with_reducible refine Blk.new ?_); · first | omega | (simp; done) | (simp; omega)) | (with_reducible apply Blk.set4) | (with_reducible apply Blk.set3) | (with_reducible apply Blk.set2) | ((with_reducible refine Blk.put ?_ ?_); · first | omega | (simp; omega)) | (with_reducible refine Blk.old ?_) | (with_reducible refine Blk.drew ?_) | (with_reducible refine Blk.drewN ?_) | ((with_reducible refine Blk.below hb ?_ ?_); · first | omega | (simp; done) | (simp; omega)) | ((with_reducible refine Blk.below hb4 ?_ ?_); · first | omega | (simp; done) | (simp; omega)) | ((with_reducible refine Blk.below hb5 ?_ ?_); · first | omega | (simp; done) | (simp; omega)) | ((with_reducible refine Blk.keep kk ?_ ?_); · first | omega | (simp; done) | (simp; omega))))
  clear kp kk hK
  have q0 := A0.m
  have f0 := A0.mf
  have q1 := A1.m
  have f1 := A1.mf
  have l0 := A0.lt
  have l1 := A1.lt
  by_cases h0 : k = 0
  · subst h0
    go_wp2_with fail
    refine (next_src (w0 := w0) (wa := w) (code := code) 4 (by repeat (first | (with_reducible assumption) | (with_reducible refine Kpt.drew ?_) | (with_reducible refine Kpt.drewN ?_) | (with_reducible refine Kpt.alloc ?_) | ((with_reducible refine Kpt.put ?_ ?_ ?_); (· omega); (· omega)))) (by decide)).mono ?_
    rintro e w2 ⟨r, rfl, hr, kp⟩
    have K2 : Kpt w0 w w2 g code := Kpt.step (by repeat (first | (with_reducible assumption) | (with_reducible refine Kpt.drew ?_) | (with_reducible refine Kpt.drewN ?_) | (with_reducible refine Kpt.alloc ?_) | ((with_reducible refine Kpt.put ?_ ?_ ?_); (· omega); (· omega)))) kp
    have kk := kp.2.2
    have s2 := kp.size
    have B0 : Blk w2 w.heap.size 25 (mcs t) := (by repeat (first | (with_reducible assumption) | ((with_reducible refine Blk.new ?_); · first | omega | (simp; done) | (simp; omega)) | (with_reducible apply Blk.set4) | (with_reducible apply Blk.set3) | (with_reducible apply Blk.set2) | ((with_reducible refine Blk.put ?_ ?_); · first | omega | (simp; omega)) | (with_reducible refine Blk.old ?_) | (with_reducible refine Blk.drew ?_) | (with_reducible refine Blk.drewN ?_) | ((with_reducible refine Blk.below hb ?_ ?_); · first | omega | (simp; done) | (simp; omega)) | ((with_reducible refine Blk.below hb4 ?_ ?_); · first | omega | (simp; done) | (simp; omega)) | ((with_reducible refine Blk.below hb5 ?_ ?_); · first | omega | (simp; done) | (simp; omega)) | ((with_reducible refine Blk.keep kk ?_ ?_); · first | omega | (simp; done) | (simp; omega))))
    have B1 : Blk w2 (w.heap.size + 1) 25 (mcs ⟨0, 0, 0, 0⟩) := (by repeat (first | (with_reducible assumption) | ((with_reducible refine Blk.new ?_); · first | omega | (simp; done) | (simp; omega)) | (with_reducible apply Blk.set4) | (with_reducible apply Blk.set3) | (with_reducible apply Blk.set2) | ((with_reducible refine Blk.put ?_ ?_); · first | omega | (simp; omega)) | (with_reducible refine Blk.old ?_) | (with_reducible refine Blk.drew ?_) | (with_reducible refine Blk.drewN ?_) | ((with_reducible refine Blk.below hb ?_ ?_); · first | omega | (simp; done) | (simp; omega)) | ((with_reducible refine Blk.below hb4 ?_ ?_); · first | omega | (simp; done) | (simp; omega)) | ((with_reducible refine Blk.below hb5 ?_ ?_); · first | omega | (simp; done) | (simp; omega)) | ((with_reducible refine Blk.keep kk ?_ ?_); · first | omega | (simp; done) | (simp; omega))))
    clear kp kk q0 f0 q1 f1 l0 l1 A0 A1 K1
    go_wp2_with fail
    refine (pick_src (w0 := w0) (wa := w) (code := code) [0, 2, 1000000001, -4611686018427387904] #[.int .i64 0, .int .i64 2, .int .i64 1000000001, .int .i64 (-4611686018427387904)] (by repeat (first | (with_reducible assumption) | (with_reducible refine Kpt.drew ?_) | (with_reducible refine Kpt.drewN ?_) | (with_reducible refine Kpt.alloc ?_) | ((with_reducible refine Kpt.put ?_ ?_ ?_); (· omega); (· omega)))) (by repeat (first | (with_reducible assumption) | ((with_reducible refine Blk.new ?_); · first | omega | (simp; done) | (simp; omega)) | (with_reducible apply Blk.set4) | (with_reducible apply Blk.set3) | (with_reducible apply Blk.set2) | ((with_reducible refine Blk.put ?_ ?_); · first | omega | (simp; omega)) | (with_reducible refine Blk.old ?_) | (with_reducible refine Blk.drew ?_) | (with_reducible refine Blk.drewN ?_) | ((with_reducible refine Blk.below hb ?_ ?_); · first | omega | (simp; done) | (simp; omega)) | ((with_reducible refine Blk.below hb4 ?_ ?_); · first | omega | (simp; done) | (simp; omega)) | ((with_reducible refine Blk.below hb5 ?_ ?_); · first | omega | (simp; done) | (simp; omega)) | ((with_reducible refine Blk.keep kk ?_ ?_); · first | omega | (simp; done) | (simp; omega)))) rfl (by simp) (by simp [maxLen]) 4 rfl).mono ?_
    rintro e w3 ⟨x, rfl, -, kp⟩
    have K3 : Kpt w0 w w3 g code := Kpt.step (by repeat (first | (with_reducible assumption) | (with_reducible refine Kpt.drew ?_) | (with_reducible refine Kpt.drewN ?_) | (with_reducible refine Kpt.alloc ?_) | ((with_reducible refine Kpt.put ?_ ?_ ?_); (· omega); (· omega)))) kp
    have kk := kp.2.2
    have s3 := kp.size
    simp at s3
    have C0 : Blk w3 w.heap.size 25 (mcs t) := (by repeat (first | (with_reducible assumption) | ((with_reducible refine Blk.new ?_); · first | omega | (simp; done) | (simp; omega)) | (with_reducible apply Blk.set4) | (with_reducible apply Blk.set3) | (with_reducible apply Blk.set2) | ((with_reducible refine Blk.put ?_ ?_); · first | omega | (simp; omega)) | (with_reducible refine Blk.old ?_) | (with_reducible refine Blk.drew ?_) | (with_reducible refine Blk.drewN ?_) | ((with_reducible refine Blk.below hb ?_ ?_); · first | omega | (simp; done) | (simp; omega)) | ((with_reducible refine Blk.below hb4 ?_ ?_); · first | omega | (simp; done) | (simp; omega)) | ((with_reducible refine Blk.below hb5 ?_ ?_); · first | omega | (simp; done) | (simp; omega)) | ((with_reducible refine Blk.keep kk ?_ ?_); · first | omega | (simp; done) | (simp; omega))))
    have C1 : Blk w3 (w.heap.size + 1) 25 (mcs ⟨0, 0, 0, 0⟩) := (by repeat (first | (with_reducible assumption) | ((with_reducible refine Blk.new ?_); · first | omega | (simp; done) | (simp; omega)) | (with_reducible apply Blk.set4) | (with_reducible apply Blk.set3) | (with_reducible apply Blk.set2) | ((with_reducible refine Blk.put ?_ ?_); · first | omega | (simp; omega)) | (with_reducible refine Blk.old ?_) | (with_reducible refine Blk.drew ?_) | (with_reducible refine Blk.drewN ?_) | ((with_reducible refine Blk.below hb ?_ ?_); · first | omega | (simp; done) | (simp; omega)) | ((with_reducible refine Blk.below hb4 ?_ ?_); · first | omega | (simp; done) | (simp; omega)) | ((with_reducible refine Blk.below hb5 ?_ ?_); · first | omega | (simp; done) | (simp; omega)) | ((with_reducible refine Blk.keep kk ?_ ?_); · first | omega | (simp; done) | (simp; omega))))
    clear kp kk B0 B1 K2
    have q0 := C0.m
    have f0 := C0.mf
    have q1 := C1.m
    have f1 := C1.mf
    have l0 := C0.lt
    have l1 := C1.lt
    rcases (show r = 0 ∨ r = 1 ∨ r = 2 ∨ r = 3 by omega) with rfl | rfl | rfl | rfl
    · have D0 : Blk (w3.setCell ⟨w.heap.size, 0, none⟩ (.int .i64 x)) w.heap.size 25 (mcs ⟨x, t.b, t.c, t.d⟩) := C0.set
      go_wp2
      rw [← HGF.out]
      refine ret_at (v := mv ⟨x, t.b, t.c, t.d⟩) (fun w' => Blk w' (w.heap.size + 1) 25 (mcs ⟨x, t.b, t.c, t.d⟩)) (by repeat (first | (with_reducible assumption) | ((with_reducible refine Blk.new ?_); · first | omega | (simp; done) | (simp; omega)) | (with_reducible apply Blk.set4) | (with_reducible apply Blk.set3) | (with_reducible apply Blk.set2) | ((with_reducible refine Blk.put ?_ ?_); · first | omega | (simp; omega)) | (with_reducible refine Blk.old ?_) | (with_reducible refine Blk.drew ?_) | (with_reducible refine Blk.drewN ?_) | ((with_reducible refine Blk.below hb ?_ ?_); · first | omega | (simp; done) | (simp; omega)) | ((with_reducible refine Blk.below hb4 ?_ ?_); · first | omega | (simp; done) | (simp; omega)) | ((with_reducible refine Blk.below hb5 ?_ ?_); · first | omega | (simp; done) | (simp; omega)) | ((with_reducible refine Blk.keep kk ?_ ?_); · first | omega | (simp; done) | (simp; omega)))) (fun w' hB => by have q := hB.m; simp [results, Try.results28, go_sem, q]) rfl ?_
      exact ⟨_, rfl, (by repeat (first | (with_reducible assumption) | (with_reducible refine Kpt.drew ?_) | (with_reducible refine Kpt.drewN ?_) | (with_reducible refine Kpt.alloc ?_) | ((with_reducible refine Kpt.put ?_ ?_ ?_); (· omega); (· omega))))⟩
    · have D0 : Blk (w3.setCell ⟨w.heap.size, 1, none⟩ (.int .i64 x)) w.heap.size 25 (mcs ⟨t.a, x, t.c, t.d⟩) := C0.set
      go_wp2
      rw [← HGF.out]
      refine ret_at (v := mv ⟨t.a, x, t.c, t.d⟩) (fun w' => Blk w' (w.heap.size + 1) 25 (mcs ⟨t.a, x, t.c, t.d⟩)) (by repeat (first | (with_reducible assumption) | ((with_reducible refine Blk.new ?_); · first | omega | (simp; done) | (simp; omega)) | (with_reducible apply Blk.set4) | (with_reducible apply Blk.set3) | (with_reducible apply Blk.set2) | ((with_reducible refine Blk.put ?_ ?_); · first | omega | (simp; omega)) | (with_reducible refine Blk.old ?_) | (with_reducible refine Blk.drew ?_) | (with_reducible refine Blk.drewN ?_) | ((with_reducible refine Blk.below hb ?_ ?_); · first | omega | (simp; done) | (simp; omega)) | ((with_reducible refine Blk.below hb4 ?_ ?_); · first | omega | (simp; done) | (simp; omega)) | ((with_reducible refine Blk.below hb5 ?_ ?_); · first | omega | (simp; done) | (simp; omega)) | ((with_reducible refine Blk.keep kk ?_ ?_); · first | omega | (simp; done) | (simp; omega)))) (fun w' hB => by have q := hB.m; simp [results, Try.results28, go_sem, q]) rfl ?_
      exact ⟨_, rfl, (by repeat (first | (with_reducible assumption) | (with_reducible refine Kpt.drew ?_) | (with_reducible refine Kpt.drewN ?_) | (with_reducible refine Kpt.alloc ?_) | ((with_reducible refine Kpt.put ?_ ?_ ?_); (· omega); (· omega))))⟩
    · have D0 : Blk (w3.setCell ⟨w.heap.size, 2, none⟩ (.int .i64 x)) w.heap.size 25 (mcs ⟨t.a, t.b, x, t.d⟩) := C0.set
      go_wp2
      rw [← HGF.out]
      refine ret_at (v := mv ⟨t.a, t.b, x, t.d⟩) (fun w' => Blk w' (w.heap.size + 1) 25 (mcs ⟨t.a, t.b, x, t.d⟩)) (by repeat (first | (with_reducible assumption) | ((with_reducible refine Blk.new ?_); · first | omega | (simp; done) | (simp; omega)) | (with_reducible apply Blk.set4) | (with_reducible apply Blk.set3) | (with_reducible apply Blk.set2) | ((with_reducible refine Blk.put ?_ ?_); · first | omega | (simp; omega)) | (with_reducible refine Blk.old ?_) | (with_reducible refine Blk.drew ?_) | (with_reducible refine Blk.drewN ?_) | ((with_reducible refine Blk.below hb ?_ ?_); · first | omega | (simp; done) | (simp; omega)) | ((with_reducible refine Blk.below hb4 ?_ ?_); · first | omega | (simp; done) | (simp; omega)) | ((with_reducible refine Blk.below hb5 ?_ ?_); · first | omega | (simp; done) | (simp; omega)) | ((with_reducible refine Blk.keep kk ?_ ?_); · first | omega | (simp; done) | (simp; omega)))) (fun w' hB => by have q := hB.m; simp [results, Try.results28, go_sem, q]) rfl ?_
      exact ⟨_, rfl, (by repeat (first | (with_reducible assumption) | (with_reducible refine Kpt.drew ?_) | (with_reducible refine Kpt.drewN ?_) | (with_reducible refine Kpt.alloc ?_) | ((with_reducible refine Kpt.put ?_ ?_ ?_); (· omega); (· omega))))⟩
    · have D0 : Blk (w3.setCell ⟨w.heap.size, 3, none⟩ (.int .i64 x)) w.heap.size 25 (mcs ⟨t.a, t.b, t.c, x⟩) := C0.set
      go_wp2
      rw [← HGF.out]
      refine ret_at (v := mv ⟨t.a, t.b, t.c, x⟩) (fun w' => Blk w' (w.heap.size + 1) 25 (mcs ⟨t.a, t.b, t.c, x⟩)) (by repeat (first | (with_reducible assumption) | ((with_reducible refine Blk.new ?_); · first | omega | (simp; done) | (simp; omega)) | (with_reducible apply Blk.set4) | (with_reducible apply Blk.set3) | (with_reducible apply Blk.set2) | ((with_reducible refine Blk.put ?_ ?_); · first | omega | (simp; omega)) | (with_reducible refine Blk.old ?_) | (with_reducible refine Blk.drew ?_) | (with_reducible refine Blk.drewN ?_) | ((with_reducible refine Blk.below hb ?_ ?_); · first | omega | (simp; done) | (simp; omega)) | ((with_reducible refine Blk.below hb4 ?_ ?_); · first | omega | (simp; done) | (simp; omega)) | ((with_reducible refine Blk.below hb5 ?_ ?_); · first | omega | (simp; done) | (simp; omega)) | ((with_reducible refine Blk.keep kk ?_ ?_); · first | omega | (simp; done) | (simp; omega)))) (fun w' hB => by have q := hB.m; simp [results, Try.results28, go_sem, q]) rfl ?_
      exact ⟨_, rfl, (by repeat (first | (with_reducible assumption) | (with_reducible refine Kpt.drew ?_) | (with_reducible refine Kpt.drewN ?_) | (with_reducible refine Kpt.alloc ?_) | ((with_reducible refine Kpt.put ?_ ?_ ?_); (· omega); (· omega))))⟩
  · by_cases h1 : k = 1
    · subst h1
      go_wp2
      rw [← HGF.out]
      refine ret_at (v := mv ⟨0, 1, 1, 0⟩) (fun w' => Blk w' (w.heap.size + 1) 25 (mcs ⟨0, 1, 1, 0⟩)) (by repeat (first | (with_reducible assumption) | ((with_reducible refine Blk.new ?_); · first | omega | (simp; done) | (simp; omega)) | (with_reducible apply Blk.set4) | (with_reducible apply Blk.set3) | (with_reducible apply Blk.set2) | ((with_reducible refine Blk.put ?_ ?_); · first | omega | (simp; omega)) | (with_reducible refine Blk.old ?_) | (with_reducible refine Blk.drew ?_) | (with_reducible refine Blk.drewN ?_) | ((with_reducible refine Blk.below hb ?_ ?_); · first | omega | (simp; done) | (simp; omega)) | ((with_reducible refine Blk.below hb4 ?_ ?_); · first | omega | (simp; done) | (simp; omega)) | ((with_reducible refine Blk.below hb5 ?_ ?_); · first | omega | (simp; done) | (simp; omega)) | ((with_reducible refine Blk.keep kk ?_ ?_); · first | omega | (simp; done) | (simp; omega)))) (fun w' hB => by have q := hB.m; simp [results, Try.results28, go_sem, q]) rfl ?_
      exact ⟨_, rfl, (by repeat (first | (with_reducible assumption) | (with_reducible refine Kpt.drew ?_) | (with_reducible refine Kpt.drewN ?_) | (with_reducible refine Kpt.alloc ?_) | ((with_reducible refine Kpt.put ?_ ?_ ?_); (· omega); (· omega))))⟩
    · by_cases h2 : k = 2
      · subst h2
        go_wp2
        rw [← HGF.out]
        refine ret_at (v := mv ⟨0, 0, 0, 0⟩) (fun w' => Blk w' (w.heap.size + 1) 25 (mcs ⟨0, 0, 0, 0⟩)) (by repeat (first | (with_reducible assumption) | ((with_reducible refine Blk.new ?_); · first | omega | (simp; done) | (simp; omega)) | (with_reducible apply Blk.set4) | (with_reducible apply Blk.set3) | (with_reducible apply Blk.set2) | ((with_reducible refine Blk.put ?_ ?_); · first | omega | (simp; omega)) | (with_reducible refine Blk.old ?_) | (with_reducible refine Blk.drew ?_) | (with_reducible refine Blk.drewN ?_) | ((with_reducible refine Blk.below hb ?_ ?_); · first | omega | (simp; done) | (simp; omega)) | ((with_reducible refine Blk.below hb4 ?_ ?_); · first | omega | (simp; done) | (simp; omega)) | ((with_reducible refine Blk.below hb5 ?_ ?_); · first | omega | (simp; done) | (simp; omega)) | ((with_reducible refine Blk.keep kk ?_ ?_); · first | omega | (simp; done) | (simp; omega)))) (fun w' hB => by have q := hB.m; simp [results, Try.results28, go_sem, q]) rfl ?_
        exact ⟨_, rfl, (by repeat (first | (with_reducible assumption) | (with_reducible refine Kpt.drew ?_) | (with_reducible refine Kpt.drewN ?_) | (with_reducible refine Kpt.alloc ?_) | ((with_reducible refine Kpt.put ?_ ?_ ?_); (· omega); (· omega))))⟩
      · go_wp2
        rw [← HGF.out]
        refine ret_at (v := mv t) (fun w' => Blk w' (w.heap.size + 1) 25 (mcs t)) (by repeat (first | (with_reducible assumption) | ((with_reducible refine Blk.new ?_); · first | omega | (simp; done) | (simp; omega)) | (with_reducible apply Blk.set4) | (with_reducible apply Blk.set3) | (with_reducible apply Blk.set2) | ((with_reducible refine Blk.put ?_ ?_); · first | omega | (simp; omega)) | (with_reducible refine Blk.old ?_) | (with_reducible refine Blk.drew ?_) | (with_reducible refine Blk.drewN ?_) | ((with_reducible refine Blk.below hb ?_ ?_); · first | omega | (simp; done) | (simp; omega)) | ((with_reducible refine Blk.below hb4 ?_ ?_); · first | omega | (simp; done) | (simp; omega)) | ((with_reducible refine Blk.below hb5 ?_ ?_); · first | omega | (simp; done) | (simp; omega)) | ((with_reducible refine Blk.keep kk ?_ ?_); · first | omega | (simp; done) | (simp; omega)))) (fun w' hB => by have q := hB.m; simp [results, Try.results28, go_sem, q]) rfl ?_
        exact ⟨_, rfl, (by repeat (first | (with_reducible assumption) | (with_reducible refine Kpt.drew ?_) | (with_reducible refine Kpt.drewN ?_) | (with_reducible refine Kpt.alloc ?_) | ((with_reducible refine Kpt.put ?_ ?_ ?_); (· omega); (· omega))))⟩
set_option maxRecDepth 8000 in
set_option maxHeartbeats 1000000 in
theorem l01Spoil_any {w0 w : World} {g : Nat} {code : List Int} (hK : Kpt w0 w w g code) :
    Calls Try.prog 12 #[.pointer (some ⟨g, 0, none⟩)] w (DrawU w0 w g code) := by
  have hg := hK.1.lt
  obtain ⟨GF, hGF⟩ : ∃ GF, DrawU w0 w g code = GF := ⟨_, rfl⟩
  rw [hGF]
  have HGF := Lib.hid hGF
  clear hGF
  go_enter Try.func12, Try.ntmps12
  go_wp2_with fail
  have K0 : Kpt w0 w (w.alloc (.cells (mcs ⟨0, 0, 0, 0⟩) 25)) g code := hK.alloc
  refine (l01Draw_any K0.1 K0.2.1).mono ?_
  rintro e w1 ⟨t, rfl, -, kp⟩
  have K1 : Kpt w0 w w1 g code := Kpt.step K0 kp
  have kk := kp.2.2
  have A0 : Blk w1 w.heap.size 25 (mcs ⟨0, 0, 0, 0⟩) := (by repeat (first | (with_reducible assumption) | ((with_reducible refine Blk.new ?_); · first | omega | (simp; done) | (simp; omega)) | (with_reducible apply Blk.set4) | (with_reducible apply Blk.set3) | (with_reducible apply Blk.set2) | ((with_reducible refine Blk.put ?_ ?_); · first | omega | (simp; omega)) | (with_reducible refine Blk.old ?_) | (with_reducible refine Blk.drew ?_) | (with_reducible refine Blk.drewN ?_) | ((with_reducible refine Blk.below hb ?_ ?_); · first | omega | (simp; done) | (simp; omega)) | ((with_reducible refine Blk.below hb4 ?_ ?_); · first | omega | (simp; done) | (simp; omega)) | ((with_reducible refine Blk.below hb5 ?_ ?_); · first | omega | (simp; done) | (simp; omega)) | ((with_reducible refine Blk.keep kk ?_ ?_); · first | omega | (simp; done) | (simp; omega))))
  have s1 := K1.size
  have l0 := A0.lt
  clear kp kk hK K0
  go_wp2_with fail
  refine (l01Bad_any t (Kpt.refl K1.1 K1.2.1)).mono ?_
  rintro e w2 ⟨u, rfl, kp⟩
  have K2 : Kpt w0 w w2 g code := Kpt.step K1 kp
  have kk := kp.2.2
  have B0 : Blk w2 w.heap.size 25 (mcs ⟨0, 0, 0, 0⟩) := (by repeat (first | (with_reducible assumption) | ((with_reducible refine Blk.new ?_); · first | omega | (simp; done) | (simp; omega)) | (with_reducible apply Blk.set4) | (with_reducible apply Blk.set3) | (with_reducible apply Blk.set2) | ((with_reducible refine Blk.put ?_ ?_); · first | omega | (simp; omega)) | (with_reducible refine Blk.old ?_) | (with_reducible refine Blk.drew ?_) | (with_reducible refine Blk.drewN ?_) | ((with_reducible refine Blk.below hb ?_ ?_); · first | omega | (simp; done) | (simp; omega)) | ((with_reducible refine Blk.below hb4 ?_ ?_); · first | omega | (simp; done) | (simp; omega)) | ((with_reducible refine Blk.below hb5 ?_ ?_); · first | omega | (simp; done) | (simp; omega)) | ((with_reducible refine Blk.keep kk ?_ ?_); · first | omega | (simp; done) | (simp; omega))))
  have s2 := K2.size
  have lb := B0.lt
  clear kp kk K1 A0
  have q0 := B0.m
  have f0 := B0.mf
  go_wp2
  rw [← HGF.out]
  refine ret_at (v := mv u) (fun w' => Blk w' (w.heap.size) 25 (mcs u)) (by repeat (first | (with_reducible assumption) | ((with_reducible refine Blk.new ?_); · first | omega | (simp; done) | (simp; omega)) | (with_reducible apply Blk.set4) | (with_reducible apply Blk.set3) | (with_reducible apply Blk.set2) | ((with_reducible refine Blk.put ?_ ?_); · first | omega | (simp; omega)) | (with_reducible refine Blk.old ?_) | (with_reducible refine Blk.drew ?_) | (with_reducible refine Blk.drewN ?_) | ((with_reducible refine Blk.below hb ?_ ?_); · first | omega | (simp; done) | (simp; omega)) | ((with_reducible refine Blk.below hb4 ?_ ?_); · first | omega | (simp; done) | (simp; omega)) | ((with_reducible refine Blk.below hb5 ?_ ?_); · first | omega | (simp; done) | (simp; omega)) | ((with_reducible refine Blk.keep kk ?_ ?_); · first | omega | (simp; done) | (simp; omega)))) (fun w' hB => by have q := hB.m; simp [results, Try.results12, go_sem, q]) rfl ?_
  exact ⟨_, rfl, (by repeat (first | (with_reducible assumption) | (with_reducible refine Kpt.drew ?_) | (with_reducible refine Kpt.drewN ?_) | (with_reducible refine Kpt.alloc ?_) | ((with_reducible refine Kpt.put ?_ ?_ ?_); (· omega); (· omega))))⟩
/-- The matrix that a free word is asked for. -/
theorem drawWord_any {w : World} {v : Value} {code : List Int} (hc : CodeOk code) (hv : SlIn w .u8 v code) :
    Calls Try.prog 5 #[v] w fun e w' => ∃ u : M, e = .returned (mv u) ∧ Below w.heap.size w w' := by
  obtain ⟨GF, hGF⟩ : ∃ GF : Ending → World → Prop, (fun e w' => ∃ u : M, e = .returned (mv u) ∧ Below w.heap.size w w') = GF := ⟨_, rfl⟩
  rw [hGF]
  have HGF := Lib.hid hGF
  clear hGF
  go_enter Try.func5, Try.ntmps5
  go_wp2_with fail
  refine (from_src hc hv.alloc).mono ?_
  rintro e w1 ⟨g, rfl, hS, kB⟩
  have Bb : Blk (w.alloc (.cells (mcs ⟨0, 0, 0, 0⟩) 25)) w.heap.size 25 (mcs ⟨0, 0, 0, 0⟩) := Blk.new rfl
  have kb : Below w.heap.size w (w.alloc (.cells (mcs ⟨0, 0, 0, 0⟩) 25)) := (by repeat (first | (with_reducible exact Below.refl _ _) | (with_reducible assumption) | (with_reducible refine Below.drew ?_) | (with_reducible refine Below.drewN ?_) | ((with_reducible refine Below.al ?_ ?_); · first | omega | (simp; done) | (simp; omega)) | ((with_reducible refine Below.sc ?_ ?_); · first | omega | (simp; done) | (simp; omega)) | ((with_reducible refine Below.thru hb ?_ ?_); · first | omega | (simp; done) | (simp; omega)) | ((with_reducible refine Below.thru hb4 ?_ ?_); · first | omega | (simp; done) | (simp; omega)) | ((with_reducible refine Below.thru hb5 ?_ ?_); · first | omega | (simp; done) | (simp; omega))))
  have K0 := Kpt.refl hS kB
  clear kB hS
  go_wp2_with fail
  refine (l01Spoil_any K0).mono ?_
  rintro e w2 ⟨u, rfl, kp⟩
  have hb := kp.2.1
  have B0 : Blk w2 w.heap.size 25 (mcs ⟨0, 0, 0, 0⟩) := Blk.below hb Bb.lt Bb
  have k2 : Below w.heap.size w w2 := Below.trans kb (hb.mono kb.size)
  clear kp K0 hb Bb
  have q0 := B0.m
  have f0 := B0.mf
  go_wp2
  rw [← HGF.out]
  refine ret_at (v := mv u) (fun w' => Blk w' (w.heap.size) 25 (mcs u)) (by repeat (first | (with_reducible assumption) | ((with_reducible refine Blk.new ?_); · first | omega | (simp; done) | (simp; omega)) | (with_reducible apply Blk.set4) | (with_reducible apply Blk.set3) | (with_reducible apply Blk.set2) | ((with_reducible refine Blk.put ?_ ?_); · first | omega | (simp; omega)) | (with_reducible refine Blk.old ?_) | (with_reducible refine Blk.drew ?_) | (with_reducible refine Blk.drewN ?_) | ((with_reducible refine Blk.below hb ?_ ?_); · first | omega | (simp; done) | (simp; omega)) | ((with_reducible refine Blk.below hb4 ?_ ?_); · first | omega | (simp; done) | (simp; omega)) | ((with_reducible refine Blk.below hb5 ?_ ?_); · first | omega | (simp; done) | (simp; omega)) | ((with_reducible refine Blk.keep kk ?_ ?_); · first | omega | (simp; done) | (simp; omega)))) (fun w' hB => by have q := hB.m; simp [results, Try.results5, go_sem, q]) rfl ?_
  exact ⟨_, rfl, (by repeat (first | (with_reducible exact Below.refl _ _) | (with_reducible assumption) | (with_reducible refine Below.drew ?_) | (with_reducible refine Below.drewN ?_) | ((with_reducible refine Below.al ?_ ?_); · first | omega | (simp; done) | (simp; omega)) | ((with_reducible refine Below.sc ?_ ?_); · first | omega | (simp; done) | (simp; omega)) | ((with_reducible refine Below.thru hb ?_ ?_); · first | omega | (simp; done) | (simp; omega)) | ((with_reducible refine Below.thru hb4 ?_ ?_); · first | omega | (simp; done) | (simp; omega)) | ((with_reducible refine Below.thru hb5 ?_ ?_); · first | omega | (simp; done) | (simp; omega))))⟩

end Go.Proofs.Ytcapmljnhflopaa
