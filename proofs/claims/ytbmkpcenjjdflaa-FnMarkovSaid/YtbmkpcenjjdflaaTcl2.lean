/- The program's comparison of triples: its walk. -/
import Derived.Test.YtbmkpcenjjdflaaTcl
namespace Go.Proofs.Ytbmkpcenjjdflaa
open Go.RowKit
open Go.Sort (grow grow_empty grow_grow alloc_eq_grow)
set_option linter.unusedSimpArgs false

/-- The first of two numbers that is not 0. -/
def orI (a b : Int) : Int := if a = 0 then b else a
def cfT (s t : T3) : Int := orI (cmpI s.z t.z) (cmpI s.y t.y)
set_option maxRecDepth 8000 in
set_option maxHeartbeats 1000000 in
theorem tcl_any (s t : T3) (w : World) :
    Calls Try.prog 49 #[.agg #[.int .i64 s.x, .int .i64 s.y, .int .i64 s.z], .agg #[.int .i64 t.x, .int .i64 t.y, .int .i64 t.z]] w fun e w' => e = .returned (.int .i64 (cfT s t)) ∧ GD w w' := by
  have HA := Lib.hid (fun w' => cmp_any s.z t.z w')
  have HB := Lib.hid (fun w' => cmp_any s.y t.y w')
  have HO := Lib.hid (show ∀ g w', Blk w' g 3 #[.int .i64 (cmpI s.z t.z), .int .i64 (cmpI s.y t.y)] → Calls Try.prog 50 #[.slice (some ⟨g, 0, none⟩) 2 2] w' fun e w'' => e = .returned (.int .i64 (cfT s t)) ∧ w' = w'' from fun g w' h => or_any g _ _ w' h)
  generalize cfT s t = r at *
  generalize cmpI s.z t.z = c1 at *
  generalize cmpI s.y t.y = c2 at *
  go_enter Try.func49, Try.ntmps49
  go_wp2_with fail
  refine forget (fun W_ => Blk W_ w.heap.size 36 (tcs s) ∧ Blk W_ (w.heap.size + 1) 36 (tcs t) ∧ GD w W_) ⟨(by repeat (first | (with_reducible assumption) | ((with_reducible refine Blk.new ?_); · first | omega | (simp; done) | (simp; omega)) | (with_reducible apply Blk.set4) | (with_reducible apply Blk.set3) | (with_reducible apply Blk.set2) | ((with_reducible refine Blk.put ?_ ?_); · first | omega | (simp; omega)) | (with_reducible refine Blk.old ?_) | (with_reducible refine Blk.drew ?_) | (with_reducible refine Blk.drewN ?_) | ((with_reducible refine Blk.below hb ?_ ?_); · first | omega | (simp; done) | (simp; omega)))), (by repeat (first | (with_reducible assumption) | ((with_reducible refine Blk.new ?_); · first | omega | (simp; done) | (simp; omega)) | (with_reducible apply Blk.set4) | (with_reducible apply Blk.set3) | (with_reducible apply Blk.set2) | ((with_reducible refine Blk.put ?_ ?_); · first | omega | (simp; omega)) | (with_reducible refine Blk.old ?_) | (with_reducible refine Blk.drew ?_) | (with_reducible refine Blk.drewN ?_) | ((with_reducible refine Blk.below hb ?_ ?_); · first | omega | (simp; done) | (simp; omega)))), (GD.refl w).alloc _ |>.alloc _⟩ ?_
  rintro wa ⟨Ba, Bb, ka⟩
  have qa := Ba.t
  have qb := Bb.t
  have la := Ba.lt
  have lb := Bb.lt
  go_cut [4] (fun s_ wx => s_ = .int .i64 r ∧ GD w wx)
  case first =>
    refine wp_region_still_tail 10 (by kernel_rfl) (by kernel_rfl) ?_
    simp only [List.take_succ_cons, List.take_zero, List.drop_succ_cons, List.drop_zero]
    iterate 4 still_step
    still_call ((HA.out _).mono fun _ _ h => ⟨h.1, h.2.symm⟩)
    iterate 4 still_step
    still_call ((HB.out _).mono fun _ _ h => ⟨h.1, h.2.symm⟩)
    refine wpStill_nil ?_
    change wpList _ _ _ _ _ wa.drew
    go_wp2_with fail
    refine (HO.out _ _ (Blk.drew (Blk.new rfl))).mono ?_
    rintro e w' ⟨rfl, rfl⟩
    go_wp2_with fail
    go_meet
    exact ⟨rfl, (ka.alloc _).drew⟩
  case rest =>
    obtain ⟨rfl, hk⟩ := hcut
    go_wp2
    go_ret
    exact ⟨rfl, hk⟩

end Go.Proofs.Ytbmkpcenjjdflaa
