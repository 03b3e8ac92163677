/- Triples by value and in slices: the laws' functions that compare, mark and hold them. -/
import Derived.Test.YtcijbgfiefmdkaaSl
namespace Go.Proofs.Ytcijbgfiefmdkaa
open Go.RowKit

structure T3 where
  x : Int
  y : Int
  z : Int
deriving DecidableEq
abbrev tcs (t : T3) : Array Value := #[.int .i64 t.x, .int .i64 t.y, .int .i64 t.z]
abbrev tv (t : T3) : Value := .agg #[.int .i64 t.x, .int .i64 t.y, .int .i64 t.z]
def T3.at (t : T3) : Nat → Int
  | 0 => t.x
  | 1 => t.y
  | _ => t.z
theorem Blk.t {w : World} {g : Nat} {E : TypeId} {t : T3} (h : Blk w g E (tcs t)) : w.cell? ⟨g, 0, none⟩ = some (.int .i64 t.x) ∧ w.cell? ⟨g, 1, none⟩ = some (.int .i64 t.y) ∧ w.cell? ⟨g, 2, none⟩ = some (.int .i64 t.z) :=
  ⟨h.at rfl, h.at rfl, h.at rfl⟩
theorem Blk.tf {w : World} {g : Nat} {E : TypeId} {t : T3} (h : Blk w g E (tcs t)) : w.frozen? ⟨g, 0, none⟩ = false ∧ w.frozen? ⟨g, 1, none⟩ = false ∧ w.frozen? ⟨g, 2, none⟩ = false :=
  ⟨h.free _, h.free _, h.free _⟩

set_option maxHeartbeats 1000000 in
theorem eqTriple_any (s t : T3) (w : World) :
    Calls Try.prog 12 #[.agg #[.int .i64 s.x, .int .i64 s.y, .int .i64 s.z], .agg #[.int .i64 t.x, .int .i64 t.y, .int .i64 t.z]] w fun e w' => e = .returned (.bool (decide (s = t))) ∧ Below w.heap.size w w' := by
  have F : decide (s = t) = ((s.x == t.x) && ((s.y == t.y) && (s.z == t.z))) := by
    rw [Bool.eq_iff_iff]; simp; constructor
    · rintro rfl; simp
    · rintro ⟨h1, h2, h3⟩; cases s; cases t; simp_all
  have HF := Lib.hid F
  clear F
  cases h1 : (s.x != t.x) with
  | true =>
    go_enter Try.func12, Try.ntmps12
    go_wp2
    refine wp_loop_rounds 4 ?_
    rw [rounds_succ]
    go_wp2_with fail
    go_quiet (fail)
    go_wp2
    go_ret
    exact ⟨ret_bool (by rw [HF.out]; simp at h1; simp [h1]), (by repeat (first | (with_reducible exact Below.refl _ _) | (with_reducible assumption) | (with_reducible refine Below.drew ?_) | (with_reducible refine Below.drewN ?_) | ((with_reducible refine Below.al ?_ ?_); · first | omega | (simp; done) | (simp; omega)) | ((with_reducible refine Below.sc ?_ ?_); · first | omega | (simp; done) | (simp; omega)) | ((with_reducible refine Below.thru hb ?_ ?_); · first | omega | (simp; done) | (simp; omega))))⟩
  | false =>
    cases h2 : (s.y != t.y) with
    | true =>
      go_enter Try.func12, Try.ntmps12
      go_wp2
      refine wp_loop_rounds 4 ?_
      rw [rounds_succ]
      go_wp2_with fail
      go_quiet (fail)
      go_wp2
      rw [rounds_succ]
      go_wp2_with fail
      go_quiet (fail)
      go_wp2
      go_ret
      exact ⟨ret_bool (by rw [HF.out]; simp at h2; simp [h2]), (by repeat (first | (with_reducible exact Below.refl _ _) | (with_reducible assumption) | (with_reducible refine Below.drew ?_) | (with_reducible refine Below.drewN ?_) | ((with_reducible refine Below.al ?_ ?_); · first | omega | (simp; done) | (simp; omega)) | ((with_reducible refine Below.sc ?_ ?_); · first | omega | (simp; done) | (simp; omega)) | ((with_reducible refine Below.thru hb ?_ ?_); · first | omega | (simp; done) | (simp; omega))))⟩
    | false =>
      cases h3 : (s.z != t.z) with
      | true =>
        go_enter Try.func12, Try.ntmps12
        go_wp2
        refine wp_loop_rounds 4 ?_
        rw [rounds_succ]
        go_wp2_with fail
        go_quiet (fail)
        go_wp2
        rw [rounds_succ]
        go_wp2_with fail
        go_quiet (fail)
        go_wp2
        rw [rounds_succ]
        go_wp2_with fail
        go_quiet (fail)
        go_wp2
        go_ret
        exact ⟨ret_bool (by rw [HF.out]; simp at h3; simp [h3]), (by repeat (first | (with_reducible exact Below.refl _ _) | (with_reducible assumption) | (with_reducible refine Below.drew ?_) | (with_reducible refine Below.drewN ?_) | ((with_reducible refine Below.al ?_ ?_); · first | omega | (simp; done) | (simp; omega)) | ((with_reducible refine Below.sc ?_ ?_); · first | omega | (simp; done) | (simp; omega)) | ((with_reducible refine Below.thru hb ?_ ?_); · first | omega | (simp; done) | (simp; omega))))⟩
      | false =>
        go_enter Try.func12, Try.ntmps12
        go_wp2
        refine wp_loop_rounds 4 ?_
        rw [rounds_succ]
        go_wp2_with fail
        go_quiet (fail)
        go_wp2
        rw [rounds_succ]
        go_wp2_with fail
        go_quiet (fail)
        go_wp2
        rw [rounds_succ]
        go_wp2_with fail
        go_quiet (fail)
        go_wp2
        rw [rounds_succ]
        go_wp2
        go_ret
        exact ⟨ret_bool (by rw [HF.out]; simp at h1 h2 h3; simp [h1, h2, h3]), (by repeat (first | (with_reducible exact Below.refl _ _) | (with_reducible assumption) | (with_reducible refine Below.drew ?_) | (with_reducible refine Below.drewN ?_) | ((with_reducible refine Below.al ?_ ?_); · first | omega | (simp; done) | (simp; omega)) | ((with_reducible refine Below.sc ?_ ?_); · first | omega | (simp; done) | (simp; omega)) | ((with_reducible refine Below.thru hb ?_ ?_); · first | omega | (simp; done) | (simp; omega))))⟩

end Go.Proofs.Ytcijbgfiefmdkaa
