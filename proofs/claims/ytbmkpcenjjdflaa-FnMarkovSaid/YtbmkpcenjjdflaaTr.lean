/- Triples by value and in slices: the laws' functions that compare, mark and hold them. -/
import Derived.Test.YtbmkpcenjjdflaaSl
import Derived.Laws.StructEq
namespace Go.Proofs.Ytbmkpcenjjdflaa
open Go.RowKit

structure T3 where
  x : Int
  y : Int
  z : Int
deriving DecidableEq
abbrev tcs (t : T3) : Array Value := #[.int .i64 t.x, .int .i64 t.y, .int .i64 t.z]
abbrev tv (t : T3) : Value := .agg #[.int .i64 t.x, .int .i64 t.y, .int .i64 t.z]
def T3.at (t : T3) : Nat → Int
  | 0 => t.x
  | 1 => t.y
  | _ => t.z
theorem Blk.t {w : World} {g : Nat} {E : TypeId} {t : T3} (h : Blk w g E (tcs t)) : w.cell? ⟨g, 0, none⟩ = some (.int .i64 t.x) ∧ w.cell? ⟨g, 1, none⟩ = some (.int .i64 t.y) ∧ w.cell? ⟨g, 2, none⟩ = some (.int .i64 t.z) :=
  ⟨h.at rfl, h.at rfl, h.at rfl⟩
theorem Blk.tf {w : World} {g : Nat} {E : TypeId} {t : T3} (h : Blk w g E (tcs t)) : w.frozen? ⟨g, 0, none⟩ = false ∧ w.frozen? ⟨g, 1, none⟩ = false ∧ w.frozen? ⟨g, 2, none⟩ = false :=
  ⟨h.free _, h.free _, h.free _⟩

/-- Go's == at arrays of int64. -/
theorem all_range_ints : ∀ (xs ys : List Int), xs.length = ys.length → ((List.range xs.length).all fun i => xs.getD i 0 == ys.getD i 0) = (xs == ys)
  | [], [], _ => rfl
  | x :: xs, y :: ys, h => by
    have ih := all_range_ints xs ys (by simpa using h)
    rw [List.length_cons, List.range_succ_eq_map, List.all_cons, List.all_map]
    have : ((fun i => (x :: xs).getD i 0 == (y :: ys).getD i 0) ∘ Nat.succ) = fun i => xs.getD i 0 == ys.getD i 0 := by funext i; simp
    rw [this, ih]
    simp [List.cons_beq_cons]
  | [], _ :: _, h => by simp at h
  | _ :: _, [], h => by simp at h
theorem run_equalIn_ints {P : Program} (w : World) (d : Nat) (t e : TypeId) (n : Nat) (ht : P.underlying t = some (.array n e)) (he : P.underlying e = some (.int .i64)) (hsz : ∀ w, (sizeOf e).run P w = .ok 1 w)
    (xs ys : List Int) (hx : xs.length = n) (hy : ys.length = n) :
    (Op.equalIn (d + 2) t (.agg (xs.map (Value.int .i64)).toArray) (.agg (ys.map (Value.int .i64)).toArray)).run P w = .ok (xs == ys) w := by
  rw [← all_range_ints xs ys (hx.trans hy.symm), hx, List.range_eq_range', Op.equalIn]
  simp only [Sem.run_bind, run_underlying ht, Result.andThen_ok, hsz, Std.Legacy.Range.forIn_eq_forIn_range', Std.Legacy.Range.size, Nat.sub_zero, Nat.add_sub_cancel, Nat.div_one]
  have hl : ∀ i ∈ List.range' 0 n 1, i < n := fun i hi => by simpa using (List.mem_range'_1.1 hi).2
  generalize List.range' 0 n 1 = l at hl ⊢
  induction l with
  | nil => simp
  | cons i l ih =>
    have hi : i < n := hl i (by simp)
    have px : (part e (xs.map (Value.int .i64)).toArray (i * 1)).run P w = .ok (.int .i64 (xs.getD i 0)) w := by
      simp [part, isAgg, run_underlying he, List.getD, List.getElem?_eq_getElem (show i < xs.length by omega)]
    have py : (part e (ys.map (Value.int .i64)).toArray (i * 1)).run P w = .ok (.int .i64 (ys.getD i 0)) w := by
      simp [part, isAgg, run_underlying he, List.getD, List.getElem?_eq_getElem (show i < ys.length by omega)]
    have pe : (Op.equalIn (d + 1) e (.int .i64 (xs.getD i 0)) (.int .i64 (ys.getD i 0))).run P w = .ok (xs.getD i 0 == ys.getD i 0) w := run_equalIn_int w d e .i64 .i64 _ _ he
    simp only [List.forIn_cons, Sem.run_bind, px, py, pe, Result.andThen_ok, List.all_cons]
    cases hb : (xs.getD i 0 == ys.getD i 0)
    · simp
    · simp only [Bool.not_true, Bool.false_eq_true, if_false, Sem.run_pure, Result.andThen_ok, Bool.true_and]
      exact ih fun j hj => hl j (by simp [hj])
theorem T3.beq (s t : T3) : ([s.x, s.y, s.z] == [t.x, t.y, t.z]) = decide (s = t) := by
  rw [Bool.eq_iff_iff]
  cases s; cases t; simp
theorem run_equalInT (s t : T3) (w : World) : (Op.equalIn 10000 36 (.agg #[.int .i64 s.x, .int .i64 s.y, .int .i64 s.z]) (.agg #[.int .i64 t.x, .int .i64 t.y, .int .i64 t.z])).run Try.prog w = .ok (decide (s = t)) w := by
  have e := run_equalIn_ints w 9998 36 2 3 Try.underlying36 Try.underlying2 Try.sizeOf2 [s.x, s.y, s.z] [t.x, t.y, t.z] rfl rfl
  rw [T3.beq] at e
  exact e
theorem run_neqT (s t : T3) (w : World) : (binOp .neq 36 (tv s) (tv t)).run Try.prog w = .ok (.bool (!decide (s = t))) w := by
  have e := run_equalIn_ints w 9998 36 2 3 Try.underlying36 Try.underlying2 Try.sizeOf2 [s.x, s.y, s.z] [t.x, t.y, t.z] rfl rfl
  rw [T3.beq] at e
  have e' : (Op.equalIn 10000 36 (tv s) (tv t)).run Try.prog w = .ok (decide (s = t)) w := e
  rw [run_neq_struct, e']
  rfl
theorem run_eqlT (s t : T3) (w : World) : (binOp .eql 36 (tv s) (tv t)).run Try.prog w = .ok (.bool (decide (s = t))) w := by
  have e := run_equalIn_ints w 9998 36 2 3 Try.underlying36 Try.underlying2 Try.sizeOf2 [s.x, s.y, s.z] [t.x, t.y, t.z] rfl rfl
  rw [T3.beq] at e
  have e' : (Op.equalIn 10000 36 (tv s) (tv t)).run Try.prog w = .ok (decide (s = t)) w := e
  rw [run_eql_struct, e']
  rfl

set_option maxHeartbeats 1000000 in
theorem eqTriple_any (s t : T3) (w : World) :
    Calls Try.prog 33 #[.agg #[.int .i64 s.x, .int .i64 s.y, .int .i64 s.z], .agg #[.int .i64 t.x, .int .i64 t.y, .int .i64 t.z]] w fun e w' => e = .returned (.bool (decide (s = t))) ∧ Below w.heap.size w w' := by
  have F : decide (s = t) = ((s.x == t.x) && ((s.y == t.y) && (s.z == t.z))) := by
    rw [Bool.eq_iff_iff]; simp; constructor
    · rintro rfl; simp
    · rintro ⟨h1, h2, h3⟩; cases s; cases t; simp_all
  have HF := Lib.hid F
  clear F
  cases h1 : (s.x != t.x) with
  | true =>
    go_enter Try.func33, Try.ntmps33
    go_wp2
    refine wp_loop_rounds 4 ?_
    rw [rounds_succ]
    go_wp2_with fail
    go_quiet (fail)
    go_wp2
    go_ret
    exact ⟨ret_bool (by rw [HF.out]; simp at h1; simp [h1]), (by repeat (first | (with_reducible exact Below.refl _ _) | (with_reducible assumption) | (with_reducible refine Below.drew ?_) | (with_reducible refine Below.drewN ?_) | ((with_reducible refine Below.al ?_ ?_); · first | omega | (simp; done) | (simp; omega)) | ((with_reducible refine Below.sc ?_ ?_); · first | omega | (simp; done) | (simp; omega)) | ((with_reducible refine Below.thru hb ?_ ?_); · first | omega | (simp; done) | (simp; omega))))⟩
  | false =>
    cases h2 : (s.y != t.y) with
    | true =>
      go_enter Try.func33, Try.ntmps33
      go_wp2
      refine wp_loop_rounds 4 ?_
      rw [rounds_succ]
      go_wp2_with fail
      go_quiet (fail)
      go_wp2
      rw [rounds_succ]
      go_wp2_with fail
      go_quiet (fail)
      go_wp2
      go_ret
      exact ⟨ret_bool (by rw [HF.out]; simp at h2; simp [h2]), (by repeat (first | (with_reducible exact Below.refl _ _) | (with_reducible assumption) | (with_reducible refine Below.drew ?_) | (with_reducible refine Below.drewN ?_) | ((with_reducible refine Below.al ?_ ?_); · first | omega | (simp; done) | (simp; omega)) | ((with_reducible refine Below.sc ?_ ?_); · first | omega | (simp; done) | (simp; omega)) | ((with_reducible refine Below.thru hb ?_ ?_); · first | omega | (simp; done) | (simp; omega))))⟩
    | false =>
      cases h3 : (s.z != t.z) with
      | true =>
        go_enter Try.func33, Try.ntmps33
        go_wp2
        refine wp_loop_rounds 4 ?_
        rw [rounds_succ]
        go_wp2_with fail
        go_quiet (fail)
        go_wp2
        rw [rounds_succ]
        go_wp2_with fail
        go_quiet (fail)
        go_wp2
        rw [rounds_succ]
        go_wp2_with fail
        go_quiet (fail)
        go_wp2
        go_ret
        exact ⟨ret_bool (by rw [HF.out]; simp at h3; simp [h3]), (by repeat (first | (with_reducible exact Below.refl _ _) | (with_reducible assumption) | (with_reducible refine Below.drew ?_) | (with_reducible refine Below.drewN ?_) | ((with_reducible refine Below.al ?_ ?_); · first | omega | (simp; done) | (simp; omega)) | ((with_reducible refine Below.sc ?_ ?_); · first | omega | (simp; done) | (simp; omega)) | ((with_reducible refine Below.thru hb ?_ ?_); · first | omega | (simp; done) | (simp; omega))))⟩
      | false =>
        go_enter Try.func33, Try.ntmps33
        go_wp2
        refine wp_loop_rounds 4 ?_
        rw [rounds_succ]
        go_wp2_with fail
        go_quiet (fail)
        go_wp2
        rw [rounds_succ]
        go_wp2_with fail
        go_quiet (fail)
        go_wp2
        rw [rounds_succ]
        go_wp2_with fail
        go_quiet (fail)
        go_wp2
        rw [rounds_succ]
        go_wp2
        go_ret
        exact ⟨ret_bool (by rw [HF.out]; simp at h1 h2 h3; simp [h1, h2, h3]), (by repeat (first | (with_reducible exact Below.refl _ _) | (with_reducible assumption) | (with_reducible refine Below.drew ?_) | (with_reducible refine Below.drewN ?_) | ((with_reducible refine Below.al ?_ ?_); · first | omega | (simp; done) | (simp; omega)) | ((with_reducible refine Below.sc ?_ ?_); · first | omega | (simp; done) | (simp; omega)) | ((with_reducible refine Below.thru hb ?_ ?_); · first | omega | (simp; done) | (simp; omega))))⟩

end Go.Proofs.Ytbmkpcenjjdflaa
