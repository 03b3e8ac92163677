/- Pairs of rests: normal pairs, both walks. -/
import Derived.Test.Ytamkbgodenkboaa01c
import Derived.Test.YtamkbgodenkboaaRow
import Derived.Test.YtamkbgodenkboaaAct
import Derived.Test.YtamkbgodenkboaaTurn
import Derived.Test.YtamkbgodenkboaaMatS
namespace Go.Proofs.Ytamkbgodenkboaa
open Go.RowKit
set_option linter.unusedSimpArgs false

/-- Go's == at arrays of int64. -/
theorem all_range_ints : ∀ (xs ys : List Int), xs.length = ys.length → ((List.range xs.length).all fun i => xs.getD i 0 == ys.getD i 0) = (xs == ys)
  | [], [], _ => rfl
  | x :: xs, y :: ys, h => by
    have ih := all_range_ints xs ys (by simpa using h)
    rw [List.length_cons, List.range_succ_eq_map, List.all_cons, List.all_map]
    have : ((fun i => (x :: xs).getD i 0 == (y :: ys).getD i 0) ∘ Nat.succ) = fun i => xs.getD i 0 == ys.getD i 0 := by funext i; simp
    rw [this, ih]
    simp [List.cons_beq_cons]
  | [], _ :: _, h => by simp at h
  | _ :: _, [], h => by simp at h
theorem run_equalIn_ints {P : Program} (w : World) (d : Nat) (t e : TypeId) (n : Nat) (ht : P.underlying t = some (.array n e)) (he : P.underlying e = some (.int .i64)) (hsz : ∀ w, (sizeOf e).run P w = .ok 1 w)
    (xs ys : List Int) (hx : xs.length = n) (hy : ys.length = n) :
    (Op.equalIn (d + 2) t (.agg (xs.map (Value.int .i64)).toArray) (.agg (ys.map (Value.int .i64)).toArray)).run P w = .ok (xs == ys) w := by
  rw [← all_range_ints xs ys (hx.trans hy.symm), hx, List.range_eq_range', Op.equalIn]
  simp only [Sem.run_bind, run_underlying ht, Result.andThen_ok, hsz, Std.Legacy.Range.forIn_eq_forIn_range', Std.Legacy.Range.size, Nat.sub_zero, Nat.add_sub_cancel, Nat.div_one]
  have hl : ∀ i ∈ List.range' 0 n 1, i < n := fun i hi => by simpa using (List.mem_range'_1.1 hi).2
  generalize List.range' 0 n 1 = l at hl ⊢
  induction l with
  | nil => simp
  | cons i l ih =>
    have hi : i < n := hl i (by simp)
    have px : (part e (xs.map (Value.int .i64)).toArray (i * 1)).run P w = .ok (.int .i64 (xs.getD i 0)) w := by
      simp [part, isAgg, run_underlying he, List.getD, List.getElem?_eq_getElem (show i < xs.length by omega)]
    have py : (part e (ys.map (Value.int .i64)).toArray (i * 1)).run P w = .ok (.int .i64 (ys.getD i 0)) w := by
      simp [part, isAgg, run_underlying he, List.getD, List.getElem?_eq_getElem (show i < ys.length by omega)]
    have pe : (Op.equalIn (d + 1) e (.int .i64 (xs.getD i 0)) (.int .i64 (ys.getD i 0))).run P w = .ok (xs.getD i 0 == ys.getD i 0) w := run_equalIn_int w d e .i64 .i64 _ _ he
    simp only [List.forIn_cons, Sem.run_bind, px, py, pe, Result.andThen_ok, List.all_cons]
    cases hb : (xs.getD i 0 == ys.getD i 0)
    · simp
    · simp only [Bool.not_true, Bool.false_eq_true, if_false, Sem.run_pure, Result.andThen_ok, Bool.true_and]
      exact ih fun j hj => hl j (by simp [hj])

/-- A pair's cells. -/
abbrev pcs (x : Nat × Nat) : Array Value := #[.int .i64 (x.1 : Int), .int .i64 (x.2 : Int)]
theorem run_equalInP (x y : Nat × Nat) (w : World) : (Op.equalIn 10000 142 (.agg #[.int .i64 (x.1 : Int), .int .i64 (x.2 : Int)]) (.agg #[.int .i64 (y.1 : Int), .int .i64 (y.2 : Int)])).run Try.prog w = .ok (decide (x = y)) w := by
  have e := run_equalIn_ints w 9998 142 2 2 Try.underlying142 Try.underlying2 Try.sizeOf2 [(x.1 : Int), (x.2 : Int)] [(y.1 : Int), (y.2 : Int)] rfl rfl
  rw [show ([(x.1 : Int), (x.2 : Int)] == [(y.1 : Int), (y.2 : Int)]) = decide (x = y) by
    rw [Bool.eq_iff_iff]
    obtain ⟨a, b⟩ := x
    obtain ⟨c, d⟩ := y
    simp
    omega] at e
  exact e

/-- Is the first pair before the second one? -/
def ltP (x y : Nat × Nat) : Prop := x.1 < y.1 ∨ x.1 = y.1 ∧ x.2 < y.2
instance (x y : Nat × Nat) : Decidable (ltP x y) := by unfold ltP; infer_instance
def nst (n c d k : Nat) (b : Nat × Nat) : Nat × Nat := if Nat.gcd k n = 1 ∧ ltP (k * c % n, k * d % n) b then (k * c % n, k * d % n) else b
/-- The least one of the multiples by the units up to k. -/
def nrm (n c d : Nat) : Nat → Nat × Nat
  | 0 => (c, d)
  | k + 1 => nst n c d (k + 1) (nrm n c d k)
theorem nrm_lt {n c d : Nat} (hc : c < n) (hd : d < n) (k : Nat) : (nrm n c d k).1 < n ∧ (nrm n c d k).2 < n := by
  induction k with
  | zero => exact ⟨hc, hd⟩
  | succ k ih =>
    simp only [nrm, nst]
    split
    · exact ⟨Nat.mod_lt _ (by omega), Nat.mod_lt _ (by omega)⟩
    · exact ih
def nrmN (n c d : Nat) : Nat × Nat := nrm n c d (n - 1)
theorem tmod_nat (k c n : Nat) : ((k : Int) * (c : Int)).tmod (n : Int) = ((k * c % n : Nat) : Int) := by
  rw [← Int.natCast_mul, ← Int.ofNat_tmod]

set_option maxHeartbeats 400000 in
theorem isPair_any (n c d : Nat) (w : World) (hn : 1 ≤ n ∧ n ≤ 60) (hc : c < n) (hd : d < n) :
    Calls Try.prog 129 #[.int .i64 (n : Int), .agg #[.int .i64 (c : Int), .int .i64 (d : Int)]] w fun e w' => e = .returned (.bool (decide (Nat.gcd (Nat.gcd c d) n = 1))) ∧ Below w.heap.size w w' := by
  have hg : Nat.gcd c d ≤ 60 := by
    by_cases h : c = 0
    · subst h; rw [Nat.gcd_zero_left]; omega
    · have := Nat.gcd_le_left d (show 0 < c by omega); omega
  have H1 := Lib.hid (show Int.gcd (c : Int) (d : Int) = Nat.gcd c d from rfl)
  have H2 := Lib.hid (show Int.gcd ((Nat.gcd c d : Nat) : Int) (n : Int) = Nat.gcd (Nat.gcd c d) n from rfl)
  go_enter Try.func129, Try.ntmps129
  go_wp2_with fail
  refine (divisor_any (c : Int) (d : Int) _ (by omega) (by omega) (by omega) (by omega)).mono ?_
  rw [H1.out]
  rintro e w1 ⟨rfl, hb⟩
  have k1 : Below w.heap.size w w1 := (by repeat (first | (with_reducible exact Below.refl _ _) | (with_reducible assumption) | (with_reducible refine Below.drew ?_) | (with_reducible refine Below.drewN ?_) | ((with_reducible refine Below.al ?_ ?_); · first | omega | (simp; done) | (simp; omega)) | ((with_reducible refine Below.sc ?_ ?_); · first | omega | (simp; done) | (simp; omega)) | ((with_reducible refine Below.thru hb ?_ ?_); · first | omega | (simp; done) | (simp; omega))))
  have s1 := k1.size
  clear hb
  go_wp2_with fail
  refine (divisor_any _ (n : Int) _ (by omega) (by omega) (by omega) (by omega)).mono ?_
  rw [H2.out]
  rintro e w2 ⟨rfl, hb⟩
  have k2 : Below w.heap.size w w2 := (by repeat (first | (with_reducible exact Below.refl _ _) | (with_reducible assumption) | (with_reducible refine Below.drew ?_) | (with_reducible refine Below.drewN ?_) | ((with_reducible refine Below.al ?_ ?_); · first | omega | (simp; done) | (simp; omega)) | ((with_reducible refine Below.sc ?_ ?_); · first | omega | (simp; done) | (simp; omega)) | ((with_reducible refine Below.thru hb ?_ ?_); · first | omega | (simp; done) | (simp; omega))))
  clear hb
  go_wp2
  go_ret
  exact ⟨ret_bool (by rw [Bool.eq_iff_iff]; simp; omega), k2⟩

theorem isNaN_any (a : Int) (w : World) : Calls Try.prog 168 #[.int .i64 a] w fun e w' => e = .returned (.bool false) ∧ w = w' := by
  go_enter Try.func168, Try.ntmps168
  go_wp2
  go_ret
  exact ⟨ret_bool (by simp), rfl⟩
def cmpI (a b : Int) : Int := if a < b then -1 else if b < a then 1 else 0
theorem cmpI_any (a b : Int) (w : World) : Calls Try.prog 164 #[.int .i64 a, .int .i64 b] w fun e w' => e = .returned (.int .i64 (cmpI a b)) ∧ w = w' := by
  by_cases h1 : a < b
  · go_enter Try.func164, Try.ntmps164
    go_wp2_with (go_at_call 168; refine (isNaN_any _ _).mono ?_; rintro e w' ⟨rfl, rfl⟩)
    go_ret
    exact ⟨ret_int (by simp [cmpI, h1]), rfl⟩
  · by_cases h2 : b < a
    · go_enter Try.func164, Try.ntmps164
      go_wp2_with (go_at_call 168; refine (isNaN_any _ _).mono ?_; rintro e w' ⟨rfl, rfl⟩)
      go_ret
      exact ⟨ret_int (by unfold cmpI; (repeat' split) <;> omega), rfl⟩
    · go_enter Try.func164, Try.ntmps164
      go_wp2_with (go_at_call 168; refine (isNaN_any _ _).mono ?_; rintro e w' ⟨rfl, rfl⟩)
      go_ret
      exact ⟨ret_int (by unfold cmpI; (repeat' split) <;> omega), rfl⟩

/-- Two pairs compared. -/
def cmpP (x y : Nat × Nat) : Int := if cmpI x.1 y.1 ≠ 0 then cmpI x.1 y.1 else cmpI x.2 y.2
theorem cmpP_lt (x y : Nat × Nat) : cmpP x y < 0 ↔ ltP x y := by
  unfold cmpP cmpI ltP
  repeat' split
  all_goals omega
theorem cmpP_bd (x y : Nat × Nat) : -1 ≤ cmpP x y ∧ cmpP x y ≤ 1 := by
  unfold cmpP cmpI
  repeat' split
  all_goals omega
set_option maxHeartbeats 1000000 in
theorem compareP_any (g h : Nat) (x y : Nat × Nat) (w : World) (c0 : w.cell? ⟨g, 0, none⟩ = some (.int .i64 (x.1 : Int))) (c1 : w.cell? ⟨g, 1, none⟩ = some (.int .i64 (x.2 : Int))) (d0 : w.cell? ⟨h, 0, none⟩ = some (.int .i64 (y.1 : Int))) (d1 : w.cell? ⟨h, 1, none⟩ = some (.int .i64 (y.2 : Int))) :
    Calls Try.prog 155 #[.slice (some ⟨g, 0, none⟩) 2 2, .slice (some ⟨h, 0, none⟩) 2 2] w fun e w' => e = .returned (.int .i64 (cmpP x y)) ∧ w = w' := by
  by_cases h1 : cmpI x.1 y.1 = 0
  · have HC := Lib.hid (show cmpP x y = cmpI x.2 y.2 by unfold cmpP; rw [if_neg (fun h => h h1)])
    have A1 := fun w : World => cmpI_any x.1 y.1 w
    rw [h1] at A1
    clear h1
    by_cases h2 : cmpI x.2 y.2 = 0
    · rw [h2] at HC
      have A2 := fun w : World => cmpI_any x.2 y.2 w
      rw [h2] at A2
      clear h2
      go_enter Try.func155, Try.ntmps155
      go_wp2
      refine wp_loop_rounds 3 ?_
      rw [rounds_succ]
      go_wp2_with fail
      refine (A1 _).mono ?_
      rintro e w' ⟨rfl, rfl⟩
      go_wp2
      rw [rounds_succ]
      go_wp2_with fail
      refine (A2 _).mono ?_
      rintro e w' ⟨rfl, rfl⟩
      go_wp2
      rw [rounds_succ]
      go_wp2
      go_ret
      exact ⟨ret_int HC.out.symm, rfl⟩
    · have A2 := fun w : World => cmpI_any x.2 y.2 w
      have hr : -1 ≤ cmpI x.2 y.2 ∧ cmpI x.2 y.2 ≤ 1 := by unfold cmpI; split <;> (try split) <;> omega
      generalize cmpI (x.2 : Int) (y.2 : Int) = r at *
      go_enter Try.func155, Try.ntmps155
      go_wp2
      refine wp_loop_rounds 3 ?_
      rw [rounds_succ]
      go_wp2_with fail
      refine (A1 _).mono ?_
      rintro e w' ⟨rfl, rfl⟩
      go_wp2
      rw [rounds_succ]
      go_wp2_with fail
      refine (A2 _).mono ?_
      rintro e w' ⟨rfl, rfl⟩
      go_wp2
      go_ret
      exact ⟨ret_int HC.out.symm, rfl⟩
  · have HC := Lib.hid (show cmpP x y = cmpI x.1 y.1 by unfold cmpP; rw [if_pos h1])
    have A1 := fun w : World => cmpI_any x.1 y.1 w
    have hr : -1 ≤ cmpI x.1 y.1 ∧ cmpI x.1 y.1 ≤ 1 := by unfold cmpI; split <;> (try split) <;> omega
    generalize cmpI (x.1 : Int) (y.1 : Int) = r at *
    go_enter Try.func155, Try.ntmps155
    go_wp2
    refine wp_loop_rounds 3 ?_
    rw [rounds_succ]
    go_wp2_with fail
    refine (A1 _).mono ?_
    rintro e w' ⟨rfl, rfl⟩
    go_wp2
    go_ret
    exact ⟨ret_int HC.out.symm, rfl⟩

end Go.Proofs.Ytamkbgodenkboaa
