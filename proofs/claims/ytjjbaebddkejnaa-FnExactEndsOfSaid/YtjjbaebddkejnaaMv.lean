/- Cosets moved by matrices: the program's walks -/
import Derived.Test.YtjjbaebddkejnaaTail
import Derived.Test.Ytjjbaebddkejnaa01c
import Derived.Test.YtjjbaebddkejnaaRow
import Derived.Test.YtjjbaebddkejnaaApp
namespace Go.Proofs.Ytjjbaebddkejnaa
open Go.RowKit
set_option linter.unusedSimpArgs false

theorem infoI : (Try.prog.info? 2).map (fun i => (i.zero, i.size, i.bytes)) = some (some (.int .i64 0), 1, 8) := by kernel_rfl
theorem rest_eq (a n : Int) (hn : 1 ≤ n) : (a.tmod n + n).tmod n = a % n := by
  by_cases ha : 0 ≤ a
  · rw [Int.tmod_eq_emod_of_nonneg ha]
    have h1 := Int.emod_nonneg a (show n ≠ 0 by omega)
    rw [Int.tmod_eq_emod_of_nonneg (by omega), Int.add_emod_right, Int.emod_emod]
  · obtain ⟨b, rfl⟩ : ∃ b, a = -b := ⟨-a, by omega⟩
    rw [Int.neg_tmod, Int.tmod_eq_emod_of_nonneg (show 0 ≤ b by omega)]
    have h2 := Int.emod_lt_of_pos b (show 0 < n by omega)
    rw [Int.tmod_eq_emod_of_nonneg (by omega), Int.add_emod_right, show -(b % n) = 0 - b % n by omega, show -b = 0 - b by omega, Int.sub_emod, Int.emod_emod, ← Int.sub_emod]
theorem tmod_bd (a n : Int) (hn : 1 ≤ n) : -n < a.tmod n ∧ a.tmod n < n := by
  by_cases ha : 0 ≤ a
  · rw [Int.tmod_eq_emod_of_nonneg ha]
    have h1 := Int.emod_nonneg a (show n ≠ 0 by omega)
    have h2 := Int.emod_lt_of_pos a (show 0 < n by omega)
    omega
  · obtain ⟨b, rfl⟩ : ∃ b, a = -b := ⟨-a, by omega⟩
    rw [Int.neg_tmod, Int.tmod_eq_emod_of_nonneg (show 0 ≤ b by omega)]
    have h1 := Int.emod_nonneg b (show n ≠ 0 by omega)
    have h2 := Int.emod_lt_of_pos b (show 0 < n by omega)
    omega
set_option maxRecDepth 8000 in
set_option maxHeartbeats 400000 in
theorem rest_any (a n : Int) (w : World) (hn : 1 ≤ n) (hn2 : n ≤ 1000000000) :
    Calls Try.prog 54 #[.int .i64 a, .int .i64 n] w fun e w' => e = .returned (.int .i64 (a % n)) ∧ Below w.heap.size w w' := by
  have hb := tmod_bd a n hn
  have HR := Lib.hid (show (a.tmod n + n) % n = a % n by rw [← Int.tmod_eq_emod_of_nonneg (by omega)]; exact rest_eq a n hn)
  go_enter Try.func54, Try.ntmps54
  go_wp2
  go_ret
  exact ⟨ret_int HR.out, (by repeat (first | (with_reducible exact Below.refl _ _) | (with_reducible assumption) | (with_reducible refine Below.drew ?_) | (with_reducible refine Below.drewN ?_) | ((with_reducible refine Below.al ?_ ?_); · first | omega | (simp; done) | (simp; omega)) | ((with_reducible refine Below.sc ?_ ?_); · first | omega | (simp; done) | (simp; omega)) | ((with_reducible refine Below.thru hb ?_ ?_); · first | omega | (simp; done) | (simp; omega))))⟩
theorem Blk.p2 {w : World} {g : Nat} {E : TypeId} {x y : Value} (h : Blk w g E #[x, y]) : w.cell? ⟨g, 0, none⟩ = some x ∧ w.cell? ⟨g, 1, none⟩ = some y := ⟨h.at rfl, h.at rfl⟩
/-- Go's == at arrays of int64. -/
theorem all_range_ints : ∀ (xs ys : List Int), xs.length = ys.length → ((List.range xs.length).all fun i => xs.getD i 0 == ys.getD i 0) = (xs == ys)
  | [], [], _ => rfl
  | x :: xs, y :: ys, h => by
    have ih := all_range_ints xs ys (by simpa using h)
    rw [List.length_cons, List.range_succ_eq_map, List.all_cons, List.all_map]
    have : ((fun i => (x :: xs).getD i 0 == (y :: ys).getD i 0) ∘ Nat.succ) = fun i => xs.getD i 0 == ys.getD i 0 := by funext i; simp
    rw [this, ih]
    simp [List.cons_beq_cons]
  | [], _ :: _, h => by simp at h
  | _ :: _, [], h => by simp at h
theorem run_equalIn_ints {P : Program} (w : World) (d : Nat) (t e : TypeId) (n : Nat) (ht : P.underlying t = some (.array n e)) (he : P.underlying e = some (.int .i64)) (hsz : ∀ w, (sizeOf e).run P w = .ok 1 w)
    (xs ys : List Int) (hx : xs.length = n) (hy : ys.length = n) :
    (Op.equalIn (d + 2) t (.agg (xs.map (Value.int .i64)).toArray) (.agg (ys.map (Value.int .i64)).toArray)).run P w = .ok (xs == ys) w := by
  rw [← all_range_ints xs ys (hx.trans hy.symm), hx, List.range_eq_range', Op.equalIn]
  simp only [Sem.run_bind, run_underlying ht, Result.andThen_ok, hsz, Std.Legacy.Range.forIn_eq_forIn_range', Std.Legacy.Range.size, Nat.sub_zero, Nat.add_sub_cancel, Nat.div_one]
  have hl : ∀ i ∈ List.range' 0 n 1, i < n := fun i hi => by simpa using (List.mem_range'_1.1 hi).2
  generalize List.range' 0 n 1 = l at hl ⊢
  induction l with
  | nil => simp
  | cons i l ih =>
    have hi : i < n := hl i (by simp)
    have px : (part e (xs.map (Value.int .i64)).toArray (i * 1)).run P w = .ok (.int .i64 (xs.getD i 0)) w := by
      simp [part, isAgg, run_underlying he, List.getD, List.getElem?_eq_getElem (show i < xs.length by omega)]
    have py : (part e (ys.map (Value.int .i64)).toArray (i * 1)).run P w = .ok (.int .i64 (ys.getD i 0)) w := by
      simp [part, isAgg, run_underlying he, List.getD, List.getElem?_eq_getElem (show i < ys.length by omega)]
    have pe : (Op.equalIn (d + 1) e (.int .i64 (xs.getD i 0)) (.int .i64 (ys.getD i 0))).run P w = .ok (xs.getD i 0 == ys.getD i 0) w := run_equalIn_int w d e .i64 .i64 _ _ he
    simp only [List.forIn_cons, Sem.run_bind, px, py, pe, Result.andThen_ok, List.all_cons]
    cases hb : (xs.getD i 0 == ys.getD i 0)
    · simp
    · simp only [Bool.not_true, Bool.false_eq_true, if_false, Sem.run_pure, Result.andThen_ok, Bool.true_and]
      exact ih fun j hj => hl j (by simp [hj])
/-- A pair's cells. -/
abbrev pcs (x : Nat × Nat) : Array Value := #[.int .i64 (x.1 : Int), .int .i64 (x.2 : Int)]
theorem run_equalInP (x y : Nat × Nat) (w : World) : (Op.equalIn 10000 55 (.agg #[.int .i64 (x.1 : Int), .int .i64 (x.2 : Int)]) (.agg #[.int .i64 (y.1 : Int), .int .i64 (y.2 : Int)])).run Try.prog w = .ok (decide (x = y)) w := by
  have e := run_equalIn_ints w 9998 55 2 2 Try.underlying55 Try.underlying2 Try.sizeOf2 [(x.1 : Int), (x.2 : Int)] [(y.1 : Int), (y.2 : Int)] rfl rfl
  rw [show ([(x.1 : Int), (x.2 : Int)] == [(y.1 : Int), (y.2 : Int)]) = decide (x = y) by
    rw [Bool.eq_iff_iff]
    obtain ⟨a, b⟩ := x
    obtain ⟨c, d⟩ := y
    simp
    omega] at e
  exact e
/-- Is the first pair before the second one? -/
def ltP (x y : Nat × Nat) : Prop := x.1 < y.1 ∨ x.1 = y.1 ∧ x.2 < y.2
instance (x y : Nat × Nat) : Decidable (ltP x y) := by unfold ltP; infer_instance
def nst (n c d k : Nat) (b : Nat × Nat) : Nat × Nat := if Nat.gcd k n = 1 ∧ ltP (k * c % n, k * d % n) b then (k * c % n, k * d % n) else b
/-- The least one of the multiples by the units up to k. -/
def nrm (n c d : Nat) : Nat → Nat × Nat
  | 0 => (c, d)
  | k + 1 => nst n c d (k + 1) (nrm n c d k)
theorem nrm_lt {n c d : Nat} (hc : c < n) (hd : d < n) (k : Nat) : (nrm n c d k).1 < n ∧ (nrm n c d k).2 < n := by
  induction k with
  | zero => exact ⟨hc, hd⟩
  | succ k ih =>
    simp only [nrm, nst]
    split
    · exact ⟨Nat.mod_lt _ (by omega), Nat.mod_lt _ (by omega)⟩
    · exact ih
def nrmN (n c d : Nat) : Nat × Nat := nrm n c d (n - 1)
theorem tmod_nat (k c n : Nat) : ((k : Int) * (c : Int)).tmod (n : Int) = ((k * c % n : Nat) : Int) := by
  rw [← Int.natCast_mul, ← Int.ofNat_tmod]
set_option maxHeartbeats 400000 in
theorem isPair_any (n c d : Nat) (w : World) (hn : 1 ≤ n ∧ n ≤ 60) (hc : c < n) (hd : d < n) :
    Calls Try.prog 50 #[.int .i64 (n : Int), .agg #[.int .i64 (c : Int), .int .i64 (d : Int)]] w fun e w' => e = .returned (.bool (decide (Nat.gcd (Nat.gcd c d) n = 1))) ∧ Below w.heap.size w w' := by
  have hg : Nat.gcd c d ≤ 60 := by
    by_cases h : c = 0
    · subst h; rw [Nat.gcd_zero_left]; omega
    · have := Nat.gcd_le_left d (show 0 < c by omega); omega
  have H1 := Lib.hid (show Int.gcd (c : Int) (d : Int) = Nat.gcd c d from rfl)
  have H2 := Lib.hid (show Int.gcd ((Nat.gcd c d : Nat) : Int) (n : Int) = Nat.gcd (Nat.gcd c d) n from rfl)
  go_enter Try.func50, Try.ntmps50
  go_wp2_with fail
  refine (divisor_any (c : Int) (d : Int) _ (by omega) (by omega) (by omega) (by omega)).mono ?_
  rw [H1.out]
  rintro e w1 ⟨rfl, hb⟩
  have k1 : Below w.heap.size w w1 := (by repeat (first | (with_reducible exact Below.refl _ _) | (with_reducible assumption) | (with_reducible refine Below.drew ?_) | (with_reducible refine Below.drewN ?_) | ((with_reducible refine Below.al ?_ ?_); · first | omega | (simp; done) | (simp; omega)) | ((with_reducible refine Below.sc ?_ ?_); · first | omega | (simp; done) | (simp; omega)) | ((with_reducible refine Below.thru hb ?_ ?_); · first | omega | (simp; done) | (simp; omega))))
  have s1 := k1.size
  clear hb
  go_wp2_with fail
  refine (divisor_any _ (n : Int) _ (by omega) (by omega) (by omega) (by omega)).mono ?_
  rw [H2.out]
  rintro e w2 ⟨rfl, hb⟩
  have k2 : Below w.heap.size w w2 := (by repeat (first | (with_reducible exact Below.refl _ _) | (with_reducible assumption) | (with_reducible refine Below.drew ?_) | (with_reducible refine Below.drewN ?_) | ((with_reducible refine Below.al ?_ ?_); · first | omega | (simp; done) | (simp; omega)) | ((with_reducible refine Below.sc ?_ ?_); · first | omega | (simp; done) | (simp; omega)) | ((with_reducible refine Below.thru hb ?_ ?_); · first | omega | (simp; done) | (simp; omega))))
  clear hb
  go_wp2
  go_ret
  exact ⟨ret_bool (by rw [Bool.eq_iff_iff]; simp; omega), k2⟩
theorem isNaN_any (a : Int) (w : World) : Calls Try.prog 80 #[.int .i64 a] w fun e w' => e = .returned (.bool false) ∧ w = w' := by
  go_enter Try.func80, Try.ntmps80
  go_wp2
  go_ret
  exact ⟨ret_bool (by simp), rfl⟩
def cmpI (a b : Int) : Int := if a < b then -1 else if b < a then 1 else 0
theorem cmpI_any (a b : Int) (w : World) : Calls Try.prog 77 #[.int .i64 a, .int .i64 b] w fun e w' => e = .returned (.int .i64 (cmpI a b)) ∧ w = w' := by
  by_cases h1 : a < b
  · go_enter Try.func77, Try.ntmps77
    go_wp2_with (go_at_call 80; refine (isNaN_any _ _).mono ?_; rintro e w' ⟨rfl, rfl⟩)
    go_ret
    exact ⟨ret_int (by simp [cmpI, h1]), rfl⟩
  · by_cases h2 : b < a
    · go_enter Try.func77, Try.ntmps77
      go_wp2_with (go_at_call 80; refine (isNaN_any _ _).mono ?_; rintro e w' ⟨rfl, rfl⟩)
      go_ret
      exact ⟨ret_int (by unfold cmpI; (repeat' split) <;> omega), rfl⟩
    · go_enter Try.func77, Try.ntmps77
      go_wp2_with (go_at_call 80; refine (isNaN_any _ _).mono ?_; rintro e w' ⟨rfl, rfl⟩)
      go_ret
      exact ⟨ret_int (by unfold cmpI; (repeat' split) <;> omega), rfl⟩

/-- Two pairs compared. -/
def cmpP (x y : Nat × Nat) : Int := if cmpI x.1 y.1 ≠ 0 then cmpI x.1 y.1 else cmpI x.2 y.2
theorem cmpP_lt (x y : Nat × Nat) : cmpP x y < 0 ↔ ltP x y := by
  unfold cmpP cmpI ltP
  repeat' split
  all_goals omega
theorem cmpP_bd (x y : Nat × Nat) : -1 ≤ cmpP x y ∧ cmpP x y ≤ 1 := by
  unfold cmpP cmpI
  repeat' split
  all_goals omega
set_option maxHeartbeats 1000000 in
theorem compareP_any (g h : Nat) (x y : Nat × Nat) (w : World) (c0 : w.cell? ⟨g, 0, none⟩ = some (.int .i64 (x.1 : Int))) (c1 : w.cell? ⟨g, 1, none⟩ = some (.int .i64 (x.2 : Int))) (d0 : w.cell? ⟨h, 0, none⟩ = some (.int .i64 (y.1 : Int))) (d1 : w.cell? ⟨h, 1, none⟩ = some (.int .i64 (y.2 : Int))) :
    Calls Try.prog 72 #[.slice (some ⟨g, 0, none⟩) 2 2, .slice (some ⟨h, 0, none⟩) 2 2] w fun e w' => e = .returned (.int .i64 (cmpP x y)) ∧ w = w' := by
  by_cases h1 : cmpI x.1 y.1 = 0
  · have HC := Lib.hid (show cmpP x y = cmpI x.2 y.2 by unfold cmpP; rw [if_neg (fun h => h h1)])
    have A1 := fun w : World => cmpI_any x.1 y.1 w
    rw [h1] at A1
    clear h1
    by_cases h2 : cmpI x.2 y.2 = 0
    · rw [h2] at HC
      have A2 := fun w : World => cmpI_any x.2 y.2 w
      rw [h2] at A2
      clear h2
      go_enter Try.func72, Try.ntmps72
      go_wp2
      refine wp_loop_rounds 3 ?_
      rw [rounds_succ]
      go_wp2_with fail
      refine (A1 _).mono ?_
      rintro e w' ⟨rfl, rfl⟩
      go_wp2
      rw [rounds_succ]
      go_wp2_with fail
      refine (A2 _).mono ?_
      rintro e w' ⟨rfl, rfl⟩
      go_wp2
      rw [rounds_succ]
      go_wp2
      go_ret
      exact ⟨ret_int HC.out.symm, rfl⟩
    · have A2 := fun w : World => cmpI_any x.2 y.2 w
      have hr : -1 ≤ cmpI x.2 y.2 ∧ cmpI x.2 y.2 ≤ 1 := by unfold cmpI; split <;> (try split) <;> omega
      generalize cmpI (x.2 : Int) (y.2 : Int) = r at *
      go_enter Try.func72, Try.ntmps72
      go_wp2
      refine wp_loop_rounds 3 ?_
      rw [rounds_succ]
      go_wp2_with fail
      refine (A1 _).mono ?_
      rintro e w' ⟨rfl, rfl⟩
      go_wp2
      rw [rounds_succ]
      go_wp2_with fail
      refine (A2 _).mono ?_
      rintro e w' ⟨rfl, rfl⟩
      go_wp2
      go_ret
      exact ⟨ret_int HC.out.symm, rfl⟩
  · have HC := Lib.hid (show cmpP x y = cmpI x.1 y.1 by unfold cmpP; rw [if_pos h1])
    have A1 := fun w : World => cmpI_any x.1 y.1 w
    have hr : -1 ≤ cmpI x.1 y.1 ∧ cmpI x.1 y.1 ≤ 1 := by unfold cmpI; split <;> (try split) <;> omega
    generalize cmpI (x.1 : Int) (y.1 : Int) = r at *
    go_enter Try.func72, Try.ntmps72
    go_wp2
    refine wp_loop_rounds 3 ?_
    rw [rounds_succ]
    go_wp2_with fail
    refine (A1 _).mono ?_
    rintro e w' ⟨rfl, rfl⟩
    go_wp2
    go_ret
    exact ⟨ret_int HC.out.symm, rfl⟩
theorem Blk.p2n {w : World} {g : Nat} {E : TypeId} {x : Nat × Nat} (h : Blk w g E (pcs x)) : w.cell? ⟨g, 0, none⟩ = some (.int .i64 (x.1 : Int)) ∧ w.cell? ⟨g, 1, none⟩ = some (.int .i64 (x.2 : Int)) := ⟨h.at (i := 0) rfl, h.at (i := 1) rfl⟩
theorem gcd_unit {k n : Nat} (hk : 1 ≤ k) : (1 < Int.gcd (k : Int) (n : Int)) ↔ ¬ Nat.gcd k n = 1 := by
  have : 0 < Nat.gcd k n := Nat.gcd_pos_of_pos_left _ hk
  show (1 < Nat.gcd k n) ↔ _
  omega
theorem nst_unit {n c d k : Nat} {b : Nat × Nat} (hu : Nat.gcd k n = 1) : nst n c d k b = if ltP (k * c % n, k * d % n) b then (k * c % n, k * d % n) else b := by
  unfold nst
  by_cases h : ltP (k * c % n, k * d % n) b
  · rw [if_pos ⟨hu, h⟩, if_pos h]
  · rw [if_neg (fun h' => h h'.2), if_neg h]
set_option maxRecDepth 8000 in
set_option maxHeartbeats 2000000 in
theorem normal_any (n c d : Nat) (w : World) (hn : 1 ≤ n ∧ n ≤ 60) (hc : c < n) (hd : d < n) :
    Calls Try.prog 51 #[.int .i64 (n : Int), .agg #[.int .i64 (c : Int), .int .i64 (d : Int)]] w fun e w' => e = .returned (.agg #[.int .i64 ((nrmN n c d).1 : Int), .int .i64 ((nrmN n c d).2 : Int)]) ∧ Below w.heap.size w w' := by
  go_enter Try.func51, Try.ntmps51
  go_wp2_with fail
  refine forget (fun W_ => Below w.heap.size w W_ ∧ Blk W_ (w.heap.size) 55 (pcs (c, d)) ∧ Blk W_ (w.heap.size + 1) 55 (#[.int .i64 0, .int .i64 0]) ∧ Blk W_ (w.heap.size + 2) 55 (pcs (c, d))) ⟨(by repeat (first | (with_reducible exact Below.refl _ _) | (with_reducible assumption) | (with_reducible refine Below.drew ?_) | (with_reducible refine Below.drewN ?_) | ((with_reducible refine Below.al ?_ ?_); · first | omega | (simp; done) | (simp; omega)) | ((with_reducible refine Below.sc ?_ ?_); · first | omega | (simp; done) | (simp; omega)) | ((with_reducible refine Below.thru hb ?_ ?_); · first | omega | (simp; done) | (simp; omega)))), (by repeat (first | (with_reducible assumption) | ((with_reducible refine Blk.new ?_); · first | omega | (simp; done) | (simp; omega)) | (with_reducible apply Blk.set4) | (with_reducible apply Blk.set3) | (with_reducible apply Blk.set2) | ((with_reducible refine Blk.put ?_ ?_); · first | omega | (simp; omega)) | (with_reducible refine Blk.old ?_) | (with_reducible refine Blk.drew ?_) | (with_reducible refine Blk.drewN ?_) | ((with_reducible refine Blk.below hb ?_ ?_); · first | omega | (simp; done) | (simp; omega)))), (by repeat (first | (with_reducible assumption) | ((with_reducible refine Blk.new ?_); · first | omega | (simp; done) | (simp; omega)) | (with_reducible apply Blk.set4) | (with_reducible apply Blk.set3) | (with_reducible apply Blk.set2) | ((with_reducible refine Blk.put ?_ ?_); · first | omega | (simp; omega)) | (with_reducible refine Blk.old ?_) | (with_reducible refine Blk.drew ?_) | (with_reducible refine Blk.drewN ?_) | ((with_reducible refine Blk.below hb ?_ ?_); · first | omega | (simp; done) | (simp; omega)))), (by repeat (first | (with_reducible assumption) | ((with_reducible refine Blk.new ?_); · first | omega | (simp; done) | (simp; omega)) | (with_reducible apply Blk.set4) | (with_reducible apply Blk.set3) | (with_reducible apply Blk.set2) | ((with_reducible refine Blk.put ?_ ?_); · first | omega | (simp; omega)) | (with_reducible refine Blk.old ?_) | (with_reducible refine Blk.drew ?_) | (with_reducible refine Blk.drewN ?_) | ((with_reducible refine Blk.below hb ?_ ?_); · first | omega | (simp; done) | (simp; omega))))⟩ ?_
  rintro w1 ⟨kw1, B0, B1, B2⟩
  have sw1 := kw1.size
  have lB0 := B0.lt
  have lB1 := B1.lt
  have lB2 := B2.lt
  go_loopw [6] (fun k wr => ∃ j : Nat, 1 ≤ j ∧ j ≤ n ∧ k = .int .i64 (j : Int) ∧ Blk wr w.heap.size 55 (pcs (c, d)) ∧ Blk wr (w.heap.size + 1) 55 (#[.int .i64 0, .int .i64 0]) ∧ Blk wr (w.heap.size + 2) 55 (pcs (nrm n c d (j - 1))) ∧ Below w.heap.size w wr) (fun k _ => n - (intOf k).toNat)
  case atStart => exact ⟨1, by omega, by omega, rfl, B0, B1, B2, kw1⟩
  case round =>
    clear B0 B1 B2 kw1 sw1 lB0 lB1 lB2
    obtain ⟨j, hj1, hj, rfl, B0, B1, B2, kwr⟩ := hrel
    have swr := kwr.size
    have lB0 := B0.lt
    have lB1 := B1.lt
    have lB2 := B2.lt
    have HN := Lib.hid (show nrm n c d j = nst n c d j (nrm n c d (j - 1)) by obtain ⟨i, rfl⟩ : ∃ i, j = i + 1 := ⟨j - 1, by omega⟩; rfl)
    have hb1 := (nrm_lt hc hd (j - 1)).1
    have hb2 := (nrm_lt hc hd (j - 1)).2
    have hnr := Lib.hid (show n = j → nrmN n c d = nrm n c d (j - 1) from fun h => by subst h; rfl)
    generalize nrm n c d (j - 1) = b at *
    by_cases hlt : j < n
    · have hgu := gcd_unit (k := j) (n := n) (by omega)
      by_cases hu : Nat.gcd j n = 1
      · have hu1 : ¬ 1 < Int.gcd (j : Int) (n : Int) := fun h => hgu.1 h hu
        have HD := Lib.hid (fun w' : World => divisor_any (j : Int) (n : Int) w' (by omega) (by omega) (by omega) (by omega))
        have hg0 : 0 ≤ (Int.gcd (j : Int) (n : Int) : Int) := by omega
        generalize Int.gcd (j : Int) (n : Int) = g at *
        clear hgu
        go_wp2_with fail
        refine (HD.out _).mono ?_
        rintro e w2 ⟨rfl, hb⟩
        have C0 : Blk w2 w.heap.size 55 (pcs (c, d)) := (by repeat (first | (with_reducible assumption) | ((with_reducible refine Blk.new ?_); · first | omega | (simp; done) | (simp; omega)) | (with_reducible apply Blk.set4) | (with_reducible apply Blk.set3) | (with_reducible apply Blk.set2) | ((with_reducible refine Blk.put ?_ ?_); · first | omega | (simp; omega)) | (with_reducible refine Blk.old ?_) | (with_reducible refine Blk.drew ?_) | (with_reducible refine Blk.drewN ?_) | ((with_reducible refine Blk.below hb ?_ ?_); · first | omega | (simp; done) | (simp; omega))))
        have C1 : Blk w2 (w.heap.size + 1) 55 #[.int .i64 0, .int .i64 0] := (by repeat (first | (with_reducible assumption) | ((with_reducible refine Blk.new ?_); · first | omega | (simp; done) | (simp; omega)) | (with_reducible apply Blk.set4) | (with_reducible apply Blk.set3) | (with_reducible apply Blk.set2) | ((with_reducible refine Blk.put ?_ ?_); · first | omega | (simp; omega)) | (with_reducible refine Blk.old ?_) | (with_reducible refine Blk.drew ?_) | (with_reducible refine Blk.drewN ?_) | ((with_reducible refine Blk.below hb ?_ ?_); · first | omega | (simp; done) | (simp; omega))))
        have C2 : Blk w2 (w.heap.size + 2) 55 (pcs b) := (by repeat (first | (with_reducible assumption) | ((with_reducible refine Blk.new ?_); · first | omega | (simp; done) | (simp; omega)) | (with_reducible apply Blk.set4) | (with_reducible apply Blk.set3) | (with_reducible apply Blk.set2) | ((with_reducible refine Blk.put ?_ ?_); · first | omega | (simp; omega)) | (with_reducible refine Blk.old ?_) | (with_reducible refine Blk.drew ?_) | (with_reducible refine Blk.drewN ?_) | ((with_reducible refine Blk.below hb ?_ ?_); · first | omega | (simp; done) | (simp; omega))))
        have kw2 : Below w.heap.size w w2 := (by repeat (first | (with_reducible exact Below.refl _ _) | (with_reducible assumption) | (with_reducible refine Below.drew ?_) | (with_reducible refine Below.drewN ?_) | ((with_reducible refine Below.al ?_ ?_); · first | omega | (simp; done) | (simp; omega)) | ((with_reducible refine Below.sc ?_ ?_); · first | omega | (simp; done) | (simp; omega)) | ((with_reducible refine Below.thru hb ?_ ?_); · first | omega | (simp; done) | (simp; omega))))
        have c0 := C0.p2n
        have c2 := C2.p2n
        have lC0 := C0.lt
        have lC1 := C1.lt
        have lC2 := C2.lt
        have sw2 := kw2.size
        clear hb B0 B1 B2 kwr HD
        have e1 := tmod_nat j c n
        have e2 := tmod_nat j d n
        have m1 : j * c ≤ 60 * 60 := Nat.mul_le_mul (by omega) (by omega)
        have m2 : j * d ≤ 60 * 60 := Nat.mul_le_mul (by omega) (by omega)
        have hw1 : IntKind.i64.wrap ((j : Int) * (c : Int)) = (j : Int) * (c : Int) := by rw [IntKind.wrap_i64, ← Int.natCast_mul]; omega
        have hw2 : IntKind.i64.wrap ((j : Int) * (d : Int)) = (j : Int) * (d : Int) := by rw [IntKind.wrap_i64, ← Int.natCast_mul]; omega
        have hn0 : ¬ n = 0 := by omega
        clear m1 m2
        have HX := Lib.hid (show nst n c d j b = if ltP (j * c % n, j * d % n) b then (j * c % n, j * d % n) else b from nst_unit hu)
        rw [HX.out] at HN
        clear HX
        generalize j * c % n = x at *
        generalize j * d % n = y at *
        obtain ⟨c00, c01⟩ := c0
        obtain ⟨c20, c21⟩ := c2
        go_wp2_with fail
        go_region_held3 (fun w' => w'.cell? ⟨w.heap.size, 0, none⟩ = some (.int .i64 (c : Int)) ∧ w'.cell? ⟨w.heap.size, 1, none⟩ = some (.int .i64 (d : Int))) (go_keep) (fail)
        refine forget (fun W_ => Below w.heap.size w W_ ∧ Blk W_ (w.heap.size) 55 (pcs (c, d)) ∧ Blk W_ (w.heap.size + 1) 55 (#[.int .i64 0, .int .i64 0]) ∧ Blk W_ (w.heap.size + 2) 55 (pcs b) ∧ Blk W_ (w2.heap.size) 55 (pcs (x, y))) ⟨(by repeat (first | (with_reducible exact Below.refl _ _) | (with_reducible assumption) | (with_reducible refine Below.drew ?_) | (with_reducible refine Below.drewN ?_) | ((with_reducible refine Below.al ?_ ?_); · first | omega | (simp; done) | (simp; omega)) | ((with_reducible refine Below.sc ?_ ?_); · first | omega | (simp; done) | (simp; omega)) | ((with_reducible refine Below.thru hb ?_ ?_); · first | omega | (simp; done) | (simp; omega)))), (by repeat (first | (with_reducible assumption) | ((with_reducible refine Blk.new ?_); · first | omega | (simp; done) | (simp; omega)) | (with_reducible apply Blk.set4) | (with_reducible apply Blk.set3) | (with_reducible apply Blk.set2) | ((with_reducible refine Blk.put ?_ ?_); · first | omega | (simp; omega)) | (with_reducible refine Blk.old ?_) | (with_reducible refine Blk.drew ?_) | (with_reducible refine Blk.drewN ?_) | ((with_reducible refine Blk.below hb ?_ ?_); · first | omega | (simp; done) | (simp; omega)))), (by repeat (first | (with_reducible assumption) | ((with_reducible refine Blk.new ?_); · first | omega | (simp; done) | (simp; omega)) | (with_reducible apply Blk.set4) | (with_reducible apply Blk.set3) | (with_reducible apply Blk.set2) | ((with_reducible refine Blk.put ?_ ?_); · first | omega | (simp; omega)) | (with_reducible refine Blk.old ?_) | (with_reducible refine Blk.drew ?_) | (with_reducible refine Blk.drewN ?_) | ((with_reducible refine Blk.below hb ?_ ?_); · first | omega | (simp; done) | (simp; omega)))), (by repeat (first | (with_reducible assumption) | ((with_reducible refine Blk.new ?_); · first | omega | (simp; done) | (simp; omega)) | (with_reducible apply Blk.set4) | (with_reducible apply Blk.set3) | (with_reducible apply Blk.set2) | ((with_reducible refine Blk.put ?_ ?_); · first | omega | (simp; omega)) | (with_reducible refine Blk.old ?_) | (with_reducible refine Blk.drew ?_) | (with_reducible refine Blk.drewN ?_) | ((with_reducible refine Blk.below hb ?_ ?_); · first | omega | (simp; done) | (simp; omega)))), (by repeat (first | (with_reducible assumption) | ((with_reducible refine Blk.new ?_); · first | omega | (simp; done) | (simp; omega)) | (with_reducible apply Blk.set4) | (with_reducible apply Blk.set3) | (with_reducible apply Blk.set2) | ((with_reducible refine Blk.put ?_ ?_); · first | omega | (simp; omega)) | (with_reducible refine Blk.old ?_) | (with_reducible refine Blk.drew ?_) | (with_reducible refine Blk.drewN ?_) | ((with_reducible refine Blk.below hb ?_ ?_); · first | omega | (simp; done) | (simp; omega))))⟩ ?_
        rintro w3 ⟨kw3, D0, D1, D2, D3⟩
        have sw3 := kw3.size
        have lD0 := D0.lt
        have lD1 := D1.lt
        have lD2 := D2.lt
        have lD3 := D3.lt
        obtain ⟨d20, d21⟩ := D2.later2
        obtain ⟨d30, d31⟩ := D3.later2
        have f20 := D2.free 0
        have f21 := D2.free 1
        have HC := Lib.hid (fun w' p1 p2 p3 p4 => compareP_any w2.heap.size (w.heap.size + 2) (x, y) b w' p1 p2 p3 p4)
        have hlt2 := cmpP_lt (x, y) b
        have hr := cmpP_bd (x, y) b
        generalize cmpP (x, y) b = r at *
        clear C0 C1 C2 kw2 c00 c01 c20 c21
        by_cases hl : ltP (x, y) b
        · have hr0 : r < 0 := hlt2.2 hl
          rw [if_pos hl] at HN
          clear hlt2 hl
          go_wp2_with fail
          refine wp_region_calm (by kernel_rfl) (by kernel_rfl) ?_
          repeat (go_big_quiet_step (first | (go_at_call 72; with_reducible exact Calls.calm_same ((HC.out _ (d30 _) (d31 _) (d20 _) (d21 _))))))
          refine wpQuiet_nil ?_
          rintro w4 ⟨⟨_, hb⟩, rfl⟩
          have E0 : Blk w4 (w.heap.size) 55 (pcs (c, d)) := (by repeat (first | (with_reducible assumption) | ((with_reducible refine Blk.new ?_); · first | omega | (simp; done) | (simp; omega)) | (with_reducible apply Blk.set4) | (with_reducible apply Blk.set3) | (with_reducible apply Blk.set2) | ((with_reducible refine Blk.put ?_ ?_); · first | omega | (simp; omega)) | (with_reducible refine Blk.old ?_) | (with_reducible refine Blk.drew ?_) | (with_reducible refine Blk.drewN ?_) | ((with_reducible refine Blk.below hb ?_ ?_); · first | omega | (simp; done) | (simp; omega))))
          have lE0 := E0.lt
          have E1 : Blk w4 (w.heap.size + 1) 55 (#[.int .i64 0, .int .i64 0]) := (by repeat (first | (with_reducible assumption) | ((with_reducible refine Blk.new ?_); · first | omega | (simp; done) | (simp; omega)) | (with_reducible apply Blk.set4) | (with_reducible apply Blk.set3) | (with_reducible apply Blk.set2) | ((with_reducible refine Blk.put ?_ ?_); · first | omega | (simp; omega)) | (with_reducible refine Blk.old ?_) | (with_reducible refine Blk.drew ?_) | (with_reducible refine Blk.drewN ?_) | ((with_reducible refine Blk.below hb ?_ ?_); · first | omega | (simp; done) | (simp; omega))))
          have lE1 := E1.lt
          have E2 : Blk w4 (w.heap.size + 2) 55 (pcs b) := (by repeat (first | (with_reducible assumption) | ((with_reducible refine Blk.new ?_); · first | omega | (simp; done) | (simp; omega)) | (with_reducible apply Blk.set4) | (with_reducible apply Blk.set3) | (with_reducible apply Blk.set2) | ((with_reducible refine Blk.put ?_ ?_); · first | omega | (simp; omega)) | (with_reducible refine Blk.old ?_) | (with_reducible refine Blk.drew ?_) | (with_reducible refine Blk.drewN ?_) | ((with_reducible refine Blk.below hb ?_ ?_); · first | omega | (simp; done) | (simp; omega))))
          have lE2 := E2.lt
          have E3 : Blk w4 (w2.heap.size) 55 (pcs (x, y)) := (by repeat (first | (with_reducible assumption) | ((with_reducible refine Blk.new ?_); · first | omega | (simp; done) | (simp; omega)) | (with_reducible apply Blk.set4) | (with_reducible apply Blk.set3) | (with_reducible apply Blk.set2) | ((with_reducible refine Blk.put ?_ ?_); · first | omega | (simp; omega)) | (with_reducible refine Blk.old ?_) | (with_reducible refine Blk.drew ?_) | (with_reducible refine Blk.drewN ?_) | ((with_reducible refine Blk.below hb ?_ ?_); · first | omega | (simp; done) | (simp; omega))))
          have lE3 := E3.lt
          have kw4 : Below w.heap.size w w4 := (by repeat (first | (with_reducible exact Below.refl _ _) | (with_reducible assumption) | (with_reducible refine Below.drew ?_) | (with_reducible refine Below.drewN ?_) | ((with_reducible refine Below.al ?_ ?_); · first | omega | (simp; done) | (simp; omega)) | ((with_reducible refine Below.sc ?_ ?_); · first | omega | (simp; done) | (simp; omega)) | ((with_reducible refine Below.thru hb ?_ ?_); · first | omega | (simp; done) | (simp; omega))))
          have sw4 := kw4.size
          clear hb
          obtain ⟨e30, e31⟩ := E3.p2n
          obtain ⟨e20, e21⟩ := E2.p2n
          have f0 := E2.free 0
          have f1 := E2.free 1
          clear D0 D1 D2 D3 d20 d21 d30 d31
          go_wp2
          go_roundw
          case rel => exact ⟨j + 1, by omega, by omega, by go_num, (by repeat (first | (with_reducible assumption) | ((with_reducible refine Blk.new ?_); · first | omega | (simp; done) | (simp; omega)) | (with_reducible apply Blk.set4) | (with_reducible apply Blk.set3) | (with_reducible apply Blk.set2) | ((with_reducible refine Blk.put ?_ ?_); · first | omega | (simp; omega)) | (with_reducible refine Blk.old ?_) | (with_reducible refine Blk.drew ?_) | (with_reducible refine Blk.drewN ?_) | ((with_reducible refine Blk.below hb ?_ ?_); · first | omega | (simp; done) | (simp; omega)))), (by repeat (first | (with_reducible assumption) | ((with_reducible refine Blk.new ?_); · first | omega | (simp; done) | (simp; omega)) | (with_reducible apply Blk.set4) | (with_reducible apply Blk.set3) | (with_reducible apply Blk.set2) | ((with_reducible refine Blk.put ?_ ?_); · first | omega | (simp; omega)) | (with_reducible refine Blk.old ?_) | (with_reducible refine Blk.drew ?_) | (with_reducible refine Blk.drewN ?_) | ((with_reducible refine Blk.below hb ?_ ?_); · first | omega | (simp; done) | (simp; omega)))), by rw [Nat.add_sub_cancel, HN.out]; exact (by repeat (first | (with_reducible assumption) | ((with_reducible refine Blk.new ?_); · first | omega | (simp; done) | (simp; omega)) | (with_reducible apply Blk.set4) | (with_reducible apply Blk.set3) | (with_reducible apply Blk.set2) | ((with_reducible refine Blk.put ?_ ?_); · first | omega | (simp; omega)) | (with_reducible refine Blk.old ?_) | (with_reducible refine Blk.drew ?_) | (with_reducible refine Blk.drewN ?_) | ((with_reducible refine Blk.below hb ?_ ?_); · first | omega | (simp; done) | (simp; omega)))), (by repeat (first | (with_reducible exact Below.refl _ _) | (with_reducible assumption) | (with_reducible refine Below.drew ?_) | (with_reducible refine Below.drewN ?_) | ((with_reducible refine Below.al ?_ ?_); · first | omega | (simp; done) | (simp; omega)) | ((with_reducible refine Below.sc ?_ ?_); · first | omega | (simp; done) | (simp; omega)) | ((with_reducible refine Below.thru hb ?_ ?_); · first | omega | (simp; done) | (simp; omega))))⟩
          case measure => simp [intOf]; omega
        · have hr0 : ¬ r < 0 := fun h => hl (hlt2.1 h)
          rw [if_neg hl] at HN
          clear hlt2 hl
          go_wp2_with fail
          refine wp_region_calm (by kernel_rfl) (by kernel_rfl) ?_
          repeat (go_big_quiet_step (first | (go_at_call 72; with_reducible exact Calls.calm_same ((HC.out _ (d30 _) (d31 _) (d20 _) (d21 _))))))
          refine wpQuiet_nil ?_
          rintro w4 ⟨⟨_, hb⟩, rfl⟩
          have E0 : Blk w4 (w.heap.size) 55 (pcs (c, d)) := (by repeat (first | (with_reducible assumption) | ((with_reducible refine Blk.new ?_); · first | omega | (simp; done) | (simp; omega)) | (with_reducible apply Blk.set4) | (with_reducible apply Blk.set3) | (with_reducible apply Blk.set2) | ((with_reducible refine Blk.put ?_ ?_); · first | omega | (simp; omega)) | (with_reducible refine Blk.old ?_) | (with_reducible refine Blk.drew ?_) | (with_reducible refine Blk.drewN ?_) | ((with_reducible refine Blk.below hb ?_ ?_); · first | omega | (simp; done) | (simp; omega))))
          have lE0 := E0.lt
          have E1 : Blk w4 (w.heap.size + 1) 55 (#[.int .i64 0, .int .i64 0]) := (by repeat (first | (with_reducible assumption) | ((with_reducible refine Blk.new ?_); · first | omega | (simp; done) | (simp; omega)) | (with_reducible apply Blk.set4) | (with_reducible apply Blk.set3) | (with_reducible apply Blk.set2) | ((with_reducible refine Blk.put ?_ ?_); · first | omega | (simp; omega)) | (with_reducible refine Blk.old ?_) | (with_reducible refine Blk.drew ?_) | (with_reducible refine Blk.drewN ?_) | ((with_reducible refine Blk.below hb ?_ ?_); · first | omega | (simp; done) | (simp; omega))))
          have lE1 := E1.lt
          have E2 : Blk w4 (w.heap.size + 2) 55 (pcs b) := (by repeat (first | (with_reducible assumption) | ((with_reducible refine Blk.new ?_); · first | omega | (simp; done) | (simp; omega)) | (with_reducible apply Blk.set4) | (with_reducible apply Blk.set3) | (with_reducible apply Blk.set2) | ((with_reducible refine Blk.put ?_ ?_); · first | omega | (simp; omega)) | (with_reducible refine Blk.old ?_) | (with_reducible refine Blk.drew ?_) | (with_reducible refine Blk.drewN ?_) | ((with_reducible refine Blk.below hb ?_ ?_); · first | omega | (simp; done) | (simp; omega))))
          have lE2 := E2.lt
          have E3 : Blk w4 (w2.heap.size) 55 (pcs (x, y)) := (by repeat (first | (with_reducible assumption) | ((with_reducible refine Blk.new ?_); · first | omega | (simp; done) | (simp; omega)) | (with_reducible apply Blk.set4) | (with_reducible apply Blk.set3) | (with_reducible apply Blk.set2) | ((with_reducible refine Blk.put ?_ ?_); · first | omega | (simp; omega)) | (with_reducible refine Blk.old ?_) | (with_reducible refine Blk.drew ?_) | (with_reducible refine Blk.drewN ?_) | ((with_reducible refine Blk.below hb ?_ ?_); · first | omega | (simp; done) | (simp; omega))))
          have lE3 := E3.lt
          have kw4 : Below w.heap.size w w4 := (by repeat (first | (with_reducible exact Below.refl _ _) | (with_reducible assumption) | (with_reducible refine Below.drew ?_) | (with_reducible refine Below.drewN ?_) | ((with_reducible refine Below.al ?_ ?_); · first | omega | (simp; done) | (simp; omega)) | ((with_reducible refine Below.sc ?_ ?_); · first | omega | (simp; done) | (simp; omega)) | ((with_reducible refine Below.thru hb ?_ ?_); · first | omega | (simp; done) | (simp; omega))))
          have sw4 := kw4.size
          clear hb
          obtain ⟨e30, e31⟩ := E3.p2n
          obtain ⟨e20, e21⟩ := E2.p2n
          have f0 := E2.free 0
          have f1 := E2.free 1
          clear D0 D1 D2 D3 d20 d21 d30 d31
          go_wp2
          go_roundw
          case rel => exact ⟨j + 1, by omega, by omega, by go_num, E0, E1, by rw [Nat.add_sub_cancel, HN.out]; exact E2, (by repeat (first | (with_reducible exact Below.refl _ _) | (with_reducible assumption) | (with_reducible refine Below.drew ?_) | (with_reducible refine Below.drewN ?_) | ((with_reducible refine Below.al ?_ ?_); · first | omega | (simp; done) | (simp; omega)) | ((with_reducible refine Below.sc ?_ ?_); · first | omega | (simp; done) | (simp; omega)) | ((with_reducible refine Below.thru hb ?_ ?_); · first | omega | (simp; done) | (simp; omega))))⟩
          case measure => simp [intOf]; omega
      · have hu1 : 1 < Int.gcd (j : Int) (n : Int) := hgu.2 hu
        have hle : Int.gcd (j : Int) (n : Int) ≤ 60 := by
          show Nat.gcd j n ≤ 60
          have := Nat.gcd_le_left n (show 0 < j by omega); omega
        have HE := Lib.hid (show nrm n c d j = b by rw [HN.out]; unfold nst; rw [if_neg (fun h => hu h.1)])
        have HD := Lib.hid (fun w' : World => divisor_any (j : Int) (n : Int) w' (by omega) (by omega) (by omega) (by omega))
        generalize Int.gcd (j : Int) (n : Int) = g at *
        clear hgu hu HN
        go_wp2_with fail
        refine (HD.out _).mono ?_
        rintro e w2 ⟨rfl, hb⟩
        have C0 : Blk w2 w.heap.size 55 (pcs (c, d)) := (by repeat (first | (with_reducible assumption) | ((with_reducible refine Blk.new ?_); · first | omega | (simp; done) | (simp; omega)) | (with_reducible apply Blk.set4) | (with_reducible apply Blk.set3) | (with_reducible apply Blk.set2) | ((with_reducible refine Blk.put ?_ ?_); · first | omega | (simp; omega)) | (with_reducible refine Blk.old ?_) | (with_reducible refine Blk.drew ?_) | (with_reducible refine Blk.drewN ?_) | ((with_reducible refine Blk.below hb ?_ ?_); · first | omega | (simp; done) | (simp; omega))))
        have C1 : Blk w2 (w.heap.size + 1) 55 (#[.int .i64 0, .int .i64 0]) := (by repeat (first | (with_reducible assumption) | ((with_reducible refine Blk.new ?_); · first | omega | (simp; done) | (simp; omega)) | (with_reducible apply Blk.set4) | (with_reducible apply Blk.set3) | (with_reducible apply Blk.set2) | ((with_reducible refine Blk.put ?_ ?_); · first | omega | (simp; omega)) | (with_reducible refine Blk.old ?_) | (with_reducible refine Blk.drew ?_) | (with_reducible refine Blk.drewN ?_) | ((with_reducible refine Blk.below hb ?_ ?_); · first | omega | (simp; done) | (simp; omega))))
        have C2 : Blk w2 (w.heap.size + 2) 55 (pcs b) := (by repeat (first | (with_reducible assumption) | ((with_reducible refine Blk.new ?_); · first | omega | (simp; done) | (simp; omega)) | (with_reducible apply Blk.set4) | (with_reducible apply Blk.set3) | (with_reducible apply Blk.set2) | ((with_reducible refine Blk.put ?_ ?_); · first | omega | (simp; omega)) | (with_reducible refine Blk.old ?_) | (with_reducible refine Blk.drew ?_) | (with_reducible refine Blk.drewN ?_) | ((with_reducible refine Blk.below hb ?_ ?_); · first | omega | (simp; done) | (simp; omega))))
        have kw2 : Below w.heap.size w w2 := (by repeat (first | (with_reducible exact Below.refl _ _) | (with_reducible assumption) | (with_reducible refine Below.drew ?_) | (with_reducible refine Below.drewN ?_) | ((with_reducible refine Below.al ?_ ?_); · first | omega | (simp; done) | (simp; omega)) | ((with_reducible refine Below.sc ?_ ?_); · first | omega | (simp; done) | (simp; omega)) | ((with_reducible refine Below.thru hb ?_ ?_); · first | omega | (simp; done) | (simp; omega))))
        clear hb B0 B1 B2 kwr HD
        go_wp2
        go_roundw
        case rel => exact ⟨j + 1, by omega, by omega, by go_num, C0, C1, by rw [Nat.add_sub_cancel, HE.out]; exact C2, kw2⟩
        case measure => simp [intOf]; omega
    · obtain ⟨b20, b21⟩ := B2.p2n
      obtain ⟨b10, b11⟩ := B1.p2
      have f1 := B1.free 0
      have f2 := B1.free 1
      have HE := Lib.hid (show nrmN n c d = b from hnr.out (by omega))
      go_wp2
      refine ret_at (v := .agg #[.int .i64 (b.1 : Int), .int .i64 (b.2 : Int)]) (fun w' => Blk w' (w.heap.size + 1) 55 (#[.int .i64 (b.1 : Int), .int .i64 (b.2 : Int)])) (by repeat (first | (with_reducible assumption) | ((with_reducible refine Blk.new ?_); · first | omega | (simp; done) | (simp; omega)) | (with_reducible apply Blk.set4) | (with_reducible apply Blk.set3) | (with_reducible apply Blk.set2) | ((with_reducible refine Blk.put ?_ ?_); · first | omega | (simp; omega)) | (with_reducible refine Blk.old ?_) | (with_reducible refine Blk.drew ?_) | (with_reducible refine Blk.drewN ?_) | ((with_reducible refine Blk.below hb ?_ ?_); · first | omega | (simp; done) | (simp; omega)))) (fun w' hB => by have q := hB.p2; simp [results, Try.results51, go_sem, q]) rfl ?_
      exact ⟨by rw [HE.out], (by repeat (first | (with_reducible exact Below.refl _ _) | (with_reducible assumption) | (with_reducible refine Below.drew ?_) | (with_reducible refine Below.drewN ?_) | ((with_reducible refine Below.al ?_ ?_); · first | omega | (simp; done) | (simp; omega)) | ((with_reducible refine Below.sc ?_ ?_); · first | omega | (simp; done) | (simp; omega)) | ((with_reducible refine Below.thru hb ?_ ?_); · first | omega | (simp; done) | (simp; omega))))⟩
def isPr (n c d : Nat) : Bool := decide (Nat.gcd (Nat.gcd c d) n = 1)
theorem OwnK.ne_own {α : Type} {e : Enc α} {E : TypeId} {w : World} {B B' : Nat} {v u : Value} {xs : List α} {ys : List Int} (h : OwnK e E w B v xs) (h2 : Own w B' u ys) (hE : E ≠ 2) :
    ∀ g, v.ownBlock = some g → u.ownBlock ≠ some g := by
  intro g hg hu
  obtain ⟨_, h1⟩ := h
  obtain ⟨_, h2⟩ := h2
  rcases h1 with ⟨rfl, _⟩ | ⟨k, cap, cur, rfl, _, hh, _⟩
  · cases hg
  · rcases h2 with ⟨rfl, _⟩ | ⟨k2, cap2, cur2, rfl, _, hh2, _⟩
    · cases hu
    · simp only [Value.ownBlock, Option.some.injEq] at hg hu
      subst hg hu
      have e := hh.symm.trans hh2
      simp only [Option.some.injEq, Obj.cells.injEq] at e
      exact hE e.2.1
theorem OwnK.grownO {α : Type} {e : Enc α} {E : TypeId} {w w' : World} {B B' : Nat} {v u : Value} {xs : List α} {ys : List Int} (hg : w.grownBy w' u.ownBlock) (hu : Own w B' u ys) (hE : E ≠ 2) (h : OwnK e E w B v xs) : OwnK e E w' B v xs :=
  h.same fun g hk => hg.block g (h.lt hk).2 fun he => h.ne_own hu hE g hk he.symm
def isLn (n c d : Nat) : Bool := isPr n c d && decide (nrmN n c d = (c, d))
/-- One row of the line: the normal pairs with the first rest c, the second one less than d. -/
def lnRow (n c : Nat) : Nat → List (Nat × Nat)
  | 0 => []
  | d + 1 => lnRow n c d ++ (if isLn n c d then [(c, d)] else [])
def lnTo (n : Nat) : Nat → List (Nat × Nat)
  | 0 => []
  | c + 1 => lnTo n c ++ lnRow n c n
def lineL (n : Nat) : List (Nat × Nat) := lnTo n n
theorem lnRow_len (n c d : Nat) : (lnRow n c d).length ≤ d := by
  induction d with
  | zero => exact Nat.le_refl _
  | succ d ih =>
    simp only [lnRow, List.length_append]
    split <;> simp <;> omega
theorem lnTo_len (n c : Nat) : (lnTo n c).length ≤ c * n := by
  induction c with
  | zero => simp [lnTo]
  | succ c ih =>
    simp only [lnTo, List.length_append, Nat.add_mul, Nat.one_mul]
    have := lnRow_len n c n
    omega
theorem lnRow_mem {n c d : Nat} {p : Nat × Nat} : p ∈ lnRow n c d ↔ p.1 = c ∧ p.2 < d ∧ isLn n p.1 p.2 = true := by
  induction d with
  | zero => simp [lnRow]
  | succ d ih =>
    simp only [lnRow, List.mem_append, ih]
    constructor
    · rintro (⟨h1, h2, h3⟩ | h)
      · exact ⟨h1, by omega, h3⟩
      · split at h
        · rename_i hl
          simp at h
          subst h
          exact ⟨rfl, Nat.lt_succ_self _, hl⟩
        · cases h
    · rintro ⟨h1, h2, h3⟩
      by_cases e : p.2 < d
      · exact .inl ⟨h1, e, h3⟩
      · right
        obtain ⟨x, y⟩ := p
        simp only at h1 h2 h3 e
        obtain rfl : y = d := by omega
        subst h1
        rw [if_pos h3]
        simp
theorem lnTo_mem {n c : Nat} {p : Nat × Nat} : p ∈ lnTo n c ↔ p.1 < c ∧ p.2 < n ∧ isLn n p.1 p.2 = true := by
  induction c with
  | zero => simp [lnTo]
  | succ c ih =>
    simp only [lnTo, List.mem_append, ih, lnRow_mem]
    constructor
    · rintro (⟨h1, h2, h3⟩ | ⟨h1, h2, h3⟩)
      · exact ⟨by omega, h2, h3⟩
      · exact ⟨by omega, h2, h3⟩
    · rintro ⟨h1, h2, h3⟩
      by_cases e : p.1 < c
      · exact .inl ⟨e, h2, h3⟩
      · exact .inr ⟨by omega, h2, h3⟩
def encP : Enc (Nat × Nat) := ⟨2, fun x => [.int .i64 (x.1 : Int), .int .i64 (x.2 : Int)], fun _ => rfl, by decide, fun x u hu => by simp at hu; rcases hu with rfl | rfl <;> rfl⟩
theorem infoP : (Try.prog.info? 55).map (fun i => (i.zero, i.size, i.bytes)) = some (some (.agg #[.int .i64 0, .int .i64 0]), 2, 16) := by kernel_rfl
abbrev OwnP (w : World) (B : Nat) (v : Value) (xs : List (Nat × Nat)) : Prop := OwnK encP 55 w B v xs
/-- The pairs in a slice of the call's own. -/
def GivesP (xs : List (Nat × Nat)) (w : World) (e : Ending) (w' : World) : Prop := ∃ v, e = .returned v ∧ OwnK encP 55 w' w.heap.size v xs ∧ Below w.heap.size w w'
set_option maxRecDepth 8000 in
set_option maxHeartbeats 2000000 in
theorem line_any (n : Nat) (w : World) (hn : 1 ≤ n ∧ n ≤ 60) :
    Calls Try.prog 29 #[.int .i64 (n : Int)] w (GivesP (lineL n) w) := by
  have HINF := Lib.hid (info_parts infoP)
  go_enter Try.func29, Try.ntmps29
  go_wp2_with fail
  refine forget (fun W_ => OwnK encP 55 W_ w.heap.size (.slice (some ⟨w.heap.size, 0, none⟩) 0 0) [] ∧ Below w.heap.size w W_) ⟨OwnK.of_blk (xs := []) (by repeat (first | (with_reducible assumption) | ((with_reducible refine Blk.new ?_); · first | omega | (simp; done) | (simp; omega)) | (with_reducible apply Blk.set4) | (with_reducible apply Blk.set3) | (with_reducible apply Blk.set2) | ((with_reducible refine Blk.put ?_ ?_); · first | omega | (simp; omega)) | (with_reducible refine Blk.old ?_) | (with_reducible refine Blk.drew ?_) | (with_reducible refine Blk.drewN ?_) | ((with_reducible refine Blk.below hb ?_ ?_); · first | omega | (simp; done) | (simp; omega)))) (Nat.le_refl _) rfl (by simp [maxLen]), (by repeat (first | (with_reducible exact Below.refl _ _) | (with_reducible assumption) | (with_reducible refine Below.drew ?_) | (with_reducible refine Below.drewN ?_) | ((with_reducible refine Below.al ?_ ?_); · first | omega | (simp; done) | (simp; omega)) | ((with_reducible refine Below.sc ?_ ?_); · first | omega | (simp; done) | (simp; omega)) | ((with_reducible refine Below.thru hb ?_ ?_); · first | omega | (simp; done) | (simp; omega))))⟩ ?_
  rintro w0 ⟨O0, k0⟩
  go_loopw [3, 9] (fun v cc wr => ∃ c : Nat, c ≤ n ∧ cc = .int .i64 c ∧ OwnK encP 55 wr w.heap.size v (lnTo n c) ∧ Below w.heap.size w wr) (fun _ cc _ => n - (intOf cc).toNat)
  case atStart => exact ⟨0, Nat.zero_le _, rfl, O0, k0⟩
  case round =>
    clear O0 k0
    obtain ⟨c, hc, rfl, O, kwr⟩ := hrel
    obtain ⟨vo, vc, rfl⟩ := O.len
    by_cases hlt : c < n
    · have HX := Lib.hid (show lnTo n (c + 1) = lnTo n c ++ lnRow n c n from rfl)
      have hlen := lnTo_len n c
      have hcn : c * n ≤ 60 * 60 := Nat.mul_le_mul (by omega) (by omega)
      go_wp2_with fail
      go_loopw [3, 13] (fun v dd wr => ∃ d : Nat, d ≤ n ∧ dd = .int .i64 d ∧ OwnK encP 55 wr w.heap.size v (lnTo n c ++ lnRow n c d) ∧ Below w.heap.size w wr) (fun _ dd _ => n - (intOf dd).toNat)
      case atStart => exact ⟨0, Nat.zero_le _, rfl, by rw [show lnRow n c 0 = [] from rfl, List.append_nil]; exact O, kwr⟩
      case round =>
        clear O kwr
        obtain ⟨d, hd, rfl, O, kwr⟩ := hrel
        obtain ⟨vo, vc, rfl⟩ := O.len
        have swr := kwr.size
        by_cases hdl : d < n
        · have hl2 : (lnTo n c ++ lnRow n c d).length ≤ 3660 := by rw [List.length_append]; have := lnRow_len n c d; omega
          have HY := Lib.hid (show lnTo n c ++ lnRow n c (d + 1) = (lnTo n c ++ lnRow n c d) ++ (if isLn n c d then [(c, d)] else []) by rw [List.append_assoc]; rfl)
          generalize lnTo n c ++ lnRow n c d = L at *
          obtain ⟨N, hN⟩ : ∃ N, L.length = N := ⟨_, rfl⟩
          rw [hN] at hl2
          replace hN := Lib.hid hN
          by_cases hp : Nat.gcd (Nat.gcd c d) n = 1
          rotate_left
          · have HP := Lib.hid (fun w' : World => isPair_any n c d w' hn hlt hdl)
            rw [decide_eq_false hp] at HP
            have HI := Lib.hid (show isLn n c d = false by unfold isLn isPr; rw [decide_eq_false hp, Bool.false_and])
            clear hp
            go_wp2_with fail
            refine forget (fun W_ => Below w.heap.size w W_ ∧ Blk W_ (wr.heap.size) 55 (pcs (c, d)) ∧ OwnP W_ (w.heap.size) (.slice vo L.length vc) (L)) ⟨(by repeat (first | (with_reducible exact Below.refl _ _) | (with_reducible assumption) | (with_reducible refine Below.drew ?_) | (with_reducible refine Below.drewN ?_) | ((with_reducible refine Below.al ?_ ?_); · first | omega | (simp; done) | (simp; omega)) | ((with_reducible refine Below.sc ?_ ?_); · first | omega | (simp; done) | (simp; omega)) | ((with_reducible refine Below.thru hb ?_ ?_); · first | omega | (simp; done) | (simp; omega)))), (by repeat (first | (with_reducible assumption) | ((with_reducible refine Blk.new ?_); · first | omega | (simp; done) | (simp; omega)) | (with_reducible apply Blk.set4) | (with_reducible apply Blk.set3) | (with_reducible apply Blk.set2) | ((with_reducible refine Blk.put ?_ ?_); · first | omega | (simp; omega)) | (with_reducible refine Blk.old ?_) | (with_reducible refine Blk.drew ?_) | (with_reducible refine Blk.drewN ?_) | ((with_reducible refine Blk.below hb ?_ ?_); · first | omega | (simp; done) | (simp; omega)))), (by repeat (first | (with_reducible assumption) | (with_reducible refine Own.drew ?_) | (with_reducible refine Own.drewN ?_) | (with_reducible refine Own.alloc ?_) | (with_reducible refine OwnK.drew ?_) | (with_reducible refine OwnK.drewN ?_) | (with_reducible refine OwnK.alloc ?_) | ((with_reducible refine OwnK.put ?_ ?_); · first | omega | (simp; done) | (simp; omega)) | ((with_reducible refine Own.below hb ?_)) | ((with_reducible refine OwnK.below hb ?_))))⟩ ?_
            rintro w3 ⟨kw3, B3, O3⟩
            have sw3 := kw3.size
            have lB3 := B3.lt
            obtain ⟨b30, b31⟩ := B3.later2
            clear O kwr
            refine wp_region_calm (by kernel_rfl) (by kernel_rfl) ?_
            repeat (go_big_quiet_step (first | (go_at_call 50; with_reducible exact Calls.calm (HP.out _))))
            refine wpQuiet_nil ?_
            rintro w4 ⟨⟨_, hb⟩, rfl⟩
            have B4 : Blk w4 (wr.heap.size) 55 (pcs (c, d)) := (by repeat (first | (with_reducible assumption) | ((with_reducible refine Blk.new ?_); · first | omega | (simp; done) | (simp; omega)) | (with_reducible apply Blk.set4) | (with_reducible apply Blk.set3) | (with_reducible apply Blk.set2) | ((with_reducible refine Blk.put ?_ ?_); · first | omega | (simp; omega)) | (with_reducible refine Blk.old ?_) | (with_reducible refine Blk.drew ?_) | (with_reducible refine Blk.drewN ?_) | ((with_reducible refine Blk.below hb ?_ ?_); · first | omega | (simp; done) | (simp; omega))))
            have lB4 := B4.lt
            have O4 : OwnP w4 (w.heap.size) (.slice vo L.length vc) (L) := (by repeat (first | (with_reducible assumption) | (with_reducible refine Own.drew ?_) | (with_reducible refine Own.drewN ?_) | (with_reducible refine Own.alloc ?_) | (with_reducible refine OwnK.drew ?_) | (with_reducible refine OwnK.drewN ?_) | (with_reducible refine OwnK.alloc ?_) | ((with_reducible refine OwnK.put ?_ ?_); · first | omega | (simp; done) | (simp; omega)) | ((with_reducible refine Own.below hb ?_)) | ((with_reducible refine OwnK.below hb ?_))))
            have kw4 : Below w.heap.size w w4 := (by repeat (first | (with_reducible exact Below.refl _ _) | (with_reducible assumption) | (with_reducible refine Below.drew ?_) | (with_reducible refine Below.drewN ?_) | ((with_reducible refine Below.al ?_ ?_); · first | omega | (simp; done) | (simp; omega)) | ((with_reducible refine Below.sc ?_ ?_); · first | omega | (simp; done) | (simp; omega)) | ((with_reducible refine Below.thru hb ?_ ?_); · first | omega | (simp; done) | (simp; omega))))
            have sw4 := kw4.size
            clear hb
            have b4 := B4.p2n
            go_wp2
            go_roundw
            case rel => exact ⟨d + 1, by omega, by go_num, by rw [HY.out, HI.out, if_neg Bool.false_ne_true, List.append_nil]; exact O4, kw4⟩
            case measure => simp [intOf]; omega
          have HP := Lib.hid (fun w' : World => isPair_any n c d w' hn hlt hdl)
          rw [decide_eq_true hp] at HP
          by_cases hq : nrmN n c d = (c, d)
          · have HQ := Lib.hid (fun w' : World => normal_any n c d w' hn hlt hdl)
            rw [hq] at HQ
            simp only at HQ
            have hE := fun w' : World => run_equalInP (c, d) (c, d) w'
            rw [decide_eq_true rfl] at hE
            simp only at hE
            have HI := Lib.hid (show isLn n c d = true by unfold isLn isPr; rw [decide_eq_true hp, decide_eq_true hq]; rfl)
            clear hp hq
            go_wp2_with fail
            refine forget (fun W_ => Below w.heap.size w W_ ∧ Blk W_ (wr.heap.size) 55 (pcs (c, d)) ∧ OwnP W_ (w.heap.size) (.slice vo L.length vc) (L)) ⟨(by repeat (first | (with_reducible exact Below.refl _ _) | (with_reducible assumption) | (with_reducible refine Below.drew ?_) | (with_reducible refine Below.drewN ?_) | ((with_reducible refine Below.al ?_ ?_); · first | omega | (simp; done) | (simp; omega)) | ((with_reducible refine Below.sc ?_ ?_); · first | omega | (simp; done) | (simp; omega)) | ((with_reducible refine Below.thru hb ?_ ?_); · first | omega | (simp; done) | (simp; omega)))), (by repeat (first | (with_reducible assumption) | ((with_reducible refine Blk.new ?_); · first | omega | (simp; done) | (simp; omega)) | (with_reducible apply Blk.set4) | (with_reducible apply Blk.set3) | (with_reducible apply Blk.set2) | ((with_reducible refine Blk.put ?_ ?_); · first | omega | (simp; omega)) | (with_reducible refine Blk.old ?_) | (with_reducible refine Blk.drew ?_) | (with_reducible refine Blk.drewN ?_) | ((with_reducible refine Blk.below hb ?_ ?_); · first | omega | (simp; done) | (simp; omega)))), (by repeat (first | (with_reducible assumption) | (with_reducible refine Own.drew ?_) | (with_reducible refine Own.drewN ?_) | (with_reducible refine Own.alloc ?_) | (with_reducible refine OwnK.drew ?_) | (with_reducible refine OwnK.drewN ?_) | (with_reducible refine OwnK.alloc ?_) | ((with_reducible refine OwnK.put ?_ ?_); · first | omega | (simp; done) | (simp; omega)) | ((with_reducible refine Own.below hb ?_)) | ((with_reducible refine OwnK.below hb ?_))))⟩ ?_
            rintro w3 ⟨kw3, B3, O3⟩
            have sw3 := kw3.size
            have lB3 := B3.lt
            obtain ⟨b30, b31⟩ := B3.later2
            clear O kwr
            refine wp_region_calm (by kernel_rfl) (by kernel_rfl) ?_
            repeat (go_big_quiet_step (first | (go_at_call 50; with_reducible exact Calls.calm (HP.out _)) | (go_at_call 51; with_reducible exact Calls.calm (HQ.out _))))
            refine wpQuiet_nil ?_
            rintro w4 ⟨⟨_, hb⟩, rfl⟩
            have B4 : Blk w4 (wr.heap.size) 55 (pcs (c, d)) := (by repeat (first | (with_reducible assumption) | ((with_reducible refine Blk.new ?_); · first | omega | (simp; done) | (simp; omega)) | (with_reducible apply Blk.set4) | (with_reducible apply Blk.set3) | (with_reducible apply Blk.set2) | ((with_reducible refine Blk.put ?_ ?_); · first | omega | (simp; omega)) | (with_reducible refine Blk.old ?_) | (with_reducible refine Blk.drew ?_) | (with_reducible refine Blk.drewN ?_) | ((with_reducible refine Blk.below hb ?_ ?_); · first | omega | (simp; done) | (simp; omega))))
            have lB4 := B4.lt
            have O4 : OwnP w4 (w.heap.size) (.slice vo L.length vc) (L) := (by repeat (first | (with_reducible assumption) | (with_reducible refine Own.drew ?_) | (with_reducible refine Own.drewN ?_) | (with_reducible refine Own.alloc ?_) | (with_reducible refine OwnK.drew ?_) | (with_reducible refine OwnK.drewN ?_) | (with_reducible refine OwnK.alloc ?_) | ((with_reducible refine OwnK.put ?_ ?_); · first | omega | (simp; done) | (simp; omega)) | ((with_reducible refine Own.below hb ?_)) | ((with_reducible refine OwnK.below hb ?_))))
            have kw4 : Below w.heap.size w w4 := (by repeat (first | (with_reducible exact Below.refl _ _) | (with_reducible assumption) | (with_reducible refine Below.drew ?_) | (with_reducible refine Below.drewN ?_) | ((with_reducible refine Below.al ?_ ?_); · first | omega | (simp; done) | (simp; omega)) | ((with_reducible refine Below.sc ?_ ?_); · first | omega | (simp; done) | (simp; omega)) | ((with_reducible refine Below.thru hb ?_ ?_); · first | omega | (simp; done) | (simp; omega))))
            have sw4 := kw4.size
            clear hb
            have b4 := B4.p2n
            obtain ⟨jP, hinf⟩ := HINF.out
            replace hinf := Lib.hid hinf
            go_wp2_with (at_builtin; refine wpList_app encP rfl _ _ 47 55 16 rfl Try.underlying47 jP _ hinf.out.1 hinf.out.2.1 hinf.out.2.2.1 hinf.out.2.2.2 rfl (.slice vo L.length vc) L w.heap.size w4.heap.size 1 #[.int .i64 (c : Int), .int .i64 (d : Int)] [(c, d)] rfl ?o1 rfl ?b1 rfl ?l1 ?l2 (by simp; omega) ?_)
            case o1 => exact O4.alloc
            case b1 => exact Blk.new (by simp)
            case l1 => (try simp only [List.length_cons, List.length_nil]); have := hN.out; unfold maxLen; omega
            case l2 => (try simp only [List.length_cons, List.length_nil]); have := hN.out; omega
            intro v' w5 O5 hg
            have k5 : Below w.heap.size w w5 := Below.grownK hg (e := encP) (E := 55) (B := w.heap.size) (xs := L) O4.alloc (Nat.le_refl _) (by simp; omega) (by repeat (first | (with_reducible exact Below.refl _ _) | (with_reducible assumption) | (with_reducible refine Below.drew ?_) | (with_reducible refine Below.drewN ?_) | ((with_reducible refine Below.al ?_ ?_); · first | omega | (simp; done) | (simp; omega)) | ((with_reducible refine Below.sc ?_ ?_); · first | omega | (simp; done) | (simp; omega)) | ((with_reducible refine Below.thru hb ?_ ?_); · first | omega | (simp; done) | (simp; omega))))
            clear hg
            go_wp2
            go_roundw
            case rel => exact ⟨d + 1, by omega, by go_num, by rw [HY.out, HI.out, if_pos rfl]; exact O5, k5⟩
            case measure => simp [intOf]; omega
          · have HQ := Lib.hid (fun w' : World => normal_any n c d w' hn hlt hdl)
            have hE := fun w' : World => run_equalInP (nrmN n c d) (c, d) w'
            rw [decide_eq_false hq] at hE
            simp only at hE
            have HI := Lib.hid (show isLn n c d = false by unfold isLn; rw [decide_eq_false hq, Bool.and_false])
            clear hp hq
            generalize nrmN n c d = y at *
            obtain ⟨y1, y2⟩ := y
            simp only at HQ hE
            go_wp2_with fail
            refine forget (fun W_ => Below w.heap.size w W_ ∧ Blk W_ (wr.heap.size) 55 (pcs (c, d)) ∧ OwnP W_ (w.heap.size) (.slice vo L.length vc) (L)) ⟨(by repeat (first | (with_reducible exact Below.refl _ _) | (with_reducible assumption) | (with_reducible refine Below.drew ?_) | (with_reducible refine Below.drewN ?_) | ((with_reducible refine Below.al ?_ ?_); · first | omega | (simp; done) | (simp; omega)) | ((with_reducible refine Below.sc ?_ ?_); · first | omega | (simp; done) | (simp; omega)) | ((with_reducible refine Below.thru hb ?_ ?_); · first | omega | (simp; done) | (simp; omega)))), (by repeat (first | (with_reducible assumption) | ((with_reducible refine Blk.new ?_); · first | omega | (simp; done) | (simp; omega)) | (with_reducible apply Blk.set4) | (with_reducible apply Blk.set3) | (with_reducible apply Blk.set2) | ((with_reducible refine Blk.put ?_ ?_); · first | omega | (simp; omega)) | (with_reducible refine Blk.old ?_) | (with_reducible refine Blk.drew ?_) | (with_reducible refine Blk.drewN ?_) | ((with_reducible refine Blk.below hb ?_ ?_); · first | omega | (simp; done) | (simp; omega)))), (by repeat (first | (with_reducible assumption) | (with_reducible refine Own.drew ?_) | (with_reducible refine Own.drewN ?_) | (with_reducible refine Own.alloc ?_) | (with_reducible refine OwnK.drew ?_) | (with_reducible refine OwnK.drewN ?_) | (with_reducible refine OwnK.alloc ?_) | ((with_reducible refine OwnK.put ?_ ?_); · first | omega | (simp; done) | (simp; omega)) | ((with_reducible refine Own.below hb ?_)) | ((with_reducible refine OwnK.below hb ?_))))⟩ ?_
            rintro w3 ⟨kw3, B3, O3⟩
            have sw3 := kw3.size
            have lB3 := B3.lt
            obtain ⟨b30, b31⟩ := B3.later2
            clear O kwr
            refine wp_region_calm (by kernel_rfl) (by kernel_rfl) ?_
            repeat (go_big_quiet_step (first | (go_at_call 50; with_reducible exact Calls.calm (HP.out _)) | (go_at_call 51; with_reducible exact Calls.calm (HQ.out _))))
            refine wpQuiet_nil ?_
            rintro w4 ⟨⟨_, hb⟩, rfl⟩
            have B4 : Blk w4 (wr.heap.size) 55 (pcs (c, d)) := (by repeat (first | (with_reducible assumption) | ((with_reducible refine Blk.new ?_); · first | omega | (simp; done) | (simp; omega)) | (with_reducible apply Blk.set4) | (with_reducible apply Blk.set3) | (with_reducible apply Blk.set2) | ((with_reducible refine Blk.put ?_ ?_); · first | omega | (simp; omega)) | (with_reducible refine Blk.old ?_) | (with_reducible refine Blk.drew ?_) | (with_reducible refine Blk.drewN ?_) | ((with_reducible refine Blk.below hb ?_ ?_); · first | omega | (simp; done) | (simp; omega))))
            have lB4 := B4.lt
            have O4 : OwnP w4 (w.heap.size) (.slice vo L.length vc) (L) := (by repeat (first | (with_reducible assumption) | (with_reducible refine Own.drew ?_) | (with_reducible refine Own.drewN ?_) | (with_reducible refine Own.alloc ?_) | (with_reducible refine OwnK.drew ?_) | (with_reducible refine OwnK.drewN ?_) | (with_reducible refine OwnK.alloc ?_) | ((with_reducible refine OwnK.put ?_ ?_); · first | omega | (simp; done) | (simp; omega)) | ((with_reducible refine Own.below hb ?_)) | ((with_reducible refine OwnK.below hb ?_))))
            have kw4 : Below w.heap.size w w4 := (by repeat (first | (with_reducible exact Below.refl _ _) | (with_reducible assumption) | (with_reducible refine Below.drew ?_) | (with_reducible refine Below.drewN ?_) | ((with_reducible refine Below.al ?_ ?_); · first | omega | (simp; done) | (simp; omega)) | ((with_reducible refine Below.sc ?_ ?_); · first | omega | (simp; done) | (simp; omega)) | ((with_reducible refine Below.thru hb ?_ ?_); · first | omega | (simp; done) | (simp; omega))))
            have sw4 := kw4.size
            clear hb
            have b4 := B4.p2n
            go_wp2
            go_roundw
            case rel => exact ⟨d + 1, by omega, by go_num, by rw [HY.out, HI.out, if_neg Bool.false_ne_true, List.append_nil]; exact O4, kw4⟩
            case measure => simp [intOf]; omega
        · obtain rfl : d = n := by omega
          go_wp2
          go_roundw
          case rel => exact ⟨c + 1, by omega, by go_num, by rw [HX.out]; exact O, kwr⟩
          case measure => simp [intOf]; omega
    · obtain rfl : c = n := by omega
      go_wp2
      refine bodyPost_ret (v := .slice vo (lnTo c c).length vc) (by simp [results, Try.results29, go_sem]) rfl ?_
      exact ⟨_, rfl, O, kwr⟩
/-- The place of a pair in a list, -1 if it is not there. -/
def idxP (xs : List (Nat × Nat)) (p : Nat × Nat) : Int := if p ∈ xs then (xs.idxOf p : Int) else -1
theorem idxP_hit {xs : List (Nat × Nat)} {p : Nat × Nat} {k : Nat} (h : ∀ j (hj : j < xs.length), j < k → xs[j] ≠ p) (hk : k < xs.length) (e : xs[k] = p) : idxP xs p = (k : Int) := by
  have hm : p ∈ xs := e ▸ List.getElem_mem hk
  unfold idxP
  rw [if_pos hm]
  have h1 : xs.idxOf p < xs.length := List.idxOf_lt_length_iff.2 hm
  have h2 : xs[xs.idxOf p] = p := List.getElem_idxOf h1
  have h3 : xs.idxOf p ≤ k := by
    by_cases hlt : k < xs.idxOf p
    · exact absurd e (by
        have := List.not_of_lt_findIdx (p := (· == p)) (xs := xs) (i := k) hlt
        simpa using this)
    · omega
  have h4 : ¬ xs.idxOf p < k := fun hlt => h _ h1 hlt h2
  omega
theorem idxP_none {xs : List (Nat × Nat)} {p : Nat × Nat} (h : ∀ j (hj : j < xs.length), j < xs.length → xs[j] ≠ p) : idxP xs p = -1 := by
  unfold idxP
  rw [if_neg]
  intro hm
  obtain ⟨j, hj, e⟩ := List.mem_iff_getElem.1 hm
  exact h j hj hj e
theorem idxP_bd (xs : List (Nat × Nat)) (p : Nat × Nat) : -1 ≤ idxP xs p ∧ idxP xs p < xs.length := by
  unfold idxP
  split
  · rename_i hm
    have h1 : xs.idxOf p < xs.length := List.idxOf_lt_length_iff.2 hm
    omega
  · omega
theorem ne_step {xs : List (Nat × Nat)} {p : Nat × Nat} {k : Nat} (h : ∀ j (hj : j < xs.length), j < k → xs[j] ≠ p) (hk : k < xs.length) (e : xs[k] ≠ p) : ∀ j (hj : j < xs.length), j < k + 1 → xs[j] ≠ p := by
  intro j hj hjk
  by_cases e2 : j < k
  · exact h j hj e2
  · obtain rfl : j = k := by omega
    exact e
theorem OwnP.at2 {w : World} {B g cap : Nat} {xs : List (Nat × Nat)} {n : Nat} (h : OwnP w B (.slice (some ⟨g, 0, none⟩) n cap) xs) {j : Nat} (hj : j < xs.length) :
    w.cell? ⟨g, j * 2, none⟩ = some (.int .i64 (xs[j].1 : Int)) ∧ w.cell? ⟨g, j * 2 + 1, none⟩ = some (.int .i64 (xs[j].2 : Int)) :=
  ⟨OwnK.at (i := 0) h rfl (List.getElem?_eq_getElem hj) rfl, OwnK.at (i := 1) h rfl (List.getElem?_eq_getElem hj) rfl⟩
set_option maxRecDepth 8000 in
set_option maxHeartbeats 1000000 in
theorem indexP_any (xs : List (Nat × Nat)) (p : Nat × Nat) (v : Value) (B : Nat) (w : World) (h : OwnP w B v xs) (hl : xs.length ≤ 3660) :
    Calls Try.prog 76 #[v, .agg #[.int .i64 (p.1 : Int), .int .i64 (p.2 : Int)]] w fun e w' => e = .returned (.int .i64 (idxP xs p)) ∧ Below w.heap.size w w' := by
  rcases h.form with ⟨rfl, rfl⟩ | ⟨g, cap, rfl, hBg, hg, hlc, hcm, -⟩
  · have HF := Lib.hid (show idxP [] p = -1 from rfl)
    go_enter Try.func76, Try.ntmps76
    go_wp2_with fail
    refine wp_loop_rounds 1 ?_
    rw [rounds_succ]
    go_wp2
    go_ret
    exact ⟨ret_int HF.out.symm, (by repeat (first | (with_reducible exact Below.refl _ _) | (with_reducible assumption) | (with_reducible refine Below.drew ?_) | (with_reducible refine Below.drewN ?_) | ((with_reducible refine Below.al ?_ ?_); · first | omega | (simp; done) | (simp; omega)) | ((with_reducible refine Below.sc ?_ ?_); · first | omega | (simp; done) | (simp; omega)) | ((with_reducible refine Below.thru hb ?_ ?_); · first | omega | (simp; done) | (simp; omega))))⟩
  · have HX := Lib.hid (fun j hj => OwnP.at2 h (j := j) hj)
    clear h hlc hcm
    go_enter Try.func76, Try.ntmps76
    go_wp2_with fail
    have HX2 : Hid (∀ j (hj : j < xs.length), (w.alloc (.cells (pcs p) 55)).cell? ⟨g, j * 2, none⟩ = some (.int .i64 (xs[j].1 : Int)) ∧ (w.alloc (.cells (pcs p) 55)).cell? ⟨g, j * 2 + 1, none⟩ = some (.int .i64 (xs[j].2 : Int))) := Lib.hid (fun j hj => by
      have hb : Below w.heap.size w (w.alloc (.cells (pcs p) 55)) := (Below.refl _ _).alloc (Nat.le_refl _) _
      obtain ⟨h1, h2⟩ := HX.out j hj
      exact ⟨(hb.cell (p := ⟨g, j * 2, none⟩) hg).trans h1, (hb.cell (p := ⟨g, j * 2 + 1, none⟩) hg).trans h2⟩)
    refine forget (fun W_ => Below w.heap.size w W_ ∧ Blk W_ (w.heap.size) 55 (pcs p) ∧ Hid (∀ j (hj : j < xs.length), W_.cell? ⟨g, j * 2, none⟩ = some (.int .i64 (xs[j].1 : Int)) ∧ W_.cell? ⟨g, j * 2 + 1, none⟩ = some (.int .i64 (xs[j].2 : Int)))) ⟨(by repeat (first | (with_reducible exact Below.refl _ _) | (with_reducible assumption) | (with_reducible refine Below.drew ?_) | (with_reducible refine Below.drewN ?_) | ((with_reducible refine Below.al ?_ ?_); · first | omega | (simp; done) | (simp; omega)) | ((with_reducible refine Below.sc ?_ ?_); · first | omega | (simp; done) | (simp; omega)) | ((with_reducible refine Below.thru hb ?_ ?_); · first | omega | (simp; done) | (simp; omega)))), (by repeat (first | (with_reducible assumption) | ((with_reducible refine Blk.new ?_); · first | omega | (simp; done) | (simp; omega)) | (with_reducible apply Blk.set4) | (with_reducible apply Blk.set3) | (with_reducible apply Blk.set2) | ((with_reducible refine Blk.put ?_ ?_); · first | omega | (simp; omega)) | (with_reducible refine Blk.old ?_) | (with_reducible refine Blk.drew ?_) | (with_reducible refine Blk.drewN ?_) | ((with_reducible refine Blk.below hb ?_ ?_); · first | omega | (simp; done) | (simp; omega)))), HX2⟩ ?_
    rintro w0 ⟨kw0, B0, HX3⟩
    have sw0 := kw0.size
    have lB0 := B0.lt
    obtain ⟨b0, b1⟩ := B0.p2n
    clear HX HX2
    go_loopw [8] (fun i wr => ∃ k : Nat, k ≤ xs.length ∧ i = .int .i64 k ∧ Hid (∀ j (h1 : j < xs.length), j < k → xs[j] ≠ p) ∧ ∃ n, wr = w0.drewN n) (fun i _ => xs.length - (intOf i).toNat)
    case atStart => exact ⟨0, Nat.zero_le _, rfl, fun j _ h => absurd h (by omega), 0, rfl⟩
    case round =>
      obtain ⟨k, hk, rfl, hall, n, rfl⟩ := hrel
      by_cases hlt : k < xs.length
      · have i0 : (0 : Int) ≤ (k : Int) := by omega
        have i1 : (k : Int) < (xs.length : Int) := by omega
        obtain ⟨c1, c2⟩ := HX3.out k hlt
        have hE := fun w' : World => run_equalInP p xs[k] w'
        by_cases hq : p = xs[k]
        · rw [decide_eq_true hq] at hE
          have HF := Lib.hid (idxP_hit hall.out hlt hq.symm)
          clear hq
          go_wp2_with fail
          go_quiet (fail)
          go_wp2
          go_ret
          exact ⟨ret_int HF.out.symm, (by repeat (first | (with_reducible exact Below.refl _ _) | (with_reducible assumption) | (with_reducible refine Below.drew ?_) | (with_reducible refine Below.drewN ?_) | ((with_reducible refine Below.al ?_ ?_); · first | omega | (simp; done) | (simp; omega)) | ((with_reducible refine Below.sc ?_ ?_); · first | omega | (simp; done) | (simp; omega)) | ((with_reducible refine Below.thru hb ?_ ?_); · first | omega | (simp; done) | (simp; omega))))⟩
        · rw [decide_eq_false hq] at hE
          have HF := Lib.hid (ne_step hall.out hlt (fun e => hq e.symm))
          clear hq
          go_wp2_with fail
          go_quiet (fail)
          go_wp2
          go_roundw
          case rel => exact ⟨k + 1, by omega, by go_num, HF, n + nq, rfl⟩
          case measure => simp [intOf]; omega
      · obtain rfl : k = xs.length := by omega
        have HF := Lib.hid (idxP_none (fun j h1 h2 => hall.out j h1 h2))
        go_wp2
        go_ret
        exact ⟨ret_int HF.out.symm, (by repeat (first | (with_reducible exact Below.refl _ _) | (with_reducible assumption) | (with_reducible refine Below.drew ?_) | (with_reducible refine Below.drewN ?_) | ((with_reducible refine Below.al ?_ ?_); · first | omega | (simp; done) | (simp; omega)) | ((with_reducible refine Below.sc ?_ ?_); · first | omega | (simp; done) | (simp; omega)) | ((with_reducible refine Below.thru hb ?_ ?_); · first | omega | (simp; done) | (simp; omega))))⟩
theorem mod_nat (c : Int) (n : Nat) (hn : 1 ≤ n) : ∃ x : Nat, c % (n : Int) = (x : Int) ∧ x < n ∧ (c % (n : Int)).toNat = x := by
  have h1 := Int.emod_nonneg c (show (n : Int) ≠ 0 by omega)
  have h2 := Int.emod_lt_of_pos c (show (0 : Int) < n by omega)
  exact ⟨(c % (n : Int)).toNat, by omega, by omega, rfl⟩
/-- The normal pair of two numbers. -/
def nrmC (n : Nat) (c d : Int) : Nat × Nat := nrmN n (c % (n : Int)).toNat (d % (n : Int)).toNat
set_option maxRecDepth 8000 in
set_option maxHeartbeats 1000000 in
theorem coset_any (n : Nat) (c d : Int) (xs : List (Nat × Nat)) (v : Value) (B : Nat) (w : World) (h : OwnP w B v xs) (hl : xs.length ≤ 3660) (hn : 1 ≤ n ∧ n ≤ 60) :
    Calls Try.prog 64 #[.int .i64 (n : Int), v, .int .i64 c, .int .i64 d] w fun e w' => e = .returned (.int .i64 (idxP xs (nrmC n c d))) ∧ Below w.heap.size w w' := by
  obtain ⟨x, hx, hxn, hx2⟩ := mod_nat c n hn.1
  obtain ⟨y, hy, hyn, hy2⟩ := mod_nat d n hn.1
  have HN := Lib.hid (show nrmC n c d = nrmN n x y by unfold nrmC; rw [hx2, hy2])
  have H1 := Lib.hid (fun w' : World => rest_any c (n : Int) w' (by omega) (by omega))
  rw [hx] at H1
  have H2 := Lib.hid (fun w' : World => rest_any d (n : Int) w' (by omega) (by omega))
  rw [hy] at H2
  have H3 := Lib.hid (fun w' : World => normal_any n x y w' hn hxn hyn)
  have HO := Lib.hid h
  have hbd := idxP_bd xs (nrmC n c d)
  rw [HN.out] at hbd
  clear hx hx2 hy hy2
  obtain ⟨vo, vc, rfl⟩ := h.len
  clear h
  go_enter Try.func64, Try.ntmps64
  go_wp2_with fail
  refine (H1.out _).mono ?_
  rintro e w1 ⟨rfl, hb⟩
  have k1 : Below w.heap.size w w1 := (by repeat (first | (with_reducible exact Below.refl _ _) | (with_reducible assumption) | (with_reducible refine Below.drew ?_) | (with_reducible refine Below.drewN ?_) | ((with_reducible refine Below.al ?_ ?_); · first | omega | (simp; done) | (simp; omega)) | ((with_reducible refine Below.sc ?_ ?_); · first | omega | (simp; done) | (simp; omega)) | ((with_reducible refine Below.thru hb ?_ ?_); · first | omega | (simp; done) | (simp; omega))))
  have s1 := k1.size
  clear hb
  go_wp2_with fail
  refine (H2.out _).mono ?_
  rintro e w2 ⟨rfl, hb⟩
  have k2 : Below w.heap.size w w2 := (by repeat (first | (with_reducible exact Below.refl _ _) | (with_reducible assumption) | (with_reducible refine Below.drew ?_) | (with_reducible refine Below.drewN ?_) | ((with_reducible refine Below.al ?_ ?_); · first | omega | (simp; done) | (simp; omega)) | ((with_reducible refine Below.sc ?_ ?_); · first | omega | (simp; done) | (simp; omega)) | ((with_reducible refine Below.thru hb ?_ ?_); · first | omega | (simp; done) | (simp; omega))))
  have s2 := k2.size
  clear hb
  go_wp2_with fail
  refine (H3.out _).mono ?_
  rintro e w3 ⟨rfl, hb⟩
  have k3 : Below w.heap.size w w3 := (by repeat (first | (with_reducible exact Below.refl _ _) | (with_reducible assumption) | (with_reducible refine Below.drew ?_) | (with_reducible refine Below.drewN ?_) | ((with_reducible refine Below.al ?_ ?_); · first | omega | (simp; done) | (simp; omega)) | ((with_reducible refine Below.sc ?_ ?_); · first | omega | (simp; done) | (simp; omega)) | ((with_reducible refine Below.thru hb ?_ ?_); · first | omega | (simp; done) | (simp; omega))))
  have s3 := k3.size
  clear hb
  go_wp2_with fail
  refine (indexP_any xs (nrmN n x y) _ B _ (HO.out.below (by with_reducible exact k3)) hl).mono ?_
  rintro e w4 ⟨rfl, hb⟩
  have k4 : Below w.heap.size w w4 := (by repeat (first | (with_reducible exact Below.refl _ _) | (with_reducible assumption) | (with_reducible refine Below.drew ?_) | (with_reducible refine Below.drewN ?_) | ((with_reducible refine Below.al ?_ ?_); · first | omega | (simp; done) | (simp; omega)) | ((with_reducible refine Below.sc ?_ ?_); · first | omega | (simp; done) | (simp; omega)) | ((with_reducible refine Below.thru hb ?_ ?_); · first | omega | (simp; done) | (simp; omega))))
  clear hb
  go_wp2
  go_ret
  exact ⟨by rw [HN.out]; rfl, k4⟩
/-- The coset to which a matrix moves a pair. -/
def mv1 (n : Nat) (m : M) (x : Nat × Nat) : Int := idxP (lineL n) (nrmC n ((x.1 : Int) * m.a + (x.2 : Int) * m.c) ((x.1 : Int) * m.b + (x.2 : Int) * m.d))
def movL (n : Nat) (m : M) : List Int := (lineL n).map (mv1 n m)
/-- The numbers in a slice of the call's own. -/
def GivesI (xs : List Int) (w : World) (e : Ending) (w' : World) : Prop := ∃ v, e = .returned v ∧ Own w' w.heap.size v xs ∧ Below w.heap.size w w'
theorem line_lt {n : Nat} {k : Nat} (h : k < (lineL n).length) : (lineL n)[k].1 < n ∧ (lineL n)[k].2 < n := by
  have := lnTo_mem.1 (List.getElem_mem h)
  exact ⟨this.1, this.2.1⟩
theorem mul60 {x : Nat} {a : Int} (hx : x < 60) (ha : -1000000000 ≤ a ∧ a ≤ 1000000000) : -60000000000 ≤ (x : Int) * a ∧ (x : Int) * a ≤ 60000000000 := by
  have := mul_bd (a := (x : Int)) (b := a) (A := 60) (B := 1000000000) (by omega) (by omega) ha.1 ha.2
  omega
set_option maxRecDepth 8000 in
set_option maxHeartbeats 2000000 in
theorem moved_any (n : Nat) (m : M) (w : World) (hn : 1 ≤ n ∧ n ≤ 60) (hm : m.ents = true) :
    Calls Try.prog 58 #[.int .i64 (n : Int), mv m] w (GivesI (movL n m) w) := by
  have HINF := Lib.hid (info_parts infoI)
  have HM := M.ents_bd hm
  have hl : (lineL n).length ≤ 3600 := by
    have := lnTo_len n n
    have h2 : n * n ≤ 60 * 60 := Nat.mul_le_mul hn.2 hn.2
    unfold lineL
    omega
  go_enter Try.func58, Try.ntmps58
  go_wp2_with fail
  refine (line_any n _ hn).mono ?_
  rintro e w1 ⟨v, rfl, O1, hb⟩
  have OP1 : OwnP w1 w.heap.size v (lineL n) := OwnK.mono (by simp; omega) O1
  have B1 : Blk w1 w.heap.size 57 (mcs m) := (by repeat (first | (with_reducible assumption) | ((with_reducible refine Blk.new ?_); · first | omega | (simp; done) | (simp; omega)) | (with_reducible apply Blk.set4) | (with_reducible apply Blk.set3) | (with_reducible apply Blk.set2) | ((with_reducible refine Blk.put ?_ ?_); · first | omega | (simp; omega)) | (with_reducible refine Blk.old ?_) | (with_reducible refine Blk.drew ?_) | (with_reducible refine Blk.drewN ?_) | ((with_reducible refine Blk.below hb ?_ ?_); · first | omega | (simp; done) | (simp; omega))))
  have O2 : Own w1 w.heap.size (.slice (some ⟨w.heap.size + 1, 0, none⟩) 0 0) [] := Own.below hb (Own.of_blk (xs := []) (Blk.new (by simp)) (by omega) rfl (by simp [maxLen]))
  have k1 : Below w.heap.size w w1 := (by repeat (first | (with_reducible exact Below.refl _ _) | (with_reducible assumption) | (with_reducible refine Below.drew ?_) | (with_reducible refine Below.drewN ?_) | ((with_reducible refine Below.al ?_ ?_); · first | omega | (simp; done) | (simp; omega)) | ((with_reducible refine Below.sc ?_ ?_); · first | omega | (simp; done) | (simp; omega)) | ((with_reducible refine Below.thru hb ?_ ?_); · first | omega | (simp; done) | (simp; omega))))
  obtain ⟨vo, vc, rfl⟩ := O1.len
  clear hb O1
  go_wp2_with fail
  go_loopw [5, 14] (fun v kk wr => ∃ k : Nat, k ≤ (lineL n).length ∧ kk = .int .i64 k ∧ Own wr w.heap.size v (((lineL n).take k).map (mv1 n m)) ∧ Blk wr w.heap.size 57 (mcs m) ∧ OwnP wr w.heap.size (.slice vo (lineL n).length vc) (lineL n) ∧ Below w.heap.size w wr) (fun _ kk _ => (lineL n).length - (intOf kk).toNat)
  case atStart => exact ⟨0, Nat.zero_le _, rfl, O2, B1, OP1, k1⟩
  case round =>
    clear O2 B1 OP1 k1
    obtain ⟨k, hk, rfl, O, B, OP, kwr⟩ := hrel
    obtain ⟨ro, rc, rfl, -⟩ := O.slIn.form
    rw [List.length_map, List.length_take, Nat.min_eq_left hk] at *
    have swr := kwr.size
    have lB := B.lt
    by_cases hlt : k < (lineL n).length
    · obtain ⟨g, cap, hvg, hg1, hg2⟩ : ∃ g cap, Value.slice vo (lineL n).length vc = .slice (some ⟨g, 0, none⟩) (lineL n).length cap ∧ w.heap.size ≤ g ∧ g < wr.heap.size := by
        rcases OP.form with ⟨h1, h2⟩ | ⟨g, cap, h1, h2, h3, -⟩
        · rw [h2] at hlt; simp at hlt
        · exact ⟨g, cap, h1, h2, h3⟩
      simp only [Value.slice.injEq, true_and] at hvg
      obtain ⟨rfl, rfl⟩ := hvg
      have HX := Lib.hid (show ((lineL n).take (k + 1)).map (mv1 n m) = ((lineL n).take k).map (mv1 n m) ++ [mv1 n m (lineL n)[k]] by rw [List.take_succ_eq_append_getElem hlt, List.map_append]; rfl)
      obtain ⟨c1, c2⟩ := OwnP.at2 OP hlt
      have hx := line_lt hlt
      have HV := Lib.hid (show mv1 n m (lineL n)[k] = idxP (lineL n) (nrmC n (((lineL n)[k].1 : Int) * m.a + ((lineL n)[k].2 : Int) * m.c) (((lineL n)[k].1 : Int) * m.b + ((lineL n)[k].2 : Int) * m.d)) from rfl)
      have i0 : (0 : Int) ≤ (k : Int) := by omega
      have i1 : (k : Int) < ((lineL n).length : Int) := by omega
      generalize (lineL n)[k] = x at *
      obtain ⟨x1, x2⟩ := x
      simp only at c1 c2 hx HV
      have p1 := mul60 (x := x1) (a := m.a) (by omega) HM.1
      have p2 := mul60 (x := x2) (a := m.c) (by omega) HM.2.2.1
      have p3 := mul60 (x := x1) (a := m.b) (by omega) HM.2.1
      have p4 := mul60 (x := x2) (a := m.d) (by omega) HM.2.2.2
      obtain ⟨q1, e1⟩ : ∃ q, (x1 : Int) * m.a = q := ⟨_, rfl⟩
      rw [e1] at HV p1
      have w1 : wrap64 ((x1 : Int) * m.a) = q1 := by rw [e1]; unfold wrap64; omega
      clear e1
      obtain ⟨q2, e2⟩ : ∃ q, (x2 : Int) * m.c = q := ⟨_, rfl⟩
      rw [e2] at HV p2
      have w2 : wrap64 ((x2 : Int) * m.c) = q2 := by rw [e2]; unfold wrap64; omega
      clear e2
      obtain ⟨q3, e3⟩ : ∃ q, (x1 : Int) * m.b = q := ⟨_, rfl⟩
      rw [e3] at HV p3
      have w3 : wrap64 ((x1 : Int) * m.b) = q3 := by rw [e3]; unfold wrap64; omega
      clear e3
      obtain ⟨q4, e4⟩ : ∃ q, (x2 : Int) * m.d = q := ⟨_, rfl⟩
      rw [e4] at HV p4
      have w4 : wrap64 ((x2 : Int) * m.d) = q4 := by rw [e4]; unfold wrap64; omega
      clear e4
      have hm4 := B.m
      obtain ⟨ma, mb, mc, md⟩ := hm4
      go_wp2_with fail
      refine (coset_any n _ _ (lineL n) _ w.heap.size _ (OwnK.below (by first | (with_reducible exact (by (repeat (first | (with_reducible exact Below.refl _ _) | (with_reducible assumption) | (with_reducible refine Below.drew ?_) | (with_reducible refine Below.drewN ?_) | ((with_reducible refine Below.al ?_ ?_); · first | omega | (simp; done) | (simp; omega)) | ((with_reducible refine Below.sc ?_ ?_); · first | omega | (simp; done) | (simp; omega)) | ((with_reducible refine Below.thru hb ?_ ?_); · first | omega | (simp; done) | (simp; omega)))); first | done | fail))) OP) (by omega) hn).mono ?_
      rintro e w5 ⟨rfl, hb⟩
      have kk : Below wr.heap.size wr w5 := (by repeat (first | (with_reducible exact Below.refl _ _) | (with_reducible assumption) | (with_reducible refine Below.drew ?_) | (with_reducible refine Below.drewN ?_) | ((with_reducible refine Below.al ?_ ?_); · first | omega | (simp; done) | (simp; omega)) | ((with_reducible refine Below.sc ?_ ?_); · first | omega | (simp; done) | (simp; omega)) | ((with_reducible refine Below.thru hb ?_ ?_); · first | omega | (simp; done) | (simp; omega))))
      have B5 : Blk w5 w.heap.size 57 (mcs m) := B.below kk lB
      have OP5 : OwnP w5 w.heap.size (.slice (some ⟨g, 0, none⟩) (lineL n).length vc) (lineL n) := OwnK.below kk OP
      have O5 := O.below kk
      have k5 : Below w.heap.size w w5 := Below.thru kk (by omega) kwr
      have s5 := k5.size
      rw [← HV.out]
      clear hb kk B OP O kwr ma mb mc md
      obtain ⟨jI, hinf⟩ := HINF.out
      replace hinf := Lib.hid hinf
      generalize mv1 n m (x1, x2) = r at *
      go_wp2_with (at_builtin; refine wpList_app encI rfl _ _ 25 2 8 rfl Try.underlying25 jI _ hinf.out.1 hinf.out.2.1 hinf.out.2.2.1 hinf.out.2.2.2 rfl (.slice ro k rc) (((lineL n).take k).map (mv1 n m)) w.heap.size w5.heap.size 1 #[.int .i64 r] [r] rfl ?o1 rfl ?b1 rfl ?l1 ?l2 (by first | omega | (simp; done) | (simp; omega)) ?_)
      case o1 => exact O5.alloc.toK
      case b1 => exact Blk.new (by simp)
      case l1 => (try simp only [List.length_map, List.length_take, List.length_cons, List.length_nil]); unfold maxLen; omega
      case l2 => (try simp only [List.length_map, List.length_take, List.length_cons, List.length_nil]); omega
      intro v' w6 O6 hg
      have B6 : Blk w6 w.heap.size 57 (mcs m) := Blk.grownN hg (O5.toK.ne_blk B5 (by decide)) (Blk.old B5)
      have OP6 : OwnP w6 w.heap.size (.slice (some ⟨g, 0, none⟩) (lineL n).length vc) (lineL n) := OwnK.grownO hg O5.alloc (by decide) (OwnK.alloc OP5)
      have k6 : Below w.heap.size w w6 := Below.grownO hg O5.alloc (Nat.le_refl _) (by simp; omega) (by repeat (first | (with_reducible exact Below.refl _ _) | (with_reducible assumption) | (with_reducible refine Below.drew ?_) | (with_reducible refine Below.drewN ?_) | ((with_reducible refine Below.al ?_ ?_); · first | omega | (simp; done) | (simp; omega)) | ((with_reducible refine Below.sc ?_ ?_); · first | omega | (simp; done) | (simp; omega)) | ((with_reducible refine Below.thru hb ?_ ?_); · first | omega | (simp; done) | (simp; omega))))
      have O7 := OwnK.toOwn O6
      clear hg O5 B5 OP5 k5 O6
      go_wp2
      go_roundw
      case rel => exact ⟨k + 1, by omega, by go_num, by rw [HX.out]; simpa only [List.map_take] using O7, B6, OP6, k6⟩
      case measure => simp [intOf]; omega
    · obtain rfl : k = (lineL n).length := by omega
      go_wp2
      refine bodyPost_ret (v := .slice ro (lineL n).length rc) (by simp [results, Try.results58, go_sem]) rfl ?_
      exact ⟨_, rfl, by rw [List.take_length] at O; exact O, kwr⟩

end Go.Proofs.Ytjjbaebddkejnaa
