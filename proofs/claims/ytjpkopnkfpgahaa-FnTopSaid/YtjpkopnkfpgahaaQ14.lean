import Derived.Test.YtjpkopnkfpgahaaQ10
import Derived.Test.YtjpkopnkfpgahaaQ2
import Derived.Test.YtjpkopnkfpgahaaQ7
import Derived.Test.YtjpkopnkfpgahaaQ13
import Derived.Test.YtjpkopnkfpgahaaTail
/- Pairs of rests: normal pairs, both walks. -/
namespace Go.Proofs.Ytjpkopnkfpgahaa
open Go.RowKit
set_option linter.unusedSimpArgs false

/-- Go's == at arrays of int64. -/
theorem all_range_ints : ∀ (xs ys : List Int), xs.length = ys.length → ((List.range xs.length).all fun i => xs.getD i 0 == ys.getD i 0) = (xs == ys)
  | [], [], _ => rfl
  | x :: xs, y :: ys, h => by
    have ih := all_range_ints xs ys (by simpa using h)
    rw [List.length_cons, List.range_succ_eq_map, List.all_cons, List.all_map]
    have : ((fun i => (x :: xs).getD i 0 == (y :: ys).getD i 0) ∘ Nat.succ) = fun i => xs.getD i 0 == ys.getD i 0 := by funext i; simp
    rw [this, ih]
    simp [List.cons_beq_cons]
  | [], _ :: _, h => by simp at h
  | _ :: _, [], h => by simp at h
theorem run_equalIn_ints {P : Program} (w : World) (d : Nat) (t e : TypeId) (n : Nat) (ht : P.underlying t = some (.array n e)) (he : P.underlying e = some (.int .i64)) (hsz : ∀ w, (sizeOf e).run P w = .ok 1 w)
    (xs ys : List Int) (hx : xs.length = n) (hy : ys.length = n) :
    (Op.equalIn (d + 2) t (.agg (xs.map (Value.int .i64)).toArray) (.agg (ys.map (Value.int .i64)).toArray)).run P w = .ok (xs == ys) w := by
  rw [← all_range_ints xs ys (hx.trans hy.symm), hx, List.range_eq_range', Op.equalIn]
  simp only [Sem.run_bind, run_underlying ht, Result.andThen_ok, hsz, Std.Legacy.Range.forIn_eq_forIn_range', Std.Legacy.Range.size, Nat.sub_zero, Nat.add_sub_cancel, Nat.div_one]
  have hl : ∀ i ∈ List.range' 0 n 1, i < n := fun i hi => by simpa using (List.mem_range'_1.1 hi).2
  generalize List.range' 0 n 1 = l at hl ⊢
  induction l with
  | nil => simp
  | cons i l ih =>
    have hi : i < n := hl i (by simp)
    have px : (part e (xs.map (Value.int .i64)).toArray (i * 1)).run P w = .ok (.int .i64 (xs.getD i 0)) w := by
      simp [part, isAgg, run_underlying he, List.getD, List.getElem?_eq_getElem (show i < xs.length by omega)]
    have py : (part e (ys.map (Value.int .i64)).toArray (i * 1)).run P w = .ok (.int .i64 (ys.getD i 0)) w := by
      simp [part, isAgg, run_underlying he, List.getD, List.getElem?_eq_getElem (show i < ys.length by omega)]
    have pe : (Op.equalIn (d + 1) e (.int .i64 (xs.getD i 0)) (.int .i64 (ys.getD i 0))).run P w = .ok (xs.getD i 0 == ys.getD i 0) w := run_equalIn_int w d e .i64 .i64 _ _ he
    simp only [List.forIn_cons, Sem.run_bind, px, py, pe, Result.andThen_ok, List.all_cons]
    cases hb : (xs.getD i 0 == ys.getD i 0)
    · simp
    · simp only [Bool.not_true, Bool.false_eq_true, if_false, Sem.run_pure, Result.andThen_ok, Bool.true_and]
      exact ih fun j hj => hl j (by simp [hj])

/-- A pair's cells. -/
abbrev pcs (x : Nat × Nat) : Array Value := #[.int .i64 (x.1 : Int), .int .i64 (x.2 : Int)]
theorem run_equalInP (x y : Nat × Nat) (w : World) : (Op.equalIn 10000 98 (.agg #[.int .i64 (x.1 : Int), .int .i64 (x.2 : Int)]) (.agg #[.int .i64 (y.1 : Int), .int .i64 (y.2 : Int)])).run Try.prog w = .ok (decide (x = y)) w := by
  have e := run_equalIn_ints w 9998 98 2 2 Try.underlying98 Try.underlying2 Try.sizeOf2 [(x.1 : Int), (x.2 : Int)] [(y.1 : Int), (y.2 : Int)] rfl rfl
  rw [show ([(x.1 : Int), (x.2 : Int)] == [(y.1 : Int), (y.2 : Int)]) = decide (x = y) by
    rw [Bool.eq_iff_iff]
    obtain ⟨a, b⟩ := x
    obtain ⟨c, d⟩ := y
    simp
    omega] at e
  exact e

/-- Is the first pair before the second one? -/
def ltP (x y : Nat × Nat) : Prop := x.1 < y.1 ∨ x.1 = y.1 ∧ x.2 < y.2
instance (x y : Nat × Nat) : Decidable (ltP x y) := by unfold ltP; infer_instance
def nst (n c d k : Nat) (b : Nat × Nat) : Nat × Nat := if Nat.gcd k n = 1 ∧ ltP (k * c % n, k * d % n) b then (k * c % n, k * d % n) else b
/-- The least one of the multiples by the units up to k. -/
def nrm (n c d : Nat) : Nat → Nat × Nat
  | 0 => (c, d)
  | k + 1 => nst n c d (k + 1) (nrm n c d k)
theorem nrm_lt {n c d : Nat} (hc : c < n) (hd : d < n) (k : Nat) : (nrm n c d k).1 < n ∧ (nrm n c d k).2 < n := by
  induction k with
  | zero => exact ⟨hc, hd⟩
  | succ k ih =>
    simp only [nrm, nst]
    split
    · exact ⟨Nat.mod_lt _ (by omega), Nat.mod_lt _ (by omega)⟩
    · exact ih
def nrmN (n c d : Nat) : Nat × Nat := nrm n c d (n - 1)
theorem tmod_nat (k c n : Nat) : ((k : Int) * (c : Int)).tmod (n : Int) = ((k * c % n : Nat) : Int) := by
  rw [← Int.natCast_mul, ← Int.ofNat_tmod]

set_option maxHeartbeats 400000 in
theorem isPair_any (n c d : Nat) (w : World) (hn : 1 ≤ n ∧ n ≤ 60) (hc : c < n) (hd : d < n) :
    Calls Try.prog 59 #[.int .i64 (n : Int), .agg #[.int .i64 (c : Int), .int .i64 (d : Int)]] w fun e w' => e = .returned (.bool (decide (Nat.gcd (Nat.gcd c d) n = 1))) ∧ Below w.heap.size w w' := by
  have hg : Nat.gcd c d ≤ 60 := by
    by_cases h : c = 0
    · subst h; rw [Nat.gcd_zero_left]; omega
    · have := Nat.gcd_le_left d (show 0 < c by omega); omega
  have H1 := Lib.hid (show Int.gcd (c : Int) (d : Int) = Nat.gcd c d from rfl)
  have H2 := Lib.hid (show Int.gcd ((Nat.gcd c d : Nat) : Int) (n : Int) = Nat.gcd (Nat.gcd c d) n from rfl)
  go_enter Try.func59, Try.ntmps59
  go_wp2_with fail
  refine (divisor_any (c : Int) (d : Int) _ (by omega) (by omega) (by omega) (by omega)).mono ?_
  rw [H1.out]
  rintro e w1 ⟨rfl, hb⟩
  have k1 : Below w.heap.size w w1 := (by repeat (first | (with_reducible exact Below.refl _ _) | (with_reducible assumption) | (with_reducible refine Below.drew ?_) | (with_reducible refine Below.drewN ?_) | ((with_reducible refine Below.al ?_ ?_); · first | omega | (simp; done) | (simp; omega)) | ((with_reducible refine Below.sc ?_ ?_); · first | omega | (simp; done) | (simp; omega)) | ((with_reducible refine Below.thru hb ?_ ?_); · first | omega | (simp; done) | (simp; omega))))
  have s1 := k1.size
  clear hb
  go_wp2_with fail
  refine (divisor_any _ (n : Int) _ (by omega) (by omega) (by omega) (by omega)).mono ?_
  rw [H2.out]
  rintro e w2 ⟨rfl, hb⟩
  have k2 : Below w.heap.size w w2 := (by repeat (first | (with_reducible exact Below.refl _ _) | (with_reducible assumption) | (with_reducible refine Below.drew ?_) | (with_reducible refine Below.drewN ?_) | ((with_reducible refine Below.al ?_ ?_); · first | omega | (simp; done) | (simp; omega)) | ((with_reducible refine Below.sc ?_ ?_); · first | omega | (simp; done) | (simp; omega)) | ((with_reducible refine Below.thru hb ?_ ?_); · first | omega | (simp; done) | (simp; omega))))
  clear hb
  go_wp2
  go_ret
  exact ⟨ret_bool (by rw [Bool.eq_iff_iff]; simp; omega), k2⟩

theorem isNaN_any (a : Int) (w : World) : Calls Try.prog 78 #[.int .i64 a] w fun e w' => e = .returned (.bool false) ∧ w = w' := by
  go_enter Try.func78, Try.ntmps78
  go_wp2
  go_ret
  exact ⟨ret_bool (by simp), rfl⟩
def cmpI (a b : Int) : Int := if a < b then -1 else if b < a then 1 else 0
theorem cmpI_any (a b : Int) (w : World) : Calls Try.prog 77 #[.int .i64 a, .int .i64 b] w fun e w' => e = .returned (.int .i64 (cmpI a b)) ∧ w = w' := by
  by_cases h1 : a < b
  · go_enter Try.func77, Try.ntmps77
    go_wp2_with (go_at_call 78; refine (isNaN_any _ _).mono ?_; rintro e w' ⟨rfl, rfl⟩)
    go_ret
    exact ⟨ret_int (by simp [cmpI, h1]), rfl⟩
  · by_cases h2 : b < a
    · go_enter Try.func77, Try.ntmps77
      go_wp2_with (go_at_call 78; refine (isNaN_any _ _).mono ?_; rintro e w' ⟨rfl, rfl⟩)
      go_ret
      exact ⟨ret_int (by unfold cmpI; (repeat' split) <;> omega), rfl⟩
    · go_enter Try.func77, Try.ntmps77
      go_wp2_with (go_at_call 78; refine (isNaN_any _ _).mono ?_; rintro e w' ⟨rfl, rfl⟩)
      go_ret
      exact ⟨ret_int (by unfold cmpI; (repeat' split) <;> omega), rfl⟩

/-- Two pairs compared. -/
def cmpP (x y : Nat × Nat) : Int := if cmpI x.1 y.1 ≠ 0 then cmpI x.1 y.1 else cmpI x.2 y.2
theorem cmpP_lt (x y : Nat × Nat) : cmpP x y < 0 ↔ ltP x y := by
  unfold cmpP cmpI ltP
  repeat' split
  all_goals omega
theorem cmpP_bd (x y : Nat × Nat) : -1 ≤ cmpP x y ∧ cmpP x y ≤ 1 := by
  unfold cmpP cmpI
  repeat' split
  all_goals omega
set_option maxHeartbeats 1000000 in
theorem compareP_any (g h : Nat) (x y : Nat × Nat) (w : World) (c0 : w.cell? ⟨g, 0, none⟩ = some (.int .i64 (x.1 : Int))) (c1 : w.cell? ⟨g, 1, none⟩ = some (.int .i64 (x.2 : Int))) (d0 : w.cell? ⟨h, 0, none⟩ = some (.int .i64 (y.1 : Int))) (d1 : w.cell? ⟨h, 1, none⟩ = some (.int .i64 (y.2 : Int))) :
    Calls Try.prog 73 #[.slice (some ⟨g, 0, none⟩) 2 2, .slice (some ⟨h, 0, none⟩) 2 2] w fun e w' => e = .returned (.int .i64 (cmpP x y)) ∧ w = w' := by
  by_cases h1 : cmpI x.1 y.1 = 0
  · have HC := Lib.hid (show cmpP x y = cmpI x.2 y.2 by unfold cmpP; rw [if_neg (fun h => h h1)])
    have A1 := fun w : World => cmpI_any x.1 y.1 w
    rw [h1] at A1
    clear h1
    by_cases h2 : cmpI x.2 y.2 = 0
    · rw [h2] at HC
      have A2 := fun w : World => cmpI_any x.2 y.2 w
      rw [h2] at A2
      clear h2
      go_enter Try.func73, Try.ntmps73
      go_wp2
      refine wp_loop_rounds 3 ?_
      rw [rounds_succ]
      go_wp2_with fail
      refine (A1 _).mono ?_
      rintro e w' ⟨rfl, rfl⟩
      go_wp2
      rw [rounds_succ]
      go_wp2_with fail
      refine (A2 _).mono ?_
      rintro e w' ⟨rfl, rfl⟩
      go_wp2
      rw [rounds_succ]
      go_wp2
      go_ret
      exact ⟨ret_int HC.out.symm, rfl⟩
    · have A2 := fun w : World => cmpI_any x.2 y.2 w
      have hr : -1 ≤ cmpI x.2 y.2 ∧ cmpI x.2 y.2 ≤ 1 := by unfold cmpI; split <;> (try split) <;> omega
      generalize cmpI (x.2 : Int) (y.2 : Int) = r at *
      go_enter Try.func73, Try.ntmps73
      go_wp2
      refine wp_loop_rounds 3 ?_
      rw [rounds_succ]
      go_wp2_with fail
      refine (A1 _).mono ?_
      rintro e w' ⟨rfl, rfl⟩
      go_wp2
      rw [rounds_succ]
      go_wp2_with fail
      refine (A2 _).mono ?_
      rintro e w' ⟨rfl, rfl⟩
      go_wp2
      go_ret
      exact ⟨ret_int HC.out.symm, rfl⟩
  · have HC := Lib.hid (show cmpP x y = cmpI x.1 y.1 by unfold cmpP; rw [if_pos h1])
    have A1 := fun w : World => cmpI_any x.1 y.1 w
    have hr : -1 ≤ cmpI x.1 y.1 ∧ cmpI x.1 y.1 ≤ 1 := by unfold cmpI; split <;> (try split) <;> omega
    generalize cmpI (x.1 : Int) (y.1 : Int) = r at *
    go_enter Try.func73, Try.ntmps73
    go_wp2
    refine wp_loop_rounds 3 ?_
    rw [rounds_succ]
    go_wp2_with fail
    refine (A1 _).mono ?_
    rintro e w' ⟨rfl, rfl⟩
    go_wp2
    go_ret
    exact ⟨ret_int HC.out.symm, rfl⟩

end Go.Proofs.Ytjpkopnkfpgahaa

/- Normal pairs: both walks. -/
namespace Go.Proofs.Ytjpkopnkfpgahaa
open Go.RowKit
set_option linter.unusedSimpArgs false

theorem Blk.p2n {w : World} {g : Nat} {E : TypeId} {x : Nat × Nat} (h : Blk w g E (pcs x)) : w.cell? ⟨g, 0, none⟩ = some (.int .i64 (x.1 : Int)) ∧ w.cell? ⟨g, 1, none⟩ = some (.int .i64 (x.2 : Int)) := ⟨h.at (i := 0) rfl, h.at (i := 1) rfl⟩

theorem gcd_unit {k n : Nat} (hk : 1 ≤ k) : (1 < Int.gcd (k : Int) (n : Int)) ↔ ¬ Nat.gcd k n = 1 := by
  have : 0 < Nat.gcd k n := Nat.gcd_pos_of_pos_left _ hk
  show (1 < Nat.gcd k n) ↔ _
  omega

theorem nst_unit {n c d k : Nat} {b : Nat × Nat} (hu : Nat.gcd k n = 1) : nst n c d k b = if ltP (k * c % n, k * d % n) b then (k * c % n, k * d % n) else b := by
  unfold nst
  by_cases h : ltP (k * c % n, k * d % n) b
  · rw [if_pos ⟨hu, h⟩, if_pos h]
  · rw [if_neg (fun h' => h h'.2), if_neg h]

set_option maxRecDepth 8000 in
set_option maxHeartbeats 2000000 in
theorem normal_any (n c d : Nat) (w : World) (hn : 1 ≤ n ∧ n ≤ 60) (hc : c < n) (hd : d < n) :
    Calls Try.prog 60 #[.int .i64 (n : Int), .agg #[.int .i64 (c : Int), .int .i64 (d : Int)]] w fun e w' => e = .returned (.agg #[.int .i64 ((nrmN n c d).1 : Int), .int .i64 ((nrmN n c d).2 : Int)]) ∧ Below w.heap.size w w' := by
  go_enter Try.func60, Try.ntmps60
  go_wp2_with fail
  refine forget (fun W_ => Below w.heap.size w W_ ∧ Blk W_ (w.heap.size) 98 (pcs (c, d)) ∧ Blk W_ (w.heap.size + 1) 98 (#[.int .i64 0, .int .i64 0]) ∧ Blk W_ (w.heap.size + 2) 98 (pcs (c, d))) ⟨(by repeat (first | (with_reducible exact Below.refl _ _) | (with_reducible assumption) | (with_reducible refine Below.drew ?_) | (with_reducible refine Below.drewN ?_) | ((with_reducible refine Below.al ?_ ?_); · first | omega | (simp; done) | (simp; omega)) | ((with_reducible refine Below.sc ?_ ?_); · first | omega | (simp; done) | (simp; omega)) | ((with_reducible refine Below.thru hb ?_ ?_); · first | omega | (simp; done) | (simp; omega)))), (by repeat (first | (with_reducible assumption) | ((with_reducible refine Blk.new ?_); · first | omega | (simp; done) | (simp; omega)) | (with_reducible apply Blk.set4) | (with_reducible apply Blk.set3) | (with_reducible apply Blk.set2) | ((with_reducible refine Blk.put ?_ ?_); · first | omega | (simp; omega)) | (with_reducible refine Blk.old ?_) | (with_reducible refine Blk.drew ?_) | (with_reducible refine Blk.drewN ?_) | ((with_reducible refine Blk.below hb ?_ ?_); · first | omega | (simp; done) | (simp; omega)))), (by repeat (first | (with_reducible assumption) | ((with_reducible refine Blk.new ?_); · first | omega | (simp; done) | (simp; omega)) | (with_reducible apply Blk.set4) | (with_reducible apply Blk.set3) | (with_reducible apply Blk.set2) | ((with_reducible refine Blk.put ?_ ?_); · first | omega | (simp; omega)) | (with_reducible refine Blk.old ?_) | (with_reducible refine Blk.drew ?_) | (with_reducible refine Blk.drewN ?_) | ((with_reducible refine Blk.below hb ?_ ?_); · first | omega | (simp; done) | (simp; omega)))), (by repeat (first | (with_reducible assumption) | ((with_reducible refine Blk.new ?_); · first | omega | (simp; done) | (simp; omega)) | (with_reducible apply Blk.set4) | (with_reducible apply Blk.set3) | (with_reducible apply Blk.set2) | ((with_reducible refine Blk.put ?_ ?_); · first | omega | (simp; omega)) | (with_reducible refine Blk.old ?_) | (with_reducible refine Blk.drew ?_) | (with_reducible refine Blk.drewN ?_) | ((with_reducible refine Blk.below hb ?_ ?_); · first | omega | (simp; done) | (simp; omega))))⟩ ?_
  rintro w1 ⟨kw1, B0, B1, B2⟩
  have sw1 := kw1.size
  have lB0 := B0.lt
  have lB1 := B1.lt
  have lB2 := B2.lt
  go_loopw [6] (fun k wr => ∃ j : Nat, 1 ≤ j ∧ j ≤ n ∧ k = .int .i64 (j : Int) ∧ Blk wr w.heap.size 98 (pcs (c, d)) ∧ Blk wr (w.heap.size + 1) 98 (#[.int .i64 0, .int .i64 0]) ∧ Blk wr (w.heap.size + 2) 98 (pcs (nrm n c d (j - 1))) ∧ Below w.heap.size w wr) (fun k _ => n - (intOf k).toNat)
  case atStart => exact ⟨1, by omega, by omega, rfl, B0, B1, B2, kw1⟩
  case round =>
    clear B0 B1 B2 kw1 sw1 lB0 lB1 lB2
    obtain ⟨j, hj1, hj, rfl, B0, B1, B2, kwr⟩ := hrel
    have swr := kwr.size
    have lB0 := B0.lt
    have lB1 := B1.lt
    have lB2 := B2.lt
    have HN := Lib.hid (show nrm n c d j = nst n c d j (nrm n c d (j - 1)) by obtain ⟨i, rfl⟩ : ∃ i, j = i + 1 := ⟨j - 1, by omega⟩; rfl)
    have hb1 := (nrm_lt hc hd (j - 1)).1
    have hb2 := (nrm_lt hc hd (j - 1)).2
    have hnr := Lib.hid (show n = j → nrmN n c d = nrm n c d (j - 1) from fun h => by subst h; rfl)
    generalize nrm n c d (j - 1) = b at *
    by_cases hlt : j < n
    · have hgu := gcd_unit (k := j) (n := n) (by omega)
      by_cases hu : Nat.gcd j n = 1
      · have hu1 : ¬ 1 < Int.gcd (j : Int) (n : Int) := fun h => hgu.1 h hu
        have HD := Lib.hid (fun w' : World => divisor_any (j : Int) (n : Int) w' (by omega) (by omega) (by omega) (by omega))
        have hg0 : 0 ≤ (Int.gcd (j : Int) (n : Int) : Int) := by omega
        generalize Int.gcd (j : Int) (n : Int) = g at *
        clear hgu
        go_wp2_with fail
        refine (HD.out _).mono ?_
        rintro e w2 ⟨rfl, hb⟩
        have C0 : Blk w2 w.heap.size 98 (pcs (c, d)) := (by repeat (first | (with_reducible assumption) | ((with_reducible refine Blk.new ?_); · first | omega | (simp; done) | (simp; omega)) | (with_reducible apply Blk.set4) | (with_reducible apply Blk.set3) | (with_reducible apply Blk.set2) | ((with_reducible refine Blk.put ?_ ?_); · first | omega | (simp; omega)) | (with_reducible refine Blk.old ?_) | (with_reducible refine Blk.drew ?_) | (with_reducible refine Blk.drewN ?_) | ((with_reducible refine Blk.below hb ?_ ?_); · first | omega | (simp; done) | (simp; omega))))
        have C1 : Blk w2 (w.heap.size + 1) 98 #[.int .i64 0, .int .i64 0] := (by repeat (first | (with_reducible assumption) | ((with_reducible refine Blk.new ?_); · first | omega | (simp; done) | (simp; omega)) | (with_reducible apply Blk.set4) | (with_reducible apply Blk.set3) | (with_reducible apply Blk.set2) | ((with_reducible refine Blk.put ?_ ?_); · first | omega | (simp; omega)) | (with_reducible refine Blk.old ?_) | (with_reducible refine Blk.drew ?_) | (with_reducible refine Blk.drewN ?_) | ((with_reducible refine Blk.below hb ?_ ?_); · first | omega | (simp; done) | (simp; omega))))
        have C2 : Blk w2 (w.heap.size + 2) 98 (pcs b) := (by repeat (first | (with_reducible assumption) | ((with_reducible refine Blk.new ?_); · first | omega | (simp; done) | (simp; omega)) | (with_reducible apply Blk.set4) | (with_reducible apply Blk.set3) | (with_reducible apply Blk.set2) | ((with_reducible refine Blk.put ?_ ?_); · first | omega | (simp; omega)) | (with_reducible refine Blk.old ?_) | (with_reducible refine Blk.drew ?_) | (with_reducible refine Blk.drewN ?_) | ((with_reducible refine Blk.below hb ?_ ?_); · first | omega | (simp; done) | (simp; omega))))
        have kw2 : Below w.heap.size w w2 := (by repeat (first | (with_reducible exact Below.refl _ _) | (with_reducible assumption) | (with_reducible refine Below.drew ?_) | (with_reducible refine Below.drewN ?_) | ((with_reducible refine Below.al ?_ ?_); · first | omega | (simp; done) | (simp; omega)) | ((with_reducible refine Below.sc ?_ ?_); · first | omega | (simp; done) | (simp; omega)) | ((with_reducible refine Below.thru hb ?_ ?_); · first | omega | (simp; done) | (simp; omega))))
        have c0 := C0.p2n
        have c2 := C2.p2n
        have lC0 := C0.lt
        have lC1 := C1.lt
        have lC2 := C2.lt
        have sw2 := kw2.size
        clear hb B0 B1 B2 kwr HD
        have e1 := tmod_nat j c n
        have e2 := tmod_nat j d n
        have m1 : j * c ≤ 60 * 60 := Nat.mul_le_mul (by omega) (by omega)
        have m2 : j * d ≤ 60 * 60 := Nat.mul_le_mul (by omega) (by omega)
        have hw1 : IntKind.i64.wrap ((j : Int) * (c : Int)) = (j : Int) * (c : Int) := by rw [IntKind.wrap_i64, ← Int.natCast_mul]; omega
        have hw2 : IntKind.i64.wrap ((j : Int) * (d : Int)) = (j : Int) * (d : Int) := by rw [IntKind.wrap_i64, ← Int.natCast_mul]; omega
        have hn0 : ¬ n = 0 := by omega
        clear m1 m2
        have HX := Lib.hid (show nst n c d j b = if ltP (j * c % n, j * d % n) b then (j * c % n, j * d % n) else b from nst_unit hu)
        rw [HX.out] at HN
        clear HX
        generalize j * c % n = x at *
        generalize j * d % n = y at *
        obtain ⟨c00, c01⟩ := c0
        obtain ⟨c20, c21⟩ := c2
        go_wp2_with fail
        go_region_held3 (fun w' => w'.cell? ⟨w.heap.size, 0, none⟩ = some (.int .i64 (c : Int)) ∧ w'.cell? ⟨w.heap.size, 1, none⟩ = some (.int .i64 (d : Int))) (go_keep) (fail)
        refine forget (fun W_ => Below w.heap.size w W_ ∧ Blk W_ (w.heap.size) 98 (pcs (c, d)) ∧ Blk W_ (w.heap.size + 1) 98 (#[.int .i64 0, .int .i64 0]) ∧ Blk W_ (w.heap.size + 2) 98 (pcs b) ∧ Blk W_ (w2.heap.size) 98 (pcs (x, y))) ⟨(by repeat (first | (with_reducible exact Below.refl _ _) | (with_reducible assumption) | (with_reducible refine Below.drew ?_) | (with_reducible refine Below.drewN ?_) | ((with_reducible refine Below.al ?_ ?_); · first | omega | (simp; done) | (simp; omega)) | ((with_reducible refine Below.sc ?_ ?_); · first | omega | (simp; done) | (simp; omega)) | ((with_reducible refine Below.thru hb ?_ ?_); · first | omega | (simp; done) | (simp; omega)))), (by repeat (first | (with_reducible assumption) | ((with_reducible refine Blk.new ?_); · first | omega | (simp; done) | (simp; omega)) | (with_reducible apply Blk.set4) | (with_reducible apply Blk.set3) | (with_reducible apply Blk.set2) | ((with_reducible refine Blk.put ?_ ?_); · first | omega | (simp; omega)) | (with_reducible refine Blk.old ?_) | (with_reducible refine Blk.drew ?_) | (with_reducible refine Blk.drewN ?_) | ((with_reducible refine Blk.below hb ?_ ?_); · first | omega | (simp; done) | (simp; omega)))), (by repeat (first | (with_reducible assumption) | ((with_reducible refine Blk.new ?_); · first | omega | (simp; done) | (simp; omega)) | (with_reducible apply Blk.set4) | (with_reducible apply Blk.set3) | (with_reducible apply Blk.set2) | ((with_reducible refine Blk.put ?_ ?_); · first | omega | (simp; omega)) | (with_reducible refine Blk.old ?_) | (with_reducible refine Blk.drew ?_) | (with_reducible refine Blk.drewN ?_) | ((with_reducible refine Blk.below hb ?_ ?_); · first | omega | (simp; done) | (simp; omega)))), (by repeat (first | (with_reducible assumption) | ((with_reducible refine Blk.new ?_); · first | omega | (simp; done) | (simp; omega)) | (with_reducible apply Blk.set4) | (with_reducible apply Blk.set3) | (with_reducible apply Blk.set2) | ((with_reducible refine Blk.put ?_ ?_); · first | omega | (simp; omega)) | (with_reducible refine Blk.old ?_) | (with_reducible refine Blk.drew ?_) | (with_reducible refine Blk.drewN ?_) | ((with_reducible refine Blk.below hb ?_ ?_); · first | omega | (simp; done) | (simp; omega)))), (by repeat (first | (with_reducible assumption) | ((with_reducible refine Blk.new ?_); · first | omega | (simp; done) | (simp; omega)) | (with_reducible apply Blk.set4) | (with_reducible apply Blk.set3) | (with_reducible apply Blk.set2) | ((with_reducible refine Blk.put ?_ ?_); · first | omega | (simp; omega)) | (with_reducible refine Blk.old ?_) | (with_reducible refine Blk.drew ?_) | (with_reducible refine Blk.drewN ?_) | ((with_reducible refine Blk.below hb ?_ ?_); · first | omega | (simp; done) | (simp; omega))))⟩ ?_
        rintro w3 ⟨kw3, D0, D1, D2, D3⟩
        have sw3 := kw3.size
        have lD0 := D0.lt
        have lD1 := D1.lt
        have lD2 := D2.lt
        have lD3 := D3.lt
        obtain ⟨d20, d21⟩ := D2.later2
        obtain ⟨d30, d31⟩ := D3.later2
        have f20 := D2.free 0
        have f21 := D2.free 1
        have HC := Lib.hid (fun w' p1 p2 p3 p4 => compareP_any w2.heap.size (w.heap.size + 2) (x, y) b w' p1 p2 p3 p4)
        have hlt2 := cmpP_lt (x, y) b
        have hr := cmpP_bd (x, y) b
        generalize cmpP (x, y) b = r at *
        clear C0 C1 C2 kw2 c00 c01 c20 c21
        by_cases hl : ltP (x, y) b
        · have hr0 : r < 0 := hlt2.2 hl
          rw [if_pos hl] at HN
          clear hlt2 hl
          go_wp2_with fail
          refine wp_region_calm (by kernel_rfl) (by kernel_rfl) ?_
          repeat (go_big_quiet_step (first | (go_at_call 73; with_reducible exact Calls.calm_same ((HC.out _ (d30 _) (d31 _) (d20 _) (d21 _))))))
          refine wpQuiet_nil ?_
          rintro w4 ⟨⟨_, hb⟩, rfl⟩
          have E0 : Blk w4 (w.heap.size) 98 (pcs (c, d)) := (by repeat (first | (with_reducible assumption) | ((with_reducible refine Blk.new ?_); · first | omega | (simp; done) | (simp; omega)) | (with_reducible apply Blk.set4) | (with_reducible apply Blk.set3) | (with_reducible apply Blk.set2) | ((with_reducible refine Blk.put ?_ ?_); · first | omega | (simp; omega)) | (with_reducible refine Blk.old ?_) | (with_reducible refine Blk.drew ?_) | (with_reducible refine Blk.drewN ?_) | ((with_reducible refine Blk.below hb ?_ ?_); · first | omega | (simp; done) | (simp; omega))))
          have lE0 := E0.lt
          have E1 : Blk w4 (w.heap.size + 1) 98 (#[.int .i64 0, .int .i64 0]) := (by repeat (first | (with_reducible assumption) | ((with_reducible refine Blk.new ?_); · first | omega | (simp; done) | (simp; omega)) | (with_reducible apply Blk.set4) | (with_reducible apply Blk.set3) | (with_reducible apply Blk.set2) | ((with_reducible refine Blk.put ?_ ?_); · first | omega | (simp; omega)) | (with_reducible refine Blk.old ?_) | (with_reducible refine Blk.drew ?_) | (with_reducible refine Blk.drewN ?_) | ((with_reducible refine Blk.below hb ?_ ?_); · first | omega | (simp; done) | (simp; omega))))
          have lE1 := E1.lt
          have E2 : Blk w4 (w.heap.size + 2) 98 (pcs b) := (by repeat (first | (with_reducible assumption) | ((with_reducible refine Blk.new ?_); · first | omega | (simp; done) | (simp; omega)) | (with_reducible apply Blk.set4) | (with_reducible apply Blk.set3) | (with_reducible apply Blk.set2) | ((with_reducible refine Blk.put ?_ ?_); · first | omega | (simp; omega)) | (with_reducible refine Blk.old ?_) | (with_reducible refine Blk.drew ?_) | (with_reducible refine Blk.drewN ?_) | ((with_reducible refine Blk.below hb ?_ ?_); · first | omega | (simp; done) | (simp; omega))))
          have lE2 := E2.lt
          have E3 : Blk w4 (w2.heap.size) 98 (pcs (x, y)) := (by repeat (first | (with_reducible assumption) | ((with_reducible refine Blk.new ?_); · first | omega | (simp; done) | (simp; omega)) | (with_reducible apply Blk.set4) | (with_reducible apply Blk.set3) | (with_reducible apply Blk.set2) | ((with_reducible refine Blk.put ?_ ?_); · first | omega | (simp; omega)) | (with_reducible refine Blk.old ?_) | (with_reducible refine Blk.drew ?_) | (with_reducible refine Blk.drewN ?_) | ((with_reducible refine Blk.below hb ?_ ?_); · first | omega | (simp; done) | (simp; omega))))
          have lE3 := E3.lt
          have kw4 : Below w.heap.size w w4 := (by repeat (first | (with_reducible exact Below.refl _ _) | (with_reducible assumption) | (with_reducible refine Below.drew ?_) | (with_reducible refine Below.drewN ?_) | ((with_reducible refine Below.al ?_ ?_); · first | omega | (simp; done) | (simp; omega)) | ((with_reducible refine Below.sc ?_ ?_); · first | omega | (simp; done) | (simp; omega)) | ((with_reducible refine Below.thru hb ?_ ?_); · first | omega | (simp; done) | (simp; omega))))
          have sw4 := kw4.size
          clear hb
          obtain ⟨e30, e31⟩ := E3.p2n
          obtain ⟨e20, e21⟩ := E2.p2n
          have f0 := E2.free 0
          have f1 := E2.free 1
          clear D0 D1 D2 D3 d20 d21 d30 d31
          go_wp2
          go_roundw
          case rel => exact ⟨j + 1, by omega, by omega, by go_num, (by repeat (first | (with_reducible assumption) | ((with_reducible refine Blk.new ?_); · first | omega | (simp; done) | (simp; omega)) | (with_reducible apply Blk.set4) | (with_reducible apply Blk.set3) | (with_reducible apply Blk.set2) | ((with_reducible refine Blk.put ?_ ?_); · first | omega | (simp; omega)) | (with_reducible refine Blk.old ?_) | (with_reducible refine Blk.drew ?_) | (with_reducible refine Blk.drewN ?_) | ((with_reducible refine Blk.below hb ?_ ?_); · first | omega | (simp; done) | (simp; omega)))), (by repeat (first | (with_reducible assumption) | ((with_reducible refine Blk.new ?_); · first | omega | (simp; done) | (simp; omega)) | (with_reducible apply Blk.set4) | (with_reducible apply Blk.set3) | (with_reducible apply Blk.set2) | ((with_reducible refine Blk.put ?_ ?_); · first | omega | (simp; omega)) | (with_reducible refine Blk.old ?_) | (with_reducible refine Blk.drew ?_) | (with_reducible refine Blk.drewN ?_) | ((with_reducible refine Blk.below hb ?_ ?_); · first | omega | (simp; done) | (simp; omega)))), by rw [Nat.add_sub_cancel, HN.out]; exact (by repeat (first | (with_reducible assumption) | ((with_reducible refine Blk.new ?_); · first | omega | (simp; done) | (simp; omega)) | (with_reducible apply Blk.set4) | (with_reducible apply Blk.set3) | (with_reducible apply Blk.set2) | ((with_reducible refine Blk.put ?_ ?_); · first | omega | (simp; omega)) | (with_reducible refine Blk.old ?_) | (with_reducible refine Blk.drew ?_) | (with_reducible refine Blk.drewN ?_) | ((with_reducible refine Blk.below hb ?_ ?_); · first | omega | (simp; done) | (simp; omega)))), (by repeat (first | (with_reducible exact Below.refl _ _) | (with_reducible assumption) | (with_reducible refine Below.drew ?_) | (with_reducible refine Below.drewN ?_) | ((with_reducible refine Below.al ?_ ?_); · first | omega | (simp; done) | (simp; omega)) | ((with_reducible refine Below.sc ?_ ?_); · first | omega | (simp; done) | (simp; omega)) | ((with_reducible refine Below.thru hb ?_ ?_); · first | omega | (simp; done) | (simp; omega))))⟩
          case measure => simp [intOf]; omega
        · have hr0 : ¬ r < 0 := fun h => hl (hlt2.1 h)
          rw [if_neg hl] at HN
          clear hlt2 hl
          go_wp2_with fail
          refine wp_region_calm (by kernel_rfl) (by kernel_rfl) ?_
          repeat (go_big_quiet_step (first | (go_at_call 73; with_reducible exact Calls.calm_same ((HC.out _ (d30 _) (d31 _) (d20 _) (d21 _))))))
          refine wpQuiet_nil ?_
          rintro w4 ⟨⟨_, hb⟩, rfl⟩
          have E0 : Blk w4 (w.heap.size) 98 (pcs (c, d)) := (by repeat (first | (with_reducible assumption) | ((with_reducible refine Blk.new ?_); · first | omega | (simp; done) | (simp; omega)) | (with_reducible apply Blk.set4) | (with_reducible apply Blk.set3) | (with_reducible apply Blk.set2) | ((with_reducible refine Blk.put ?_ ?_); · first | omega | (simp; omega)) | (with_reducible refine Blk.old ?_) | (with_reducible refine Blk.drew ?_) | (with_reducible refine Blk.drewN ?_) | ((with_reducible refine Blk.below hb ?_ ?_); · first | omega | (simp; done) | (simp; omega))))
          have lE0 := E0.lt
          have E1 : Blk w4 (w.heap.size + 1) 98 (#[.int .i64 0, .int .i64 0]) := (by repeat (first | (with_reducible assumption) | ((with_reducible refine Blk.new ?_); · first | omega | (simp; done) | (simp; omega)) | (with_reducible apply Blk.set4) | (with_reducible apply Blk.set3) | (with_reducible apply Blk.set2) | ((with_reducible refine Blk.put ?_ ?_); · first | omega | (simp; omega)) | (with_reducible refine Blk.old ?_) | (with_reducible refine Blk.drew ?_) | (with_reducible refine Blk.drewN ?_) | ((with_reducible refine Blk.below hb ?_ ?_); · first | omega | (simp; done) | (simp; omega))))
          have lE1 := E1.lt
          have E2 : Blk w4 (w.heap.size + 2) 98 (pcs b) := (by repeat (first | (with_reducible assumption) | ((with_reducible refine Blk.new ?_); · first | omega | (simp; done) | (simp; omega)) | (with_reducible apply Blk.set4) | (with_reducible apply Blk.set3) | (with_reducible apply Blk.set2) | ((with_reducible refine Blk.put ?_ ?_); · first | omega | (simp; omega)) | (with_reducible refine Blk.old ?_) | (with_reducible refine Blk.drew ?_) | (with_reducible refine Blk.drewN ?_) | ((with_reducible refine Blk.below hb ?_ ?_); · first | omega | (simp; done) | (simp; omega))))
          have lE2 := E2.lt
          have E3 : Blk w4 (w2.heap.size) 98 (pcs (x, y)) := (by repeat (first | (with_reducible assumption) | ((with_reducible refine Blk.new ?_); · first | omega | (simp; done) | (simp; omega)) | (with_reducible apply Blk.set4) | (with_reducible apply Blk.set3) | (with_reducible apply Blk.set2) | ((with_reducible refine Blk.put ?_ ?_); · first | omega | (simp; omega)) | (with_reducible refine Blk.old ?_) | (with_reducible refine Blk.drew ?_) | (with_reducible refine Blk.drewN ?_) | ((with_reducible refine Blk.below hb ?_ ?_); · first | omega | (simp; done) | (simp; omega))))
          have lE3 := E3.lt
          have kw4 : Below w.heap.size w w4 := (by repeat (first | (with_reducible exact Below.refl _ _) | (with_reducible assumption) | (with_reducible refine Below.drew ?_) | (with_reducible refine Below.drewN ?_) | ((with_reducible refine Below.al ?_ ?_); · first | omega | (simp; done) | (simp; omega)) | ((with_reducible refine Below.sc ?_ ?_); · first | omega | (simp; done) | (simp; omega)) | ((with_reducible refine Below.thru hb ?_ ?_); · first | omega | (simp; done) | (simp; omega))))
          have sw4 := kw4.size
          clear hb
          obtain ⟨e30, e31⟩ := E3.p2n
          obtain ⟨e20, e21⟩ := E2.p2n
          have f0 := E2.free 0
          have f1 := E2.free 1
          clear D0 D1 D2 D3 d20 d21 d30 d31
          go_wp2
          go_roundw
          case rel => exact ⟨j + 1, by omega, by omega, by go_num, E0, E1, by rw [Nat.add_sub_cancel, HN.out]; exact E2, (by repeat (first | (with_reducible exact Below.refl _ _) | (with_reducible assumption) | (with_reducible refine Below.drew ?_) | (with_reducible refine Below.drewN ?_) | ((with_reducible refine Below.al ?_ ?_); · first | omega | (simp; done) | (simp; omega)) | ((with_reducible refine Below.sc ?_ ?_); · first | omega | (simp; done) | (simp; omega)) | ((with_reducible refine Below.thru hb ?_ ?_); · first | omega | (simp; done) | (simp; omega))))⟩
          case measure => simp [intOf]; omega
      · have hu1 : 1 < Int.gcd (j : Int) (n : Int) := hgu.2 hu
        have hle : Int.gcd (j : Int) (n : Int) ≤ 60 := by
          show Nat.gcd j n ≤ 60
          have := Nat.gcd_le_left n (show 0 < j by omega); omega
        have HE := Lib.hid (show nrm n c d j = b by rw [HN.out]; unfold nst; rw [if_neg (fun h => hu h.1)])
        have HD := Lib.hid (fun w' : World => divisor_any (j : Int) (n : Int) w' (by omega) (by omega) (by omega) (by omega))
        generalize Int.gcd (j : Int) (n : Int) = g at *
        clear hgu hu HN
        go_wp2_with fail
        refine (HD.out _).mono ?_
        rintro e w2 ⟨rfl, hb⟩
        have C0 : Blk w2 w.heap.size 98 (pcs (c, d)) := (by repeat (first | (with_reducible assumption) | ((with_reducible refine Blk.new ?_); · first | omega | (simp; done) | (simp; omega)) | (with_reducible apply Blk.set4) | (with_reducible apply Blk.set3) | (with_reducible apply Blk.set2) | ((with_reducible refine Blk.put ?_ ?_); · first | omega | (simp; omega)) | (with_reducible refine Blk.old ?_) | (with_reducible refine Blk.drew ?_) | (with_reducible refine Blk.drewN ?_) | ((with_reducible refine Blk.below hb ?_ ?_); · first | omega | (simp; done) | (simp; omega))))
        have C1 : Blk w2 (w.heap.size + 1) 98 (#[.int .i64 0, .int .i64 0]) := (by repeat (first | (with_reducible assumption) | ((with_reducible refine Blk.new ?_); · first | omega | (simp; done) | (simp; omega)) | (with_reducible apply Blk.set4) | (with_reducible apply Blk.set3) | (with_reducible apply Blk.set2) | ((with_reducible refine Blk.put ?_ ?_); · first | omega | (simp; omega)) | (with_reducible refine Blk.old ?_) | (with_reducible refine Blk.drew ?_) | (with_reducible refine Blk.drewN ?_) | ((with_reducible refine Blk.below hb ?_ ?_); · first | omega | (simp; done) | (simp; omega))))
        have C2 : Blk w2 (w.heap.size + 2) 98 (pcs b) := (by repeat (first | (with_reducible assumption) | ((with_reducible refine Blk.new ?_); · first | omega | (simp; done) | (simp; omega)) | (with_reducible apply Blk.set4) | (with_reducible apply Blk.set3) | (with_reducible apply Blk.set2) | ((with_reducible refine Blk.put ?_ ?_); · first | omega | (simp; omega)) | (with_reducible refine Blk.old ?_) | (with_reducible refine Blk.drew ?_) | (with_reducible refine Blk.drewN ?_) | ((with_reducible refine Blk.below hb ?_ ?_); · first | omega | (simp; done) | (simp; omega))))
        have kw2 : Below w.heap.size w w2 := (by repeat (first | (with_reducible exact Below.refl _ _) | (with_reducible assumption) | (with_reducible refine Below.drew ?_) | (with_reducible refine Below.drewN ?_) | ((with_reducible refine Below.al ?_ ?_); · first | omega | (simp; done) | (simp; omega)) | ((with_reducible refine Below.sc ?_ ?_); · first | omega | (simp; done) | (simp; omega)) | ((with_reducible refine Below.thru hb ?_ ?_); · first | omega | (simp; done) | (simp; omega))))
        clear hb B0 B1 B2 kwr HD
        go_wp2
        go_roundw
        case rel => exact ⟨j + 1, by omega, by omega, by go_num, C0, C1, by rw [Nat.add_sub_cancel, HE.out]; exact C2, kw2⟩
        case measure => simp [intOf]; omega
    · obtain ⟨b20, b21⟩ := B2.p2n
      obtain ⟨b10, b11⟩ := B1.p2
      have f1 := B1.free 0
      have f2 := B1.free 1
      have HE := Lib.hid (show nrmN n c d = b from hnr.out (by omega))
      go_wp2
      refine ret_at (v := .agg #[.int .i64 (b.1 : Int), .int .i64 (b.2 : Int)]) (fun w' => Blk w' (w.heap.size + 1) 98 (#[.int .i64 (b.1 : Int), .int .i64 (b.2 : Int)])) (by repeat (first | (with_reducible assumption) | ((with_reducible refine Blk.new ?_); · first | omega | (simp; done) | (simp; omega)) | (with_reducible apply Blk.set4) | (with_reducible apply Blk.set3) | (with_reducible apply Blk.set2) | ((with_reducible refine Blk.put ?_ ?_); · first | omega | (simp; omega)) | (with_reducible refine Blk.old ?_) | (with_reducible refine Blk.drew ?_) | (with_reducible refine Blk.drewN ?_) | ((with_reducible refine Blk.below hb ?_ ?_); · first | omega | (simp; done) | (simp; omega)))) (fun w' hB => by have q := hB.p2; simp [results, Try.results60, go_sem, q]) rfl ?_
      exact ⟨by rw [HE.out], (by repeat (first | (with_reducible exact Below.refl _ _) | (with_reducible assumption) | (with_reducible refine Below.drew ?_) | (with_reducible refine Below.drewN ?_) | ((with_reducible refine Below.al ?_ ?_); · first | omega | (simp; done) | (simp; omega)) | ((with_reducible refine Below.sc ?_ ?_); · first | omega | (simp; done) | (simp; omega)) | ((with_reducible refine Below.thru hb ?_ ?_); · first | omega | (simp; done) | (simp; omega))))⟩

end Go.Proofs.Ytjpkopnkfpgahaa

/- Normal pairs: the reference's walk. -/
namespace Go.Proofs.Ytjpkopnkfpgahaa
open Go.RowKit
set_option linter.unusedSimpArgs false

def isPr (n c d : Nat) : Bool := decide (Nat.gcd (Nat.gcd c d) n = 1)
/-- What l06Normal gives. -/
def nrmV (n c d : Nat) : Int × Int × Bool := if isPr n c d = true then (((nrmN n c d).1 : Int), ((nrmN n c d).2 : Int), true) else (0, 0, false)
theorem gcd_le60 {n c d : Nat} (hn : 1 ≤ n ∧ n ≤ 60) (hc : c < n) (hd : d < n) : Nat.gcd c d ≤ 60 := by
  by_cases h : c = 0
  · subst h; rw [Nat.gcd_zero_left]; omega
  · have := Nat.gcd_le_left d (show 0 < c by omega); omega

end Go.Proofs.Ytjpkopnkfpgahaa
