/- The kind of a matrix: both walks. -/
import Derived.Test.YtfjmbpbilfhfbaaGreatCyw
namespace Go.Proofs.YtfjmbpbilfhfbaaGreat
open Go.RowKit
set_option linter.unusedSimpArgs false

/-- Go's == at arrays of int64. -/
theorem all_range_ints : ∀ (xs ys : List Int), xs.length = ys.length → ((List.range xs.length).all fun i => xs.getD i 0 == ys.getD i 0) = (xs == ys)
  | [], [], _ => rfl
  | x :: xs, y :: ys, h => by
    have ih := all_range_ints xs ys (by simpa using h)
    rw [List.length_cons, List.range_succ_eq_map, List.all_cons, List.all_map]
    have : ((fun i => (x :: xs).getD i 0 == (y :: ys).getD i 0) ∘ Nat.succ) = fun i => xs.getD i 0 == ys.getD i 0 := by funext i; simp
    rw [this, ih]
    simp [List.cons_beq_cons]
  | [], _ :: _, h => by simp at h
  | _ :: _, [], h => by simp at h
theorem run_equalIn_ints {P : Program} (w : World) (d : Nat) (t e : TypeId) (n : Nat) (ht : P.underlying t = some (.array n e)) (he : P.underlying e = some (.int .i64)) (hsz : ∀ w, (sizeOf e).run P w = .ok 1 w)
    (xs ys : List Int) (hx : xs.length = n) (hy : ys.length = n) :
    (Op.equalIn (d + 2) t (.agg (xs.map (Value.int .i64)).toArray) (.agg (ys.map (Value.int .i64)).toArray)).run P w = .ok (xs == ys) w := by
  rw [← all_range_ints xs ys (hx.trans hy.symm), hx, List.range_eq_range', Op.equalIn]
  simp only [Sem.run_bind, run_underlying ht, Result.andThen_ok, hsz, Std.Legacy.Range.forIn_eq_forIn_range', Std.Legacy.Range.size, Nat.sub_zero, Nat.add_sub_cancel, Nat.div_one]
  have hl : ∀ i ∈ List.range' 0 n 1, i < n := fun i hi => by simpa using (List.mem_range'_1.1 hi).2
  generalize List.range' 0 n 1 = l at hl ⊢
  induction l with
  | nil => simp
  | cons i l ih =>
    have hi : i < n := hl i (by simp)
    have px : (part e (xs.map (Value.int .i64)).toArray (i * 1)).run P w = .ok (.int .i64 (xs.getD i 0)) w := by
      simp [part, isAgg, run_underlying he, List.getD, List.getElem?_eq_getElem (show i < xs.length by omega)]
    have py : (part e (ys.map (Value.int .i64)).toArray (i * 1)).run P w = .ok (.int .i64 (ys.getD i 0)) w := by
      simp [part, isAgg, run_underlying he, List.getD, List.getElem?_eq_getElem (show i < ys.length by omega)]
    have pe : (Op.equalIn (d + 1) e (.int .i64 (xs.getD i 0)) (.int .i64 (ys.getD i 0))).run P w = .ok (xs.getD i 0 == ys.getD i 0) w := run_equalIn_int w d e .i64 .i64 _ _ he
    simp only [List.forIn_cons, Sem.run_bind, px, py, pe, Result.andThen_ok, List.all_cons]
    cases hb : (xs.getD i 0 == ys.getD i 0)
    · simp
    · simp only [Bool.not_true, Bool.false_eq_true, if_false, Sem.run_pure, Result.andThen_ok, Bool.true_and]
      exact ih fun j hj => hl j (by simp [hj])

theorem run_equalInM (m n : M) (w : World) : (Op.equalIn 10000 25 (mv m) (mv n)).run Tryz.prog w = .ok (decide (m = n)) w := by
  have e := run_equalIn_ints w 9998 25 2 4 Tryz.underlying25 Tryz.underlying2 Tryz.sizeOf2 [m.a, m.b, m.c, m.d] [n.a, n.b, n.c, n.d] rfl rfl
  rw [show ([m.a, m.b, m.c, m.d] == [n.a, n.b, n.c, n.d]) = decide (m = n) by
    rw [Bool.eq_iff_iff]
    obtain ⟨a, b, c, d⟩ := m
    obtain ⟨a', b', c', d'⟩ := n
    simp] at e
  exact e
/-- The kind. -/
def kindV (m : M) : Int := if m.b = 0 ∧ m.c = 0 then 0 else if m.tr.natAbs < 2 then 1 else if m.tr.natAbs = 2 then 2 else 3
theorem ok_unit {m : M} (h : m.ok = true) : (m = M.one ∨ m = M.one.neg) ↔ (m.b = 0 ∧ m.c = 0) := by
  have hd := M.ok_det h
  obtain ⟨a, b, c, d⟩ := m
  unfold M.det at hd
  simp only at hd ⊢
  constructor
  · rintro (h | h)
    · simp only [M.one, M.mk.injEq] at h; omega
    · simp only [M.one, M.neg, M.mk.injEq] at h; omega
  · rintro ⟨rfl, rfl⟩
    rw [Int.mul_zero, Int.sub_zero] at hd
    have h5 : a.natAbs * d.natAbs = 1 := by rw [← Int.natAbs_mul, hd]; rfl
    have h6 := Nat.eq_one_of_mul_eq_one_right h5
    have h7 : a = 1 ∨ a = -1 := by omega
    rcases h7 with rfl | rfl
    · obtain rfl : d = 1 := by omega
      exact .inl rfl
    · obtain rfl : d = -1 := by omega
      exact .inr rfl

set_option maxHeartbeats 400000 in
theorem negative_any (m : M) (w : World) (h : m.ents = true) :
    Calls Tryz.prog 46 #[mv m] w fun e w' => e = .returned (mv m.neg) ∧ Below w.heap.size w w' := by
  have k := M.ents_bd h
  clear h
  obtain ⟨k1, k2, k3, k4⟩ := k
  go_enter Tryz.func46, Tryz.ntmps46
  go_wp2
  refine bodyPost_ret (v := mv m.neg) (by simp [results, Tryz.results46, go_sem]) rfl ?_
  exact ⟨rfl, (by repeat (first | (with_reducible exact Below.refl _ _) | (with_reducible assumption) | (with_reducible refine Below.drew ?_) | (with_reducible refine Below.drewN ?_) | ((with_reducible refine Below.al ?_ ?_); · first | omega | (simp; done) | (simp; omega)) | ((with_reducible refine Below.sc ?_ ?_); · first | omega | (simp; done) | (simp; omega)) | ((with_reducible refine Below.thru hb ?_ ?_); · first | omega | (simp; done) | (simp; omega))))⟩
set_option maxHeartbeats 400000 in
theorem l01Negative_any (m : M) (w : World) (h : m.ents = true) :
    Calls Tryz.prog 53 #[mv m] w fun e w' => e = .returned (mv m.neg) ∧ Below w.heap.size w w' := by
  have k := M.ents_bd h
  clear h
  obtain ⟨k1, k2, k3, k4⟩ := k
  go_enter Tryz.func53, Tryz.ntmps53
  go_wp2
  refine bodyPost_ret (v := mv m.neg) (by simp [results, Tryz.results53, go_sem]) rfl ?_
  exact ⟨rfl, (by repeat (first | (with_reducible exact Below.refl _ _) | (with_reducible assumption) | (with_reducible refine Below.drew ?_) | (with_reducible refine Below.drewN ?_) | ((with_reducible refine Below.al ?_ ?_); · first | omega | (simp; done) | (simp; omega)) | ((with_reducible refine Below.sc ?_ ?_); · first | omega | (simp; done) | (simp; omega)) | ((with_reducible refine Below.thru hb ?_ ?_); · first | omega | (simp; done) | (simp; omega))))⟩

theorem kindV_0 {m : M} (h : m.b = 0 ∧ m.c = 0) : kindV m = 0 := by unfold kindV; rw [if_pos h]
theorem kindV_1 {m : M} (h : ¬ (m.b = 0 ∧ m.c = 0)) (h1 : m.tr.natAbs < 2) : kindV m = 1 := by unfold kindV; rw [if_neg h, if_pos h1]
theorem kindV_2 {m : M} (h : ¬ (m.b = 0 ∧ m.c = 0)) (h1 : m.tr.natAbs = 2) : kindV m = 2 := by unfold kindV; rw [if_neg h, if_neg (by omega), if_pos h1]
theorem kindV_3 {m : M} (h : ¬ (m.b = 0 ∧ m.c = 0)) (h1 : 2 < m.tr.natAbs) : kindV m = 3 := by unfold kindV; rw [if_neg h, if_neg (by omega), if_neg (by omega)]
/-- The kind by tests. -/
structure KindR (m : M) (r : Int) : Prop where
  k0 : m.b = 0 ∧ m.c = 0 → r = 0
  k1 : ¬ (m.b = 0 ∧ m.c = 0) → m.tr.natAbs < 2 → r = 1
  k2 : ¬ (m.b = 0 ∧ m.c = 0) → m.tr.natAbs = 2 → r = 2
  k3 : ¬ (m.b = 0 ∧ m.c = 0) → 2 < m.tr.natAbs → r = 3
theorem kindR (m : M) : KindR m (kindV m) := ⟨kindV_0, kindV_1, kindV_2, kindV_3⟩

set_option maxRecDepth 8000 in
set_option maxHeartbeats 2000000 in
theorem l01Kind_any (m : M) (w : World) (h : m.ok = true) :
    Calls Tryz.prog 30 #[mv m] w fun e w' => e = .returned (.int .i64 (kindV m)) ∧ Below w.heap.size w w' := by
  obtain ⟨⟨h1, h2⟩, h3, h4⟩ := M.ents_true (M.ok_ents h)
  have hb := M.ents_bd (M.ok_ents h)
  have HK := Lib.hid (kindR m)
  have htr : -2000000000 ≤ m.tr ∧ m.tr ≤ 2000000000 := by unfold M.tr; omega
  generalize kindV m = kv at *
  clear h
  go_enter Tryz.func30, Tryz.ntmps30
  go_wp2_with fail
  have B0 : Blk (w.alloc (.cells (mcs m) 25)) w.heap.size 25 (mcs m) := Blk.new rfl
  have C0 := B0.later4
  have k0 : Below w.heap.size w (w.alloc (.cells (mcs m) 25)) := (by repeat (first | (with_reducible exact Below.refl _ _) | (with_reducible assumption) | (with_reducible refine Below.drew ?_) | (with_reducible refine Below.drewN ?_) | ((with_reducible refine Below.al ?_ ?_); · first | omega | (simp; done) | (simp; omega)) | ((with_reducible refine Below.sc ?_ ?_); · first | omega | (simp; done) | (simp; omega)) | ((with_reducible refine Below.thru hb ?_ ?_); · first | omega | (simp; done) | (simp; omega))))
  have n1 : IntKind.i64.wrap (-m.tr) = -m.tr := by rw [IntKind.wrap_i64]; omega
  have HTR : Hid (m.tr.natAbs = (max m.tr (-m.tr)).toNat) := Lib.hid (by omega)
  refine wp_region_calm (by kernel_rfl) (by kernel_rfl) ?_
  repeat (go_big_quiet_step (first | (go_at_call 40; with_reducible exact Calls.calm ((l01Trace_any m _ h1 h4)))))
  refine wpQuiet_nil ?_
  rintro w1 ⟨⟨_, hb⟩, rfl⟩
  have B1 : Blk w1 (w.heap.size) 25 (mcs m) := (by repeat (first | (with_reducible assumption) | ((with_reducible refine Blk.new ?_); · first | omega | (simp; done) | (simp; omega)) | (with_reducible apply Blk.set4) | (with_reducible apply Blk.set3) | (with_reducible apply Blk.set2) | ((with_reducible refine Blk.put ?_ ?_); · first | omega | (simp; omega)) | (with_reducible refine Blk.old ?_) | (with_reducible refine Blk.drew ?_) | (with_reducible refine Blk.drewN ?_) | ((with_reducible refine Blk.below hb ?_ ?_); · first | omega | (simp; done) | (simp; omega))))
  have lB1 := B1.lt
  have k1 : Below w.heap.size w w1 := (by repeat (first | (with_reducible exact Below.refl _ _) | (with_reducible assumption) | (with_reducible refine Below.drew ?_) | (with_reducible refine Below.drewN ?_) | ((with_reducible refine Below.al ?_ ?_); · first | omega | (simp; done) | (simp; omega)) | ((with_reducible refine Below.sc ?_ ?_); · first | omega | (simp; done) | (simp; omega)) | ((with_reducible refine Below.thru hb ?_ ?_); · first | omega | (simp; done) | (simp; omega))))
  have kw1 : Below w.heap.size w w1 := (by repeat (first | (with_reducible exact Below.refl _ _) | (with_reducible assumption) | (with_reducible refine Below.drew ?_) | (with_reducible refine Below.drewN ?_) | ((with_reducible refine Below.al ?_ ?_); · first | omega | (simp; done) | (simp; omega)) | ((with_reducible refine Below.sc ?_ ?_); · first | omega | (simp; done) | (simp; omega)) | ((with_reducible refine Below.thru hb ?_ ?_); · first | omega | (simp; done) | (simp; omega))))
  have sw1 := kw1.size
  clear hb
  have hif : (if m.tr < -m.tr then -m.tr else m.tr) = (m.tr.natAbs : Int) := by split <;> omega
  rw [hif]
  clear hif HTR n1 C0 B0 k0
  have q1 := B1.m
  obtain ⟨A, hA⟩ : ∃ A, m.tr.natAbs = A := ⟨_, rfl⟩
  rw [hA]
  replace hA := Lib.hid hA
  by_cases hb0 : m.b = 0
  · by_cases hc0 : m.c = 0
    · have HF := Lib.hid (HK.out.k0 ⟨hb0, hc0⟩)
      rw [hb0, hc0] at q1
      clear hb0 hc0
      go_wp2
      go_ret
      exact ⟨ret_int HF.out.symm, k1⟩
    · have hn : ¬ (m.b = 0 ∧ m.c = 0) := fun e => hc0 e.2
      have HF1 := Lib.hid (HK.out.k1 hn)
      have HF2 := Lib.hid (HK.out.k2 hn)
      have HF3 := Lib.hid (HK.out.k3 hn)
      rw [hb0] at q1
      clear hn hb0
      by_cases t1 : A < 2
      · have t1' : (A : Int) < 2 := by omega
        have HF := Lib.hid (HF1.out (by rw [hA.out]; exact t1))
        go_wp2
        go_ret
        exact ⟨ret_int HF.out.symm, k1⟩
      · have t1' : ¬ (A : Int) < 2 := by omega
        by_cases t2 : A = 2
        · have t2' : (A : Int) = 2 := by omega
          have HF := Lib.hid (HF2.out (by rw [hA.out]; exact t2))
          clear t2
          go_wp2
          go_ret
          exact ⟨ret_int HF.out.symm, k1⟩
        · have t2' : ¬ (A : Int) = 2 := by omega
          have HF := Lib.hid (HF3.out (by rw [hA.out]; omega))
          go_wp2
          go_ret
          exact ⟨ret_int HF.out.symm, k1⟩
  · have hn : ¬ (m.b = 0 ∧ m.c = 0) := fun e => hb0 e.1
    have HF1 := Lib.hid (HK.out.k1 hn)
    have HF2 := Lib.hid (HK.out.k2 hn)
    have HF3 := Lib.hid (HK.out.k3 hn)
    clear hn
    by_cases t1 : A < 2
    · have t1' : (A : Int) < 2 := by omega
      have HF := Lib.hid (HF1.out (by rw [hA.out]; exact t1))
      go_wp2
      go_ret
      exact ⟨ret_int HF.out.symm, k1⟩
    · have t1' : ¬ (A : Int) < 2 := by omega
      by_cases t2 : A = 2
      · have t2' : (A : Int) = 2 := by omega
        have HF := Lib.hid (HF2.out (by rw [hA.out]; exact t2))
        clear t2
        go_wp2
        go_ret
        exact ⟨ret_int HF.out.symm, k1⟩
      · have t2' : ¬ (A : Int) = 2 := by omega
        have HF := Lib.hid (HF3.out (by rw [hA.out]; omega))
        go_wp2
        go_ret
        exact ⟨ret_int HF.out.symm, k1⟩

set_option maxRecDepth 8000 in
set_option maxHeartbeats 2000000 in
theorem kind_any (m : M) (w : World) (h : m.ok = true) :
    Calls Tryz.prog 27 #[mv m] w fun e w' => e = .returned (.int .i64 (kindV m)) ∧ Below w.heap.size w w' := by
  obtain ⟨⟨h1, h2⟩, h3, h4⟩ := M.ents_true (M.ok_ents h)
  have hb := M.ents_bd (M.ok_ents h)
  have HK := Lib.hid (kindR m)
  have HU := Lib.hid (ok_unit h)
  have htr : -2000000000 ≤ m.tr ∧ m.tr ≤ 2000000000 := by unfold M.tr; omega
  generalize kindV m = kv at *
  clear h
  go_enter Tryz.func27, Tryz.ntmps27
  go_wp2_with fail
  refine (trace_any m _ h1 h4).mono ?_
  rintro e w1 ⟨rfl, hb1⟩
  have B1 : Blk w1 w.heap.size 25 (mcs m) := Blk.below hb1 (by simp) (Blk.new rfl)
  have k1 : Below w.heap.size w w1 := Below.thru hb1 (by simp) (Below.al (Nat.le_refl _) (Below.refl _ _))
  clear hb1
  go_wp2_with fail
  refine (size_any m.tr _ (by omega) (by omega)).mono ?_
  rintro e w2 ⟨rfl, rfl⟩
  have q1 := B1.m
  obtain ⟨A, hA⟩ : ∃ A, m.tr.natAbs = A := ⟨_, rfl⟩
  rw [hA]
  replace hA := Lib.hid hA
  have hE1 : ∀ w' : World, (Op.equalIn 10000 25 (.agg #[.int .i64 m.a, .int .i64 m.b, .int .i64 m.c, .int .i64 m.d]) (.agg #[.int .i64 1, .int .i64 0, .int .i64 0, .int .i64 1])).run Tryz.prog w' = .ok (decide (m = M.one)) w' := fun w' => run_equalInM m M.one w'
  have hE2 : ∀ w' : World, (Op.equalIn 10000 25 (.agg #[.int .i64 m.a, .int .i64 m.b, .int .i64 m.c, .int .i64 m.d]) (.agg #[.int .i64 (-1), .int .i64 0, .int .i64 0, .int .i64 (-1)])).run Tryz.prog w' = .ok (decide (m = M.one.neg)) w' := fun w' => run_equalInM m M.one.neg w'
  have C1 := B1.later4
  have s1 := k1.size
  have HNG := Lib.hid (fun W : World => negative_any M.one W (by decide))
  by_cases h1 : m = M.one
  · have HF := Lib.hid (HK.out.k0 (HU.out.1 (.inl h1)))
    simp only [decide_eq_true h1] at hE1
    clear hE2 h1
    go_wp2_with fail
    refine wp_region_calm (by kernel_rfl) (by kernel_rfl) ?_
    repeat (go_big_quiet_step (first | (go_at_call 45; with_reducible exact Calls.calm ((identity_any _)))))
    refine wpQuiet_nil ?_
    rintro w2 ⟨⟨_, hb⟩, rfl⟩
    have k2 : Below w.heap.size w w2 := (by repeat (first | (with_reducible exact Below.refl _ _) | (with_reducible assumption) | (with_reducible refine Below.drew ?_) | (with_reducible refine Below.drewN ?_) | ((with_reducible refine Below.al ?_ ?_); · first | omega | (simp; done) | (simp; omega)) | ((with_reducible refine Below.sc ?_ ?_); · first | omega | (simp; done) | (simp; omega)) | ((with_reducible refine Below.thru hb ?_ ?_); · first | omega | (simp; done) | (simp; omega))))
    have kw2 : Below w.heap.size w w2 := (by repeat (first | (with_reducible exact Below.refl _ _) | (with_reducible assumption) | (with_reducible refine Below.drew ?_) | (with_reducible refine Below.drewN ?_) | ((with_reducible refine Below.al ?_ ?_); · first | omega | (simp; done) | (simp; omega)) | ((with_reducible refine Below.sc ?_ ?_); · first | omega | (simp; done) | (simp; omega)) | ((with_reducible refine Below.thru hb ?_ ?_); · first | omega | (simp; done) | (simp; omega))))
    have sw2 := kw2.size
    clear hb
    go_wp2
    go_ret
    exact ⟨ret_int HF.out.symm, k2⟩
  · simp only [decide_eq_false h1] at hE1
    by_cases h2 : m = M.one.neg
    · have HF := Lib.hid (HK.out.k0 (HU.out.1 (.inr h2)))
      simp only [decide_eq_true h2] at hE2
      clear h1 h2
      go_wp2_with fail
      refine wp_region_calm (by kernel_rfl) (by kernel_rfl) ?_
      repeat (go_big_quiet_step (first | (go_at_call 45; with_reducible exact Calls.calm ((identity_any _))) | (go_at_call 46; with_reducible exact Calls.calm ((HNG.out _))) | (go_at_call 45; with_reducible exact Calls.calm ((identity_any _)))))
      refine wpQuiet_nil ?_
      rintro w2 ⟨⟨_, hb⟩, rfl⟩
      have k2 : Below w.heap.size w w2 := (by repeat (first | (with_reducible exact Below.refl _ _) | (with_reducible assumption) | (with_reducible refine Below.drew ?_) | (with_reducible refine Below.drewN ?_) | ((with_reducible refine Below.al ?_ ?_); · first | omega | (simp; done) | (simp; omega)) | ((with_reducible refine Below.sc ?_ ?_); · first | omega | (simp; done) | (simp; omega)) | ((with_reducible refine Below.thru hb ?_ ?_); · first | omega | (simp; done) | (simp; omega))))
      have kw2 : Below w.heap.size w w2 := (by repeat (first | (with_reducible exact Below.refl _ _) | (with_reducible assumption) | (with_reducible refine Below.drew ?_) | (with_reducible refine Below.drewN ?_) | ((with_reducible refine Below.al ?_ ?_); · first | omega | (simp; done) | (simp; omega)) | ((with_reducible refine Below.sc ?_ ?_); · first | omega | (simp; done) | (simp; omega)) | ((with_reducible refine Below.thru hb ?_ ?_); · first | omega | (simp; done) | (simp; omega))))
      have sw2 := kw2.size
      clear hb
      go_wp2
      go_ret
      exact ⟨ret_int HF.out.symm, k2⟩
    · simp only [decide_eq_false h2] at hE2
      have hn : ¬ (m.b = 0 ∧ m.c = 0) := fun e => by
        rcases HU.out.2 e with h | h
        · exact h1 h
        · exact h2 h
      clear h1 h2
      go_wp2_with fail
      refine wp_region_calm (by kernel_rfl) (by kernel_rfl) ?_
      repeat (go_big_quiet_step (first | (go_at_call 45; with_reducible exact Calls.calm ((identity_any _))) | (go_at_call 46; with_reducible exact Calls.calm ((HNG.out _))) | (go_at_call 45; with_reducible exact Calls.calm ((identity_any _)))))
      refine wpQuiet_nil ?_
      rintro w2 ⟨⟨_, hb⟩, rfl⟩
      have k2 : Below w.heap.size w w2 := (by repeat (first | (with_reducible exact Below.refl _ _) | (with_reducible assumption) | (with_reducible refine Below.drew ?_) | (with_reducible refine Below.drewN ?_) | ((with_reducible refine Below.al ?_ ?_); · first | omega | (simp; done) | (simp; omega)) | ((with_reducible refine Below.sc ?_ ?_); · first | omega | (simp; done) | (simp; omega)) | ((with_reducible refine Below.thru hb ?_ ?_); · first | omega | (simp; done) | (simp; omega))))
      have kw2 : Below w.heap.size w w2 := (by repeat (first | (with_reducible exact Below.refl _ _) | (with_reducible assumption) | (with_reducible refine Below.drew ?_) | (with_reducible refine Below.drewN ?_) | ((with_reducible refine Below.al ?_ ?_); · first | omega | (simp; done) | (simp; omega)) | ((with_reducible refine Below.sc ?_ ?_); · first | omega | (simp; done) | (simp; omega)) | ((with_reducible refine Below.thru hb ?_ ?_); · first | omega | (simp; done) | (simp; omega))))
      have sw2 := kw2.size
      clear hb
      by_cases t1 : A < 2
      · have t1' : (A : Int) < 2 := by omega
        have HF := Lib.hid (HK.out.k1 hn (by rw [hA.out]; exact t1))
        go_wp2
        go_ret
        exact ⟨ret_int HF.out.symm, k2⟩
      · have t1' : ¬ (A : Int) < 2 := by omega
        by_cases t2 : A = 2
        · have t2' : (A : Int) = 2 := by omega
          have HF := Lib.hid (HK.out.k2 hn (by rw [hA.out]; exact t2))
          clear t2
          go_wp2
          go_ret
          exact ⟨ret_int HF.out.symm, k2⟩
        · have t2' : ¬ (A : Int) = 2 := by omega
          have HF := Lib.hid (HK.out.k3 hn (by rw [hA.out]; omega))
          go_wp2
          go_ret
          exact ⟨ret_int HF.out.symm, k2⟩

end Go.Proofs.YtfjmbpbilfhfbaaGreat
