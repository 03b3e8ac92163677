import Derived.Test.YtjpkopnkfpgahaaQ4
/- Actions: both tests. -/
namespace Go.Proofs.Ytjpkopnkfpgahaa
open Go.RowKit

/-- Three times T and S, and twice S, lead a point to itself. -/
def goodAt (S T : List Int) (i : Nat) : Prop := fn S (fn T (fn S (fn T (fn S (fn T i))))) = i ∧ fn S (fn S i) = i
instance (S T : List Int) (i : Nat) : Decidable (goodAt S T i) := by unfold goodAt; infer_instance
/-- Is it an action? -/
def isAP (S T : List Int) (n : Nat) : Prop := (1 ≤ n ∧ n ≤ 72) ∧ permB S n ∧ permB T n ∧ (∀ i, i < n → goodAt S T i) ∧ (metL (fn S) (fn T) 0 n).length = n
instance (S T : List Int) (n : Nat) : Decidable (isAP S T n) := by unfold isAP; infer_instance
def isA (S T : List Int) : Bool := decide (isAP S T S.length)
theorem isA_no {S T : List Int} (h : ¬ isAP S T S.length) : isA S T = false := decide_eq_false h
theorem isA_spec {S T : List Int} (h : isA S T = true) : isAP S T S.length := of_decide_eq_true h

theorem isPermutation_b (v : Value) (xs : List Int) (n : Nat) (b : Bool) (w : World) (hb : decide (permB xs n) = b) (h : SlIn w .i64 v xs) (hl : xs.length ≤ 1048576) (hn : n ≤ 1048576) :
    Calls Try.prog 63 #[v, .int .i64 (n : Int)] w fun e w' => e = .returned (.bool b) ∧ Below w.heap.size w w' := by
  subst hb; exact isPermutation_any v xs n w h hl hn
theorem perm_cells {w w' : World} {S : List Int} {n : Nat} {sa : Addr} (h : ∀ a, a < n → w.cell? (sa.add a) = some (.int .i64 (fn S a : Int))) (hb : Below w.heap.size w w') :
    ∀ a, a < n → w'.cell? (sa.add a) = some (.int .i64 (fn S a : Int)) := fun a ha => by
  have e := h a ha
  rw [hb.cell (block_lt_of_cell e :)]
  exact e
theorem nat_ne {a b : Nat} (h : ((a : Int) != (b : Int)) = true) : ¬ a = b := by
  intro e; subst e; simp at h
theorem nat_eq {a b : Nat} (h : ((a : Int) != (b : Int)) = false) : a = b := by
  have : (a : Int) = (b : Int) := by simpa using h
  omega

set_option maxHeartbeats 2000000 in
theorem IsAction_any (s t : Value) (S T : List Int) (w : World) (h : SlIn w .i64 s S ∧ SlIn w .i64 t T) (hl : S.length ≤ 1048576 ∧ T.length ≤ 1048576) :
    Calls Try.prog 37 #[.agg #[s, t]] w fun e w' => e = .returned (.bool (isA S T)) ∧ Below w.heap.size w w' := by
  obtain ⟨n, hn⟩ : ∃ n, S.length = n := ⟨_, rfl⟩
  by_cases h0 : 1 ≤ n
  rotate_left
  · have HF := Lib.hid (isA_no (S := S) (T := T) (fun hp => by have := hp.1; omega))
    obtain ⟨ao, c, rfl, _⟩ := h.1.form
    rw [hn] at *
    go_enter Try.func37, Try.ntmps37
    go_wp2
    go_ret
    exact ⟨ret_bool HF.out.symm, (by repeat (first | (with_reducible exact Below.refl _ _) | (with_reducible assumption) | (with_reducible refine Below.drew ?_) | (with_reducible refine Below.drewN ?_) | ((with_reducible refine Below.al ?_ ?_); · first | omega | (simp; done) | (simp; omega)) | ((with_reducible refine Below.sc ?_ ?_); · first | omega | (simp; done) | (simp; omega)) | ((with_reducible refine Below.thru hb ?_ ?_); · first | omega | (simp; done) | (simp; omega))))⟩
  by_cases h72 : n ≤ 72
  rotate_left
  · have HF := Lib.hid (isA_no (S := S) (T := T) (fun hp => by have := hp.1; omega))
    obtain ⟨ao, c, rfl, _⟩ := h.1.form
    rw [hn] at *
    go_enter Try.func37, Try.ntmps37
    go_wp2
    go_ret
    exact ⟨ret_bool HF.out.symm, (by repeat (first | (with_reducible exact Below.refl _ _) | (with_reducible assumption) | (with_reducible refine Below.drew ?_) | (with_reducible refine Below.drewN ?_) | ((with_reducible refine Below.al ?_ ?_); · first | omega | (simp; done) | (simp; omega)) | ((with_reducible refine Below.sc ?_ ?_); · first | omega | (simp; done) | (simp; omega)) | ((with_reducible refine Below.thru hb ?_ ?_); · first | omega | (simp; done) | (simp; omega))))⟩
  have HI := Lib.hid h
  cases hS : decide (permB S n) with
  | false =>
    have HF := Lib.hid (isA_no (S := S) (T := T) (fun hp => of_decide_eq_false hS (hn ▸ hp.2.1)))
    obtain ⟨ao, c, rfl, _⟩ := h.1.form
    clear h
    rw [hn] at *
    go_enter Try.func37, Try.ntmps37
    go_wp2_with fail
    refine (isPermutation_b _ S n false _ hS (HI.out.1.below (by repeat (first | (with_reducible exact Below.refl _ _) | (with_reducible assumption) | (with_reducible refine Below.drew ?_) | (with_reducible refine Below.drewN ?_) | ((with_reducible refine Below.al ?_ ?_); · first | omega | (simp; done) | (simp; omega)) | ((with_reducible refine Below.sc ?_ ?_); · first | omega | (simp; done) | (simp; omega)) | ((with_reducible refine Below.thru hb ?_ ?_); · first | omega | (simp; done) | (simp; omega))))) (by omega) (by omega)).mono ?_
    rintro e w1 ⟨rfl, hb⟩
    have kw1 : Below w.heap.size w w1 := (by repeat (first | (with_reducible exact Below.refl _ _) | (with_reducible assumption) | (with_reducible refine Below.drew ?_) | (with_reducible refine Below.drewN ?_) | ((with_reducible refine Below.al ?_ ?_); · first | omega | (simp; done) | (simp; omega)) | ((with_reducible refine Below.sc ?_ ?_); · first | omega | (simp; done) | (simp; omega)) | ((with_reducible refine Below.thru hb ?_ ?_); · first | omega | (simp; done) | (simp; omega))))
    have sw1 := kw1.size
    clear hb
    go_wp2
    go_ret
    exact ⟨ret_bool HF.out.symm, kw1⟩
  | true =>
    have HPS := Lib.hid (of_decide_eq_true hS)
    obtain ⟨sa, sc, rfl, hA⟩ := perm_open h.1 HPS.out (by omega)
    cases hT : decide (permB T n) with
    | false =>
      have HF := Lib.hid (isA_no (S := S) (T := T) (fun hp => of_decide_eq_false hT (hn ▸ hp.2.2.1)))
      have HL := Lib.hid hl
      have HN := Lib.hid hn
      clear h hA hl
      go_enter Try.func37, Try.ntmps37
      go_wp2_with fail
      refine (isPermutation_b _ S n true _ hS (HI.out.1.below (by repeat (first | (with_reducible exact Below.refl _ _) | (with_reducible assumption) | (with_reducible refine Below.drew ?_) | (with_reducible refine Below.drewN ?_) | ((with_reducible refine Below.al ?_ ?_); · first | omega | (simp; done) | (simp; omega)) | ((with_reducible refine Below.sc ?_ ?_); · first | omega | (simp; done) | (simp; omega)) | ((with_reducible refine Below.thru hb ?_ ?_); · first | omega | (simp; done) | (simp; omega))))) HL.out.1 (by omega)).mono ?_
      rintro e w1 ⟨rfl, hb⟩
      have B1 : Blk w1 (w.heap.size) 44 (#[.slice (some sa) n sc, t]) := (by repeat (first | (with_reducible assumption) | ((with_reducible refine Blk.new ?_); · first | omega | (simp; done) | (simp; omega)) | (with_reducible apply Blk.set4) | (with_reducible apply Blk.set3) | (with_reducible apply Blk.set2) | ((with_reducible refine Blk.put ?_ ?_); · first | omega | (simp; omega)) | (with_reducible refine Blk.old ?_) | (with_reducible refine Blk.drew ?_) | (with_reducible refine Blk.drewN ?_) | ((with_reducible refine Blk.below hb ?_ ?_); · first | omega | (simp; done) | (simp; omega))))
      have lB1 := B1.lt
      have kw1 : Below w.heap.size w w1 := (by repeat (first | (with_reducible exact Below.refl _ _) | (with_reducible assumption) | (with_reducible refine Below.drew ?_) | (with_reducible refine Below.drewN ?_) | ((with_reducible refine Below.al ?_ ?_); · first | omega | (simp; done) | (simp; omega)) | ((with_reducible refine Below.sc ?_ ?_); · first | omega | (simp; done) | (simp; omega)) | ((with_reducible refine Below.thru hb ?_ ?_); · first | omega | (simp; done) | (simp; omega))))
      have sw1 := kw1.size
      clear hb
      have c1 := B1.p2
      clear hS
      go_wp2_with fail
      refine (isPermutation_b _ T n false _ hT (HI.out.2.below kw1) HL.out.2 (by omega)).mono ?_
      rintro e w2 ⟨rfl, hb⟩
      have kw2 : Below w.heap.size w w2 := (by repeat (first | (with_reducible exact Below.refl _ _) | (with_reducible assumption) | (with_reducible refine Below.drew ?_) | (with_reducible refine Below.drewN ?_) | ((with_reducible refine Below.al ?_ ?_); · first | omega | (simp; done) | (simp; omega)) | ((with_reducible refine Below.sc ?_ ?_); · first | omega | (simp; done) | (simp; omega)) | ((with_reducible refine Below.thru hb ?_ ?_); · first | omega | (simp; done) | (simp; omega))))
      have sw2 := kw2.size
      clear hb
      go_wp2
      go_ret
      exact ⟨ret_bool HF.out.symm, kw2⟩
    | true =>
      have HPT := Lib.hid (of_decide_eq_true hT)
      obtain ⟨ta, tc, rfl, hB⟩ := perm_open h.2 HPT.out (by omega)
      have HA := Lib.hid hA
      have HB := Lib.hid hB
      have HL := Lib.hid hl
      have HN := Lib.hid hn
      clear h hA hB hl hn
      go_enter Try.func37, Try.ntmps37
      go_wp2_with fail
      refine (isPermutation_b _ S n true _ hS (HI.out.1.below (by repeat (first | (with_reducible exact Below.refl _ _) | (with_reducible assumption) | (with_reducible refine Below.drew ?_) | (with_reducible refine Below.drewN ?_) | ((with_reducible refine Below.al ?_ ?_); · first | omega | (simp; done) | (simp; omega)) | ((with_reducible refine Below.sc ?_ ?_); · first | omega | (simp; done) | (simp; omega)) | ((with_reducible refine Below.thru hb ?_ ?_); · first | omega | (simp; done) | (simp; omega))))) HL.out.1 (by omega)).mono ?_
      rintro e w1 ⟨rfl, hb⟩
      have B1 : Blk w1 (w.heap.size) 44 (#[.slice (some sa) n sc, .slice (some ta) n tc]) := (by repeat (first | (with_reducible assumption) | ((with_reducible refine Blk.new ?_); · first | omega | (simp; done) | (simp; omega)) | (with_reducible apply Blk.set4) | (with_reducible apply Blk.set3) | (with_reducible apply Blk.set2) | ((with_reducible refine Blk.put ?_ ?_); · first | omega | (simp; omega)) | (with_reducible refine Blk.old ?_) | (with_reducible refine Blk.drew ?_) | (with_reducible refine Blk.drewN ?_) | ((with_reducible refine Blk.below hb ?_ ?_); · first | omega | (simp; done) | (simp; omega))))
      have lB1 := B1.lt
      have kw1 : Below w.heap.size w w1 := (by repeat (first | (with_reducible exact Below.refl _ _) | (with_reducible assumption) | (with_reducible refine Below.drew ?_) | (with_reducible refine Below.drewN ?_) | ((with_reducible refine Below.al ?_ ?_); · first | omega | (simp; done) | (simp; omega)) | ((with_reducible refine Below.sc ?_ ?_); · first | omega | (simp; done) | (simp; omega)) | ((with_reducible refine Below.thru hb ?_ ?_); · first | omega | (simp; done) | (simp; omega))))
      have sw1 := kw1.size
      clear hb
      have c1 := B1.p2
      clear hS
      go_wp2_with fail
      refine (isPermutation_b _ T n true _ hT (HI.out.2.below kw1) HL.out.2 (by omega)).mono ?_
      rintro e w2 ⟨rfl, hb⟩
      have B2 : Blk w2 (w.heap.size) 44 (#[.slice (some sa) n sc, .slice (some ta) n tc]) := (by repeat (first | (with_reducible assumption) | ((with_reducible refine Blk.new ?_); · first | omega | (simp; done) | (simp; omega)) | (with_reducible apply Blk.set4) | (with_reducible apply Blk.set3) | (with_reducible apply Blk.set2) | ((with_reducible refine Blk.put ?_ ?_); · first | omega | (simp; omega)) | (with_reducible refine Blk.old ?_) | (with_reducible refine Blk.drew ?_) | (with_reducible refine Blk.drewN ?_) | ((with_reducible refine Blk.below hb ?_ ?_); · first | omega | (simp; done) | (simp; omega))))
      have lB2 := B2.lt
      have kw2 : Below w.heap.size w w2 := (by repeat (first | (with_reducible exact Below.refl _ _) | (with_reducible assumption) | (with_reducible refine Below.drew ?_) | (with_reducible refine Below.drewN ?_) | ((with_reducible refine Below.al ?_ ?_); · first | omega | (simp; done) | (simp; omega)) | ((with_reducible refine Below.sc ?_ ?_); · first | omega | (simp; done) | (simp; omega)) | ((with_reducible refine Below.thru hb ?_ ?_); · first | omega | (simp; done) | (simp; omega))))
      have sw2 := kw2.size
      clear hb
      have c2 := B2.p2
      clear hT c1 B1 kw1 sw1 lB1
      go_wp2
      go_loopw [32] (fun i wr => ∃ k : Nat, k ≤ n ∧ i = .int .i64 k ∧ Hid (∀ j, j < k → goodAt S T j) ∧ Blk wr w.heap.size 44 #[.slice (some sa) n sc, .slice (some ta) n tc] ∧ Below w.heap.size w wr) (fun i _ => n - (intOf i).toNat)
      case atStart => exact ⟨0, Nat.zero_le _, rfl, Lib.hid (fun j hj => absurd hj (by omega)), (by repeat (first | (with_reducible assumption) | ((with_reducible refine Blk.new ?_); · first | omega | (simp; done) | (simp; omega)) | (with_reducible apply Blk.set4) | (with_reducible apply Blk.set3) | (with_reducible apply Blk.set2) | ((with_reducible refine Blk.put ?_ ?_); · first | omega | (simp; omega)) | (with_reducible refine Blk.old ?_) | (with_reducible refine Blk.drew ?_) | (with_reducible refine Blk.drewN ?_) | ((with_reducible refine Blk.below hb ?_ ?_); · first | omega | (simp; done) | (simp; omega)))), (by repeat (first | (with_reducible exact Below.refl _ _) | (with_reducible assumption) | (with_reducible refine Below.drew ?_) | (with_reducible refine Below.drewN ?_) | ((with_reducible refine Below.al ?_ ?_); · first | omega | (simp; done) | (simp; omega)) | ((with_reducible refine Below.sc ?_ ?_); · first | omega | (simp; done) | (simp; omega)) | ((with_reducible refine Below.thru hb ?_ ?_); · first | omega | (simp; done) | (simp; omega))))⟩
      case round =>
        clear B2 c2 lB2 sw2 kw2
        obtain ⟨k, hk, rfl, hp, B, kwr⟩ := hrel
        have b0 := B.p2
        have lB := B.lt
        have swr := kwr.size
        by_cases hlt : k < n
        · have hA := perm_cells HA.out kwr
          have hB := perm_cells HB.out kwr
          have HG := Lib.hid (show goodAt S T k ↔ (fn S (fn T (fn S (fn T (fn S (fn T k))))) = k ∧ fn S (fn S k) = k) from Iff.rfl)
          have cx1 := hB k hlt
          have lx1 := fn_lt HPT.out hlt
          generalize fn T k = x1 at cx1 lx1 HG
          have ix1 : (0 : Int) ≤ (x1 : Int) := by omega
          have jx1 : (x1 : Int) < (n : Int) := by omega
          have cx2 := hA x1 lx1
          have lx2 := fn_lt HPS.out lx1
          generalize fn S x1 = x2 at cx2 lx2 HG
          have ix2 : (0 : Int) ≤ (x2 : Int) := by omega
          have jx2 : (x2 : Int) < (n : Int) := by omega
          have cx3 := hB x2 lx2
          have lx3 := fn_lt HPT.out lx2
          generalize fn T x2 = x3 at cx3 lx3 HG
          have ix3 : (0 : Int) ≤ (x3 : Int) := by omega
          have jx3 : (x3 : Int) < (n : Int) := by omega
          have cx4 := hA x3 lx3
          have lx4 := fn_lt HPS.out lx3
          generalize fn S x3 = x4 at cx4 lx4 HG
          have ix4 : (0 : Int) ≤ (x4 : Int) := by omega
          have jx4 : (x4 : Int) < (n : Int) := by omega
          have cx5 := hB x4 lx4
          have lx5 := fn_lt HPT.out lx4
          generalize fn T x4 = x5 at cx5 lx5 HG
          have ix5 : (0 : Int) ≤ (x5 : Int) := by omega
          have jx5 : (x5 : Int) < (n : Int) := by omega
          have cx6 := hA x5 lx5
          have lx6 := fn_lt HPS.out lx5
          generalize fn S x5 = x6 at cx6 lx6 HG
          have ix6 : (0 : Int) ≤ (x6 : Int) := by omega
          have jx6 : (x6 : Int) < (n : Int) := by omega
          have cy1 := hA k hlt
          have ly1 := fn_lt HPS.out hlt
          generalize fn S k = y1 at cy1 ly1 HG
          have iy1 : (0 : Int) ≤ (y1 : Int) := by omega
          have jy1 : (y1 : Int) < (n : Int) := by omega
          have cy2 := hA y1 ly1
          have ly2 := fn_lt HPS.out ly1
          generalize fn S y1 = y2 at cy2 ly2 HG
          have iy2 : (0 : Int) ≤ (y2 : Int) := by omega
          have jy2 : (y2 : Int) < (n : Int) := by omega
          have ik : (0 : Int) ≤ (k : Int) := by omega
          have jk : (k : Int) < (n : Int) := by omega
          have K := Lib.hid (And.intro B kwr)
          clear hA hB B kwr
          go_wp2_with fail
          refine wp_loop_rounds 4 ?_
          rw [rounds_succ]
          go_wp2_with fail
          go_quiet (fail)
          go_wp2_with fail
          rw [rounds_succ]
          go_wp2_with fail
          go_quiet (fail)
          go_wp2_with fail
          rw [rounds_succ]
          go_wp2_with fail
          go_quiet (fail)
          go_wp2_with fail
          rw [rounds_succ]
          go_wp2_with fail
          cases hy : (((y2 : Nat) : Int) != ((k : Nat) : Int)) with
          | true =>
            have HF := Lib.hid (isA_no (S := S) (T := T) (fun hx => nat_ne hy (HG.out.mp (hx.2.2.2.1 k (by rw [HN.out]; exact hlt))).2))
            cases hx : (((x6 : Nat) : Int) != ((k : Nat) : Int)) with
            | true =>
              go_quiet (fail)
              go_wp2
              go_ret
              have kk := K.out.2; exact ⟨ret_bool HF.out.symm, (by repeat (first | (with_reducible exact Below.refl _ _) | (with_reducible assumption) | (with_reducible refine Below.drew ?_) | (with_reducible refine Below.drewN ?_) | ((with_reducible refine Below.al ?_ ?_); · first | omega | (simp; done) | (simp; omega)) | ((with_reducible refine Below.sc ?_ ?_); · first | omega | (simp; done) | (simp; omega)) | ((with_reducible refine Below.thru hb ?_ ?_); · first | omega | (simp; done) | (simp; omega))))⟩
            | false =>
              go_quiet (fail)
              go_wp2
              go_ret
              have kk := K.out.2; exact ⟨ret_bool HF.out.symm, (by repeat (first | (with_reducible exact Below.refl _ _) | (with_reducible assumption) | (with_reducible refine Below.drew ?_) | (with_reducible refine Below.drewN ?_) | ((with_reducible refine Below.al ?_ ?_); · first | omega | (simp; done) | (simp; omega)) | ((with_reducible refine Below.sc ?_ ?_); · first | omega | (simp; done) | (simp; omega)) | ((with_reducible refine Below.thru hb ?_ ?_); · first | omega | (simp; done) | (simp; omega))))⟩
          | false =>
            cases hx : (((x6 : Nat) : Int) != ((k : Nat) : Int)) with
            | true =>
              have HF := Lib.hid (isA_no (S := S) (T := T) (fun hz => nat_ne hx (HG.out.mp (hz.2.2.2.1 k (by rw [HN.out]; exact hlt))).1))
              go_quiet (fail)
              go_wp2
              go_ret
              have kk := K.out.2; exact ⟨ret_bool HF.out.symm, (by repeat (first | (with_reducible exact Below.refl _ _) | (with_reducible assumption) | (with_reducible refine Below.drew ?_) | (with_reducible refine Below.drewN ?_) | ((with_reducible refine Below.al ?_ ?_); · first | omega | (simp; done) | (simp; omega)) | ((with_reducible refine Below.sc ?_ ?_); · first | omega | (simp; done) | (simp; omega)) | ((with_reducible refine Below.thru hb ?_ ?_); · first | omega | (simp; done) | (simp; omega))))⟩
            | false =>
              have HQ := Lib.hid (HG.out.mpr ⟨nat_eq hx, nat_eq hy⟩)
              go_quiet (fail)
              go_wp2
              go_roundw
              case rel => exact ⟨k + 1, by omega, by go_num, Lib.hid (fun j hj => if e : j < k then hp.out j e else (show j = k by omega) ▸ HQ.out), Blk.drewN K.out.1, Below.drewN K.out.2⟩
              case measure => simp [intOf]; omega
        · obtain rfl : k = n := by omega
          have K := Lib.hid (And.intro B kwr)
          clear B kwr
          go_wp2_with fail
          refine (reached_any (.slice (some sa) k sc) (.slice (some ta) k tc) S T k 0 _ ⟨HI.out.1.below K.out.2, HI.out.2.below K.out.2⟩ HPS.out HPT.out (by omega) h72).mono ?_
          rintro e w3 ⟨v, rfl, O, hb⟩
          obtain ⟨ao, c, rfl, _⟩ := nats_open O.slIn
          have kw3 : Below w.heap.size w w3 := Below.thru hb (by omega) K.out.2
          have HF := Lib.hid (show isA S T = decide (((metL (fn S) (fn T) 0 k).length : Int) = (k : Int)) by
            unfold isA
            rw [decide_eq_decide, HN.out]
            exact ⟨fun h => by rw [h.2.2.2.2], fun h => ⟨⟨h0, h72⟩, HPS.out, HPT.out, hp.out, by omega⟩⟩)
          clear hb
          go_wp2
          go_ret
          exact ⟨ret_bool (by rw [HF.out]; first | rfl | (rw [Bool.eq_iff_iff]; simp)), kw3⟩

end Go.Proofs.Ytjpkopnkfpgahaa
