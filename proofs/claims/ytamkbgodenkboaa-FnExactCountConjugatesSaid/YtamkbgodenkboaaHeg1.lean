/- Actions with equal groups: both. -/
import Derived.Test.YtamkbgodenkboaaForm
namespace Go.Proofs.Ytamkbgodenkboaa
open Go.RowKit

set_option maxHeartbeats 1000000 in
theorem sliceEqual_any (v u : Value) (xs ys : List Int) (w : World) (hv : SlIn w .i64 v xs) (hu : SlIn w .i64 u ys) (hl1 : xs.length ≤ maxLen) (hl2 : ys.length ≤ maxLen) :
    Calls Try.prog 124 #[v, u] w fun e w' => e = .returned (.bool (xs == ys)) ∧ Below w.heap.size w w' := by
  obtain ⟨ao, c, rfl, ha⟩ := hv.form
  obtain ⟨bo, c', rfl, hb⟩ := hu.form
  have HA := Lib.hid ha
  have HB := Lib.hid hb
  unfold maxLen at hl1 hl2
  clear ha hb hv hu
  by_cases hne : xs.length = ys.length
  · by_cases h0 : xs.length = 0
    · obtain rfl : xs = [] := List.eq_nil_of_length_eq_zero h0
      obtain rfl : ys = [] := List.eq_nil_of_length_eq_zero hne.symm
      clear hne h0
      go_enter Try.func124, Try.ntmps124
      go_wp2
      refine wp_loop_rounds 1 ?_
      rw [rounds_succ]
      go_wp2
      go_ret
      exact ⟨rfl, (by repeat (first | (with_reducible exact Below.refl _ _) | (with_reducible assumption) | (with_reducible refine Below.drew ?_) | (with_reducible refine Below.drewN ?_) | ((with_reducible refine Below.al ?_ ?_); · first | omega | (simp; done) | (simp; omega)) | ((with_reducible refine Below.sc ?_ ?_); · first | omega | (simp; done) | (simp; omega)) | ((with_reducible refine Below.thru hb ?_ ?_); · first | omega | (simp; done) | (simp; omega))))⟩
    · obtain ⟨a, rfl, hxa⟩ := HA.out (by omega)
      obtain ⟨b, rfl, hyb⟩ := HB.out (by omega)
      have HX := Lib.hid hxa
      have HY := Lib.hid hyb
      have HN := Lib.hid hne
      have e1 : xs.length ≤ ys.length := by omega
      have e2 : ys.length ≤ xs.length := by omega
      clear hxa hyb hne HA HB
      go_enter Try.func124, Try.ntmps124
      go_wp2
      go_loopw [13] (fun i wr => ∃ k : Nat, k ≤ xs.length ∧ i = .int .i64 k ∧ Hid (∀ j (h1 : j < xs.length) (h2 : j < ys.length), j < k → xs[j] = ys[j]) ∧ ∃ n, wr = w.drewN n) (fun i _ => xs.length - (intOf i).toNat)
      case atStart => exact ⟨0, Nat.zero_le _, rfl, fun j _ _ h => absurd h (by omega), 0, rfl⟩
      case round =>
        obtain ⟨k, hk, rfl, hall, n, rfl⟩ := hrel
        by_cases hlt : k < xs.length
        · have hlt2 : k < ys.length := by omega
          have i0 : (0 : Int) ≤ (k : Int) := by omega
          have i1 : (k : Int) < (xs.length : Int) := by omega
          have i2 : (k : Int) < (ys.length : Int) := by omega
          have c1 := HX.out k hlt
          have c2 := HY.out k hlt2
          cases hq : (xs[k] != ys[k]) with
          | false =>
            have he : xs[k] = ys[k] := by simpa using hq
            have HE := Lib.hid he
            clear he
            go_wp2_with fail
            go_quiet (fail)
            go_wp2
            go_roundw
            case rel => exact ⟨k + 1, by omega, by go_num, eq_step hall.out hlt hlt2 HE.out, n + nq, rfl⟩
            case measure => simp [intOf]; omega
          | true =>
            have he : ¬ xs[k] = ys[k] := by simpa using hq
            have F := Lib.hid (beq_no_at hlt hlt2 he)
            clear he
            go_wp2_with fail
            go_quiet (fail)
            go_wp2
            go_ret
            exact ⟨ret_bool F.out.symm, (by repeat (first | (with_reducible exact Below.refl _ _) | (with_reducible assumption) | (with_reducible refine Below.drew ?_) | (with_reducible refine Below.drewN ?_) | ((with_reducible refine Below.al ?_ ?_); · first | omega | (simp; done) | (simp; omega)) | ((with_reducible refine Below.sc ?_ ?_); · first | omega | (simp; done) | (simp; omega)) | ((with_reducible refine Below.thru hb ?_ ?_); · first | omega | (simp; done) | (simp; omega))))⟩
        · have F := Lib.hid (beq_of_all HN.out (fun j h1 h2 => hall.out j h1 h2 (by omega)))
          go_wp2
          go_ret
          exact ⟨ret_bool F.out.symm, (by repeat (first | (with_reducible exact Below.refl _ _) | (with_reducible assumption) | (with_reducible refine Below.drew ?_) | (with_reducible refine Below.drewN ?_) | ((with_reducible refine Below.al ?_ ?_); · first | omega | (simp; done) | (simp; omega)) | ((with_reducible refine Below.sc ?_ ?_); · first | omega | (simp; done) | (simp; omega)) | ((with_reducible refine Below.thru hb ?_ ?_); · first | omega | (simp; done) | (simp; omega))))⟩
  · have F := Lib.hid (beq_no_len hne)
    go_enter Try.func124, Try.ntmps124
    go_wp2
    go_ret
    exact ⟨ret_bool F.out.symm, (by repeat (first | (with_reducible exact Below.refl _ _) | (with_reducible assumption) | (with_reducible refine Below.drew ?_) | (with_reducible refine Below.drewN ?_) | ((with_reducible refine Below.al ?_ ?_); · first | omega | (simp; done) | (simp; omega)) | ((with_reducible refine Below.sc ?_ ?_); · first | omega | (simp; done) | (simp; omega)) | ((with_reducible refine Below.thru hb ?_ ?_); · first | omega | (simp; done) | (simp; omega))))⟩

def sameB (X Y : Act) : Bool := (X.S == Y.S) && (X.T == Y.T)
set_option maxHeartbeats 1000000 in
theorem same_any (s t s2 t2 : Value) (X Y : Act) (w : World) (h : SlIn w .i64 s X.S ∧ SlIn w .i64 t X.T) (k : SlIn w .i64 s2 Y.S ∧ SlIn w .i64 t2 Y.T) :
    Calls Try.prog 76 #[.agg #[s, t], .agg #[s2, t2]] w fun e w' => e = .returned (.bool (sameB X Y)) ∧ Below w.heap.size w w' := by
  have HS := Lib.hid h
  have HK := Lib.hid k
  clear h k
  cases h1 : (X.S == Y.S) with
  | false =>
    have HF := Lib.hid (show sameB X Y = false by unfold sameB; rw [h1]; rfl)
    go_enter Try.func76, Try.ntmps76
    go_wp2_with fail
    refine (sliceEqual_any s s2 X.S Y.S _ (HS.out.1.below (by repeat (first | (with_reducible exact Below.refl _ _) | (with_reducible assumption) | (with_reducible refine Below.drew ?_) | (with_reducible refine Below.drewN ?_) | ((with_reducible refine Below.al ?_ ?_); · first | omega | (simp; done) | (simp; omega)) | ((with_reducible refine Below.sc ?_ ?_); · first | omega | (simp; done) | (simp; omega)) | ((with_reducible refine Below.thru hb ?_ ?_); · first | omega | (simp; done) | (simp; omega))))) (HK.out.1.below (by repeat (first | (with_reducible exact Below.refl _ _) | (with_reducible assumption) | (with_reducible refine Below.drew ?_) | (with_reducible refine Below.drewN ?_) | ((with_reducible refine Below.al ?_ ?_); · first | omega | (simp; done) | (simp; omega)) | ((with_reducible refine Below.sc ?_ ?_); · first | omega | (simp; done) | (simp; omega)) | ((with_reducible refine Below.thru hb ?_ ?_); · first | omega | (simp; done) | (simp; omega))))) HS.out.1.le HK.out.1.le).mono ?_
    rw [h1]
    clear h1
    rintro e w1 ⟨rfl, hb⟩
    have kw1 : Below w.heap.size w w1 := (by repeat (first | (with_reducible exact Below.refl _ _) | (with_reducible assumption) | (with_reducible refine Below.drew ?_) | (with_reducible refine Below.drewN ?_) | ((with_reducible refine Below.al ?_ ?_); · first | omega | (simp; done) | (simp; omega)) | ((with_reducible refine Below.sc ?_ ?_); · first | omega | (simp; done) | (simp; omega)) | ((with_reducible refine Below.thru hb ?_ ?_); · first | omega | (simp; done) | (simp; omega))))
    clear hb
    go_wp2
    go_ret
    exact ⟨ret_bool HF.out.symm, kw1⟩
  | true =>
    have HF := Lib.hid (show sameB X Y = (X.T == Y.T) by unfold sameB; rw [h1]; rfl)
    go_enter Try.func76, Try.ntmps76
    go_wp2_with fail
    refine (sliceEqual_any s s2 X.S Y.S _ (HS.out.1.below (by repeat (first | (with_reducible exact Below.refl _ _) | (with_reducible assumption) | (with_reducible refine Below.drew ?_) | (with_reducible refine Below.drewN ?_) | ((with_reducible refine Below.al ?_ ?_); · first | omega | (simp; done) | (simp; omega)) | ((with_reducible refine Below.sc ?_ ?_); · first | omega | (simp; done) | (simp; omega)) | ((with_reducible refine Below.thru hb ?_ ?_); · first | omega | (simp; done) | (simp; omega))))) (HK.out.1.below (by repeat (first | (with_reducible exact Below.refl _ _) | (with_reducible assumption) | (with_reducible refine Below.drew ?_) | (with_reducible refine Below.drewN ?_) | ((with_reducible refine Below.al ?_ ?_); · first | omega | (simp; done) | (simp; omega)) | ((with_reducible refine Below.sc ?_ ?_); · first | omega | (simp; done) | (simp; omega)) | ((with_reducible refine Below.thru hb ?_ ?_); · first | omega | (simp; done) | (simp; omega))))) HS.out.1.le HK.out.1.le).mono ?_
    rw [h1]
    clear h1
    rintro e w1 ⟨rfl, hb⟩
    have B0 : Blk w1 w.heap.size 27 #[s, t] := (by repeat (first | (with_reducible assumption) | ((with_reducible refine Blk.new ?_); · first | omega | (simp; done) | (simp; omega)) | (with_reducible apply Blk.set4) | (with_reducible apply Blk.set3) | (with_reducible apply Blk.set2) | ((with_reducible refine Blk.put ?_ ?_); · first | omega | (simp; omega)) | (with_reducible refine Blk.old ?_) | (with_reducible refine Blk.drew ?_) | (with_reducible refine Blk.drewN ?_) | ((with_reducible refine Blk.below hb ?_ ?_); · first | omega | (simp; done) | (simp; omega))))
    have B1 : Blk w1 (w.heap.size + 1) 27 #[s2, t2] := (by repeat (first | (with_reducible assumption) | ((with_reducible refine Blk.new ?_); · first | omega | (simp; done) | (simp; omega)) | (with_reducible apply Blk.set4) | (with_reducible apply Blk.set3) | (with_reducible apply Blk.set2) | ((with_reducible refine Blk.put ?_ ?_); · first | omega | (simp; omega)) | (with_reducible refine Blk.old ?_) | (with_reducible refine Blk.drew ?_) | (with_reducible refine Blk.drewN ?_) | ((with_reducible refine Blk.below hb ?_ ?_); · first | omega | (simp; done) | (simp; omega))))
    have kw1 : Below w.heap.size w w1 := (by repeat (first | (with_reducible exact Below.refl _ _) | (with_reducible assumption) | (with_reducible refine Below.drew ?_) | (with_reducible refine Below.drewN ?_) | ((with_reducible refine Below.al ?_ ?_); · first | omega | (simp; done) | (simp; omega)) | ((with_reducible refine Below.sc ?_ ?_); · first | omega | (simp; done) | (simp; omega)) | ((with_reducible refine Below.thru hb ?_ ?_); · first | omega | (simp; done) | (simp; omega))))
    have sw1 := kw1.size
    have b0 := B0.p2
    have b1 := B1.p2
    clear hb
    go_wp2_with fail
    refine (sliceEqual_any t t2 X.T Y.T _ (HS.out.2.below (by repeat (first | (with_reducible exact Below.refl _ _) | (with_reducible assumption) | (with_reducible refine Below.drew ?_) | (with_reducible refine Below.drewN ?_) | ((with_reducible refine Below.al ?_ ?_); · first | omega | (simp; done) | (simp; omega)) | ((with_reducible refine Below.sc ?_ ?_); · first | omega | (simp; done) | (simp; omega)) | ((with_reducible refine Below.thru hb ?_ ?_); · first | omega | (simp; done) | (simp; omega))))) (HK.out.2.below (by repeat (first | (with_reducible exact Below.refl _ _) | (with_reducible assumption) | (with_reducible refine Below.drew ?_) | (with_reducible refine Below.drewN ?_) | ((with_reducible refine Below.al ?_ ?_); · first | omega | (simp; done) | (simp; omega)) | ((with_reducible refine Below.sc ?_ ?_); · first | omega | (simp; done) | (simp; omega)) | ((with_reducible refine Below.thru hb ?_ ?_); · first | omega | (simp; done) | (simp; omega))))) HS.out.2.le HK.out.2.le).mono ?_
    rw [← HF.out]
    rintro e w2 ⟨rfl, hb⟩
    have kw2 : Below w.heap.size w w2 := (by repeat (first | (with_reducible exact Below.refl _ _) | (with_reducible assumption) | (with_reducible refine Below.drew ?_) | (with_reducible refine Below.drewN ?_) | ((with_reducible refine Below.al ?_ ?_); · first | omega | (simp; done) | (simp; omega)) | ((with_reducible refine Below.sc ?_ ?_); · first | omega | (simp; done) | (simp; omega)) | ((with_reducible refine Below.thru hb ?_ ?_); · first | omega | (simp; done) | (simp; omega))))
    clear hb
    go_wp2
    go_ret
    exact ⟨rfl, kw2⟩

theorem beq_yes {xs ys : List Int} (h : (xs == ys) = true) : xs = ys := by simpa using h
theorem same_at {X Y : Act} {j : Nat} {x y : Int} (h : sameB X Y = true) (hx : X.S[j]? = some x) (hy : Y.S[j]? = some y) : x = y := by
  unfold sameB at h
  simp only [Bool.and_eq_true, beq_iff_eq] at h
  rw [h.1, hy] at hx
  exact (Option.some.inj hx).symm
theorem same_at2 {X Y : Act} {j : Nat} {x y : Int} (h : sameB X Y = true) (hx : X.T[j]? = some x) (hy : Y.T[j]? = some y) : x = y := by
  unfold sameB at h
  simp only [Bool.and_eq_true, beq_iff_eq] at h
  rw [h.2, hy] at hx
  exact (Option.some.inj hx).symm
theorem same_no {X Y : Act} {j : Nat} {x y : Int} (hx : X.S[j]? = some x) (hy : Y.S[j]? = some y) (hn : ¬ x = y) : sameB X Y = false := by
  cases h : sameB X Y with
  | false => rfl
  | true => exact absurd (same_at h hx hy) hn
theorem same_no2 {X Y : Act} {j : Nat} {x y : Int} (hx : X.T[j]? = some x) (hy : Y.T[j]? = some y) (hn : ¬ x = y) : sameB X Y = false := by
  cases h : sameB X Y with
  | false => rfl
  | true => exact absurd (same_at2 h hx hy) hn
theorem same_len {X Y : Act} (hn : ¬ X.S.length = Y.S.length) : sameB X Y = false := by
  cases h : sameB X Y with
  | false => rfl
  | true =>
    unfold sameB at h
    simp only [Bool.and_eq_true, beq_iff_eq] at h
    exact absurd (congrArg List.length h.1) hn
/-- The same up to k. -/
def eqTo (X Y : Act) (k : Nat) : Prop := ∀ j, j < k → X.S[j]? = Y.S[j]? ∧ X.T[j]? = Y.T[j]?
theorem eqTo_all {X Y : Act} {n : Nat} (h : eqTo X Y n) (h1 : X.S.length = n) (h2 : X.T.length = n) (h3 : Y.S.length = n) (h4 : Y.T.length = n) : sameB X Y = true := by
  unfold sameB
  simp only [Bool.and_eq_true, beq_iff_eq]
  constructor
  · apply List.ext_getElem?
    intro j
    by_cases hj : j < n
    · exact (h j hj).1
    · rw [List.getElem?_eq_none (by omega), List.getElem?_eq_none (by omega)]
  · apply List.ext_getElem?
    intro j
    by_cases hj : j < n
    · exact (h j hj).2
    · rw [List.getElem?_eq_none (by omega), List.getElem?_eq_none (by omega)]
theorem eqTo_succ {X Y : Act} {k : Nat} (h : eqTo X Y k) (h1 : X.S[k]? = Y.S[k]?) (h2 : X.T[k]? = Y.T[k]?) : eqTo X Y (k + 1) := fun j hj => by
  by_cases e : j < k
  · exact h j e
  · obtain rfl : j = k := by omega
    exact ⟨h1, h2⟩
theorem sl_cells {w : World} {v : Value} {xs : List Int} {n : Nat} (h : SlIn w .i64 v xs) (hl : xs.length = n) (hn : 0 < n) :
    ∃ a c, v = .slice (some a) n c ∧ ∀ j, j < n → ∃ x, xs[j]? = some x ∧ w.cell? (a.add j) = some (.int .i64 x) := by
  obtain ⟨ao, c, rfl, hx⟩ := h.form
  obtain ⟨a, rfl, hx2⟩ := hx (by omega)
  refine ⟨a, c, by rw [hl], fun j hj => ⟨xs[j]'(by omega), List.getElem?_eq_getElem (by omega), hx2 j (by omega)⟩⟩

set_option maxHeartbeats 2000000 in
theorem l10Equal_any (s t s2 t2 : Value) (X Y : Act) (n m : Nat) (w : World) (h : SlIn w .i64 s X.S ∧ SlIn w .i64 t X.T) (k : SlIn w .i64 s2 Y.S ∧ SlIn w .i64 t2 Y.T) (hX : X.S.length = n ∧ X.T.length = n) (hY : Y.S.length = m ∧ Y.T.length = m) (hn : 0 < n) (hm : 0 < m) (hs : n ≤ 72 ∧ m ≤ 72) :
    Calls Try.prog 73 #[.agg #[s, t], .agg #[s2, t2]] w fun e w' => e = .returned (.bool (sameB X Y)) ∧ Below w.heap.size w w' := by
  obtain ⟨sa, sc, hs1, hA⟩ := sl_cells h.1 hX.1 hn
  obtain ⟨ta, tc, hs2, hB⟩ := sl_cells h.2 hX.2 hn
  obtain ⟨ua, uc, hs3, hC⟩ := sl_cells k.1 hY.1 hm
  obtain ⟨va, vc, hs4, hD⟩ := sl_cells k.2 hY.2 hm
  subst hs1 hs2 hs3 hs4
  have HX := Lib.hid hX
  have HY := Lib.hid hY
  clear h k hX hY
  by_cases hne : n = m
  rotate_left
  · have HF := Lib.hid (same_len (X := X) (Y := Y) (by rw [HX.out.1, HY.out.1]; exact hne))
    clear hA hB hC hD
    go_enter Try.func73, Try.ntmps73
    go_wp2
    go_ret
    exact ⟨ret_bool HF.out.symm, (by repeat (first | (with_reducible exact Below.refl _ _) | (with_reducible assumption) | (with_reducible refine Below.drew ?_) | (with_reducible refine Below.drewN ?_) | ((with_reducible refine Below.al ?_ ?_); · first | omega | (simp; done) | (simp; omega)) | ((with_reducible refine Below.sc ?_ ?_); · first | omega | (simp; done) | (simp; omega)) | ((with_reducible refine Below.thru hb ?_ ?_); · first | omega | (simp; done) | (simp; omega))))⟩
  subst hne
  have HA := Lib.hid hA
  have HB := Lib.hid hB
  have HC := Lib.hid hC
  have HD := Lib.hid hD
  clear hA hB hC hD
  go_enter Try.func73, Try.ntmps73
  go_wp2
  go_loopw [5] (fun i wr => ∃ k : Nat, k ≤ n ∧ i = .int .i64 k ∧ Hid (eqTo X Y k) ∧ Blk wr w.heap.size 27 #[.slice (some sa) n sc, .slice (some ta) n tc] ∧ Blk wr (w.heap.size + 1) 27 #[.slice (some ua) n uc, .slice (some va) n vc] ∧ Below w.heap.size w wr) (fun i _ => n - (intOf i).toNat)
  case atStart => exact ⟨0, Nat.zero_le _, rfl, Lib.hid (fun j hj => absurd hj (by omega)), (by repeat (first | (with_reducible assumption) | ((with_reducible refine Blk.new ?_); · first | omega | (simp; done) | (simp; omega)) | (with_reducible apply Blk.set4) | (with_reducible apply Blk.set3) | (with_reducible apply Blk.set2) | ((with_reducible refine Blk.put ?_ ?_); · first | omega | (simp; omega)) | (with_reducible refine Blk.old ?_) | (with_reducible refine Blk.drew ?_) | (with_reducible refine Blk.drewN ?_) | ((with_reducible refine Blk.below hb ?_ ?_); · first | omega | (simp; done) | (simp; omega)))), (by repeat (first | (with_reducible assumption) | ((with_reducible refine Blk.new ?_); · first | omega | (simp; done) | (simp; omega)) | (with_reducible apply Blk.set4) | (with_reducible apply Blk.set3) | (with_reducible apply Blk.set2) | ((with_reducible refine Blk.put ?_ ?_); · first | omega | (simp; omega)) | (with_reducible refine Blk.old ?_) | (with_reducible refine Blk.drew ?_) | (with_reducible refine Blk.drewN ?_) | ((with_reducible refine Blk.below hb ?_ ?_); · first | omega | (simp; done) | (simp; omega)))), (by repeat (first | (with_reducible exact Below.refl _ _) | (with_reducible assumption) | (with_reducible refine Below.drew ?_) | (with_reducible refine Below.drewN ?_) | ((with_reducible refine Below.al ?_ ?_); · first | omega | (simp; done) | (simp; omega)) | ((with_reducible refine Below.sc ?_ ?_); · first | omega | (simp; done) | (simp; omega)) | ((with_reducible refine Below.thru hb ?_ ?_); · first | omega | (simp; done) | (simp; omega))))⟩
  case round =>
    obtain ⟨k, hk, rfl, hp, B0, B1, kwr⟩ := hrel
    have b0 := B0.p2
    have b1 := B1.p2
    have swr := kwr.size
    by_cases hlt : k < n
    · obtain ⟨x1, e1, c1⟩ := HA.out k hlt
      obtain ⟨y1, e2, c2⟩ := HB.out k hlt
      obtain ⟨x2, e3, c3⟩ := HC.out k hlt
      obtain ⟨y2, e4, c4⟩ := HD.out k hlt
      have d1 : wr.cell? (sa.add k) = some (.int .i64 x1) := by rw [kwr.cell (block_lt_of_cell c1 :)]; exact c1
      have d2 : wr.cell? (ta.add k) = some (.int .i64 y1) := by rw [kwr.cell (block_lt_of_cell c2 :)]; exact c2
      have d3 : wr.cell? (ua.add k) = some (.int .i64 x2) := by rw [kwr.cell (block_lt_of_cell c3 :)]; exact c3
      have d4 : wr.cell? (va.add k) = some (.int .i64 y2) := by rw [kwr.cell (block_lt_of_cell c4 :)]; exact c4
      have i0 : (0 : Int) ≤ (k : Int) := by omega
      have i1 : (k : Int) < (n : Int) := by omega
      have E := Lib.hid (And.intro e1 (And.intro e2 (And.intro e3 e4)))
      have K := Lib.hid (And.intro B0 (And.intro B1 kwr))
      clear e1 e2 e3 e4 c1 c2 c3 c4 B0 B1 kwr
      cases hx : (x1 != x2) with
      | true =>
        have HF := Lib.hid (same_no (X := X) (Y := Y) E.out.1 E.out.2.2.1 (by simpa using hx))
        cases hy : (y1 != y2) with
        | true =>
          go_wp2_with fail
          go_quiet (fail)
          go_wp2
          go_ret
          have kk := K.out.2.2
          exact ⟨ret_bool HF.out.symm, (by repeat (first | (with_reducible exact Below.refl _ _) | (with_reducible assumption) | (with_reducible refine Below.drew ?_) | (with_reducible refine Below.drewN ?_) | ((with_reducible refine Below.al ?_ ?_); · first | omega | (simp; done) | (simp; omega)) | ((with_reducible refine Below.sc ?_ ?_); · first | omega | (simp; done) | (simp; omega)) | ((with_reducible refine Below.thru hb ?_ ?_); · first | omega | (simp; done) | (simp; omega))))⟩
        | false =>
          go_wp2_with fail
          go_quiet (fail)
          go_wp2
          go_ret
          have kk := K.out.2.2
          exact ⟨ret_bool HF.out.symm, (by repeat (first | (with_reducible exact Below.refl _ _) | (with_reducible assumption) | (with_reducible refine Below.drew ?_) | (with_reducible refine Below.drewN ?_) | ((with_reducible refine Below.al ?_ ?_); · first | omega | (simp; done) | (simp; omega)) | ((with_reducible refine Below.sc ?_ ?_); · first | omega | (simp; done) | (simp; omega)) | ((with_reducible refine Below.thru hb ?_ ?_); · first | omega | (simp; done) | (simp; omega))))⟩
      | false =>
        cases hy : (y1 != y2) with
        | true =>
          have HF := Lib.hid (same_no2 (X := X) (Y := Y) E.out.2.1 E.out.2.2.2 (by simpa using hy))
          go_wp2_with fail
          go_quiet (fail)
          go_wp2
          go_ret
          have kk := K.out.2.2
          exact ⟨ret_bool HF.out.symm, (by repeat (first | (with_reducible exact Below.refl _ _) | (with_reducible assumption) | (with_reducible refine Below.drew ?_) | (with_reducible refine Below.drewN ?_) | ((with_reducible refine Below.al ?_ ?_); · first | omega | (simp; done) | (simp; omega)) | ((with_reducible refine Below.sc ?_ ?_); · first | omega | (simp; done) | (simp; omega)) | ((with_reducible refine Below.thru hb ?_ ?_); · first | omega | (simp; done) | (simp; omega))))⟩
        | false =>
          have HQ := Lib.hid (eqTo_succ hp.out (by rw [E.out.1, E.out.2.2.1]; congr 1; simpa using hx) (by rw [E.out.2.1, E.out.2.2.2]; congr 1; simpa using hy))
          go_wp2_with fail
          go_quiet (fail)
          go_wp2
          go_roundw
          case rel => exact ⟨k + 1, by omega, by go_num, HQ, Blk.drewN K.out.1, Blk.drewN K.out.2.1, Below.drewN K.out.2.2⟩
          case measure => simp [intOf]; omega
    · obtain rfl : k = n := by omega
      have HF := Lib.hid (eqTo_all hp.out HX.out.1 HX.out.2 HY.out.1 HY.out.2)
      go_wp2
      go_ret
      exact ⟨ret_bool HF.out.symm, kwr⟩

end Go.Proofs.Ytamkbgodenkboaa
