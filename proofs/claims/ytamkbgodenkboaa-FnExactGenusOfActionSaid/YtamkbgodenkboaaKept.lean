/- Actions: the kept points. -/
import Derived.Test.YtamkbgodenkboaaIs
namespace Go.Proofs.Ytamkbgodenkboaa
open Go.RowKit

/-- How many of the first k points S leads to themselves, and how many T and S. -/
def keepS (S : List Int) : Nat → Nat
  | 0 => 0
  | k + 1 => keepS S k + if fn S k = k then 1 else 0
def keepT (S T : List Int) : Nat → Nat
  | 0 => 0
  | k + 1 => keepT S T k + if fn S (fn T k) = k then 1 else 0
theorem keepS_le (S : List Int) (k : Nat) : keepS S k ≤ k := by
  induction k with
  | zero => exact Nat.le_refl _
  | succ k ih => simp only [keepS]; split <;> omega
theorem keepT_le (S T : List Int) (k : Nat) : keepT S T k ≤ k := by
  induction k with
  | zero => exact Nat.le_refl _
  | succ k ih => simp only [keepT]; split <;> omega
theorem nat_eqT {a b : Nat} (h : ((a : Int) == (b : Int)) = true) : a = b := by
  have : (a : Int) = (b : Int) := by simpa using h
  omega
theorem nat_eqF {a b : Nat} (h : ((a : Int) == (b : Int)) = false) : ¬ a = b := by
  intro e; subst e; simp at h
theorem keepS_if {S : List Int} {k : Nat} : keepS S (k + 1) = keepS S k + if fn S k = k then 1 else 0 := rfl
theorem keepT_if {S T : List Int} {k : Nat} : keepT S T (k + 1) = keepT S T k + if fn S (fn T k) = k then 1 else 0 := rfl
/-- What the kept points give. -/
def GivesKept (S T : List Int) (n : Nat) (w : World) (e : Ending) (w' : World) : Prop := e = .returned (.tuple #[.int .i64 (keepS S n : Int), .int .i64 (keepT S T n : Int)]) ∧ Below w.heap.size w w'

set_option maxHeartbeats 2000000 in
theorem keptPoints_any (s t : Value) (S T : List Int) (n : Nat) (w : World) (h : SlIn w .i64 s S ∧ SlIn w .i64 t T) (hS : permB S n) (hT : permB T n) (h0 : 1 ≤ n) (hn : n ≤ 72) :
    Calls Try.prog 72 #[.agg #[s, t]] w (GivesKept S T n w) := by
  obtain ⟨sa, sc, rfl, hA⟩ := perm_open h.1 hS (by omega)
  obtain ⟨ta, tc, rfl, hB⟩ := perm_open h.2 hT (by omega)
  have HPS := Lib.hid hS
  have HPT := Lib.hid hT
  have HA := Lib.hid hA
  have HB := Lib.hid hB
  clear h hA hB hS hT
  go_enter Try.func72, Try.ntmps72
  go_wp2
  go_loopw [4, 5, 10] (fun y z i wr => ∃ k : Nat, k ≤ n ∧ i = .int .i64 k ∧ y = .int .i64 (keepS S k : Int) ∧ z = .int .i64 (keepT S T k : Int) ∧ Blk wr w.heap.size 27 #[.slice (some sa) n sc, .slice (some ta) n tc] ∧ Below w.heap.size w wr) (fun _ _ i _ => n - (intOf i).toNat)
  case atStart => exact ⟨0, Nat.zero_le _, rfl, rfl, rfl, (by repeat (first | (with_reducible assumption) | ((with_reducible refine Blk.new ?_); · first | omega | (simp; done) | (simp; omega)) | (with_reducible apply Blk.set4) | (with_reducible apply Blk.set3) | (with_reducible apply Blk.set2) | ((with_reducible refine Blk.put ?_ ?_); · first | omega | (simp; omega)) | (with_reducible refine Blk.old ?_) | (with_reducible refine Blk.drew ?_) | (with_reducible refine Blk.drewN ?_) | ((with_reducible refine Blk.below hb ?_ ?_); · first | omega | (simp; done) | (simp; omega)))), (by repeat (first | (with_reducible exact Below.refl _ _) | (with_reducible assumption) | (with_reducible refine Below.drew ?_) | (with_reducible refine Below.drewN ?_) | ((with_reducible refine Below.al ?_ ?_); · first | omega | (simp; done) | (simp; omega)) | ((with_reducible refine Below.sc ?_ ?_); · first | omega | (simp; done) | (simp; omega)) | ((with_reducible refine Below.thru hb ?_ ?_); · first | omega | (simp; done) | (simp; omega))))⟩
  case round =>
    obtain ⟨k, hk, rfl, rfl, rfl, B, kwr⟩ := hrel
    have b0 := B.p2
    have lB := B.lt
    have swr := kwr.size
    by_cases hlt : k < n
    · have hA := perm_cells HA.out kwr
      have hB := perm_cells HB.out kwr
      have HY := Lib.hid (keepS_if (S := S) (k := k))
      have HZ := Lib.hid (keepT_if (S := S) (T := T) (k := k))
      have bS := keepS_le S k
      have bT := keepT_le S T k
      generalize keepS S k = y at *
      generalize keepT S T k = z at *
      have cx := hB k hlt
      have lx := fn_lt HPT.out hlt
      generalize fn T k = x at *
      have cy1 := hA k hlt
      have cx2 := hA x lx
      generalize fn S k = y1 at *
      generalize fn S x = x2 at *
      have i0 : (0 : Int) ≤ (k : Int) := by omega
      have i1 : (k : Int) < (n : Int) := by omega
      have i2 : (0 : Int) ≤ (x : Int) := by omega
      have i3 : (x : Int) < (n : Int) := by omega
      have K := Lib.hid (And.intro B kwr)
      clear hA hB B kwr
      cases hy : (((y1 : Nat) : Int) == ((k : Nat) : Int)) with
      | true =>
        rw [if_pos (nat_eqT hy)] at HY
        cases hz : (((x2 : Nat) : Int) == ((k : Nat) : Int)) with
        | true =>
          rw [if_pos (nat_eqT hz)] at HZ
          go_wp2_with fail
          go_quiet (fail)
          go_wp2
          go_roundw
          case rel => exact ⟨k + 1, by omega, by go_num, by rw [HY.out]; go_num, by rw [HZ.out]; go_num, Blk.drewN K.out.1, Below.drewN K.out.2⟩
          case measure => simp [intOf]; omega
        | false =>
          rw [if_neg (nat_eqF hz)] at HZ
          go_wp2_with fail
          go_quiet (fail)
          go_wp2
          go_roundw
          case rel => exact ⟨k + 1, by omega, by go_num, by rw [HY.out]; go_num, by rw [HZ.out]; go_num, Blk.drewN K.out.1, Below.drewN K.out.2⟩
          case measure => simp [intOf]; omega
      | false =>
        rw [if_neg (nat_eqF hy)] at HY
        cases hz : (((x2 : Nat) : Int) == ((k : Nat) : Int)) with
        | true =>
          rw [if_pos (nat_eqT hz)] at HZ
          go_wp2_with fail
          go_quiet (fail)
          go_wp2
          go_roundw
          case rel => exact ⟨k + 1, by omega, by go_num, by rw [HY.out]; go_num, by rw [HZ.out]; go_num, Blk.drewN K.out.1, Below.drewN K.out.2⟩
          case measure => simp [intOf]; omega
        | false =>
          rw [if_neg (nat_eqF hz)] at HZ
          go_wp2_with fail
          go_quiet (fail)
          go_wp2
          go_roundw
          case rel => exact ⟨k + 1, by omega, by go_num, by rw [HY.out]; go_num, by rw [HZ.out]; go_num, Blk.drewN K.out.1, Below.drewN K.out.2⟩
          case measure => simp [intOf]; omega
    · obtain rfl : k = n := by omega
      go_wp2
      go_ret2
      exact ⟨rfl, kwr⟩

set_option maxHeartbeats 2000000 in
theorem l10Kept_any (s t : Value) (S T : List Int) (n : Nat) (w : World) (h : SlIn w .i64 s S ∧ SlIn w .i64 t T) (hS : permB S n) (hT : permB T n) (h0 : 1 ≤ n) (hn : n ≤ 72) :
    Calls Try.prog 71 #[.agg #[s, t]] w (GivesKept S T n w) := by
  obtain ⟨sa, sc, rfl, hA⟩ := perm_open h.1 hS (by omega)
  obtain ⟨ta, tc, rfl, hB⟩ := perm_open h.2 hT (by omega)
  have HPS := Lib.hid hS
  have HPT := Lib.hid hT
  have HA := Lib.hid hA
  have HB := Lib.hid hB
  clear h hA hB hS hT
  go_enter Try.func71, Try.ntmps71
  go_wp2
  go_loopw [4, 5, 6] (fun y z i wr => ∃ k : Nat, k ≤ n ∧ i = .int .i64 k ∧ y = .int .i64 (keepS S k : Int) ∧ z = .int .i64 (keepT S T k : Int) ∧ Blk wr w.heap.size 27 #[.slice (some sa) n sc, .slice (some ta) n tc] ∧ Below w.heap.size w wr) (fun _ _ i _ => n - (intOf i).toNat)
  case atStart => exact ⟨0, Nat.zero_le _, rfl, rfl, rfl, (by repeat (first | (with_reducible assumption) | ((with_reducible refine Blk.new ?_); · first | omega | (simp; done) | (simp; omega)) | (with_reducible apply Blk.set4) | (with_reducible apply Blk.set3) | (with_reducible apply Blk.set2) | ((with_reducible refine Blk.put ?_ ?_); · first | omega | (simp; omega)) | (with_reducible refine Blk.old ?_) | (with_reducible refine Blk.drew ?_) | (with_reducible refine Blk.drewN ?_) | ((with_reducible refine Blk.below hb ?_ ?_); · first | omega | (simp; done) | (simp; omega)))), (by repeat (first | (with_reducible exact Below.refl _ _) | (with_reducible assumption) | (with_reducible refine Below.drew ?_) | (with_reducible refine Below.drewN ?_) | ((with_reducible refine Below.al ?_ ?_); · first | omega | (simp; done) | (simp; omega)) | ((with_reducible refine Below.sc ?_ ?_); · first | omega | (simp; done) | (simp; omega)) | ((with_reducible refine Below.thru hb ?_ ?_); · first | omega | (simp; done) | (simp; omega))))⟩
  case round =>
    obtain ⟨k, hk, rfl, rfl, rfl, B, kwr⟩ := hrel
    have b0 := B.p2
    have lB := B.lt
    have swr := kwr.size
    by_cases hlt : k < n
    · have hA := perm_cells HA.out kwr
      have hB := perm_cells HB.out kwr
      have HY := Lib.hid (keepS_if (S := S) (k := k))
      have HZ := Lib.hid (keepT_if (S := S) (T := T) (k := k))
      have bS := keepS_le S k
      have bT := keepT_le S T k
      generalize keepS S k = y at *
      generalize keepT S T k = z at *
      have cx := hB k hlt
      have lx := fn_lt HPT.out hlt
      generalize fn T k = x at *
      have cy1 := hA k hlt
      have cx2 := hA x lx
      generalize fn S k = y1 at *
      generalize fn S x = x2 at *
      have i0 : (0 : Int) ≤ (k : Int) := by omega
      have i1 : (k : Int) < (n : Int) := by omega
      have i2 : (0 : Int) ≤ (x : Int) := by omega
      have i3 : (x : Int) < (n : Int) := by omega
      have K := Lib.hid (And.intro B kwr)
      clear hA hB B kwr
      cases hy : (((y1 : Nat) : Int) == ((k : Nat) : Int)) with
      | true =>
        rw [if_pos (nat_eqT hy)] at HY
        cases hz : (((x2 : Nat) : Int) == ((k : Nat) : Int)) with
        | true =>
          rw [if_pos (nat_eqT hz)] at HZ
          go_wp2_with fail
          go_quiet (fail)
          go_wp2
          go_roundw
          case rel => exact ⟨k + 1, by omega, by go_num, by rw [HY.out]; go_num, by rw [HZ.out]; go_num, Blk.drewN K.out.1, Below.drewN K.out.2⟩
          case measure => simp [intOf]; omega
        | false =>
          rw [if_neg (nat_eqF hz)] at HZ
          go_wp2_with fail
          go_quiet (fail)
          go_wp2
          go_roundw
          case rel => exact ⟨k + 1, by omega, by go_num, by rw [HY.out]; go_num, by rw [HZ.out]; go_num, Blk.drewN K.out.1, Below.drewN K.out.2⟩
          case measure => simp [intOf]; omega
      | false =>
        rw [if_neg (nat_eqF hy)] at HY
        cases hz : (((x2 : Nat) : Int) == ((k : Nat) : Int)) with
        | true =>
          rw [if_pos (nat_eqT hz)] at HZ
          go_wp2_with fail
          go_quiet (fail)
          go_wp2
          go_roundw
          case rel => exact ⟨k + 1, by omega, by go_num, by rw [HY.out]; go_num, by rw [HZ.out]; go_num, Blk.drewN K.out.1, Below.drewN K.out.2⟩
          case measure => simp [intOf]; omega
        | false =>
          rw [if_neg (nat_eqF hz)] at HZ
          go_wp2_with fail
          go_quiet (fail)
          go_wp2
          go_roundw
          case rel => exact ⟨k + 1, by omega, by go_num, by rw [HY.out]; go_num, by rw [HZ.out]; go_num, Blk.drewN K.out.1, Below.drewN K.out.2⟩
          case measure => simp [intOf]; omega
    · obtain rfl : k = n := by omega
      go_wp2
      go_ret2
      exact ⟨rfl, kwr⟩

def kept3 (S T : List Int) : Int × Int × Int := if isA S T then ((keepS S S.length : Int), (keepT S T S.length : Int), 0) else (0, 0, 1)

set_option maxHeartbeats 1000000 in
theorem KeptPoints_any (s t : Value) (S T : List Int) (w : World) (h : SlIn w .i64 s S ∧ SlIn w .i64 t T) (hl : S.length ≤ 1048576 ∧ T.length ≤ 1048576) :
    Calls Try.prog 22 #[.agg #[s, t]] w fun e w' => e = .returned (.tuple #[.int .i64 (kept3 S T).1, .int .i64 (kept3 S T).2.1, .int .i64 (kept3 S T).2.2]) ∧ Below w.heap.size w w' := by
  have HI := Lib.hid h
  have HL := Lib.hid hl
  obtain ⟨sa, sc, hsa, _⟩ := h.1.form
  obtain ⟨ta, tc, hta, _⟩ := h.2.form
  subst hsa hta
  clear h hl
  cases hq : isA S T with
  | false =>
    have HF := Lib.hid (show kept3 S T = (0, 0, 1) by unfold kept3; rw [hq]; rfl)
    go_enter Try.func22, Try.ntmps22
    go_wp2_with fail
    refine (IsAction_any _ _ S T _ ⟨HI.out.1.below (by repeat (first | (with_reducible exact Below.refl _ _) | (with_reducible assumption) | (with_reducible refine Below.drew ?_) | (with_reducible refine Below.drewN ?_) | ((with_reducible refine Below.al ?_ ?_); · first | omega | (simp; done) | (simp; omega)) | ((with_reducible refine Below.sc ?_ ?_); · first | omega | (simp; done) | (simp; omega)) | ((with_reducible refine Below.thru hb ?_ ?_); · first | omega | (simp; done) | (simp; omega)))), HI.out.2.below (by repeat (first | (with_reducible exact Below.refl _ _) | (with_reducible assumption) | (with_reducible refine Below.drew ?_) | (with_reducible refine Below.drewN ?_) | ((with_reducible refine Below.al ?_ ?_); · first | omega | (simp; done) | (simp; omega)) | ((with_reducible refine Below.sc ?_ ?_); · first | omega | (simp; done) | (simp; omega)) | ((with_reducible refine Below.thru hb ?_ ?_); · first | omega | (simp; done) | (simp; omega))))⟩ HL.out).mono ?_
    rw [hq]
    clear hq
    rintro e w1 ⟨rfl, hb⟩
    have kw1 : Below w.heap.size w w1 := (by repeat (first | (with_reducible exact Below.refl _ _) | (with_reducible assumption) | (with_reducible refine Below.drew ?_) | (with_reducible refine Below.drewN ?_) | ((with_reducible refine Below.al ?_ ?_); · first | omega | (simp; done) | (simp; omega)) | ((with_reducible refine Below.sc ?_ ?_); · first | omega | (simp; done) | (simp; omega)) | ((with_reducible refine Below.thru hb ?_ ?_); · first | omega | (simp; done) | (simp; omega))))
    clear hb
    go_wp2
    go_ret3
    exact ⟨by rw [HF.out]; rfl, kw1⟩
  | true =>
    have HP := Lib.hid (isA_spec hq)
    have HF := Lib.hid (show kept3 S T = ((keepS S S.length : Int), (keepT S T S.length : Int), 0) by unfold kept3; rw [hq]; rfl)
    go_enter Try.func22, Try.ntmps22
    go_wp2_with fail
    refine (IsAction_any _ _ S T _ ⟨HI.out.1.below (by repeat (first | (with_reducible exact Below.refl _ _) | (with_reducible assumption) | (with_reducible refine Below.drew ?_) | (with_reducible refine Below.drewN ?_) | ((with_reducible refine Below.al ?_ ?_); · first | omega | (simp; done) | (simp; omega)) | ((with_reducible refine Below.sc ?_ ?_); · first | omega | (simp; done) | (simp; omega)) | ((with_reducible refine Below.thru hb ?_ ?_); · first | omega | (simp; done) | (simp; omega)))), HI.out.2.below (by repeat (first | (with_reducible exact Below.refl _ _) | (with_reducible assumption) | (with_reducible refine Below.drew ?_) | (with_reducible refine Below.drewN ?_) | ((with_reducible refine Below.al ?_ ?_); · first | omega | (simp; done) | (simp; omega)) | ((with_reducible refine Below.sc ?_ ?_); · first | omega | (simp; done) | (simp; omega)) | ((with_reducible refine Below.thru hb ?_ ?_); · first | omega | (simp; done) | (simp; omega))))⟩ HL.out).mono ?_
    rw [hq]
    clear hq
    rintro e w1 ⟨rfl, hb⟩
    have B1 : Blk w1 w.heap.size 27 #[.slice sa S.length sc, .slice ta T.length tc] := (by repeat (first | (with_reducible assumption) | ((with_reducible refine Blk.new ?_); · first | omega | (simp; done) | (simp; omega)) | (with_reducible apply Blk.set4) | (with_reducible apply Blk.set3) | (with_reducible apply Blk.set2) | ((with_reducible refine Blk.put ?_ ?_); · first | omega | (simp; omega)) | (with_reducible refine Blk.old ?_) | (with_reducible refine Blk.drew ?_) | (with_reducible refine Blk.drewN ?_) | ((with_reducible refine Blk.below hb ?_ ?_); · first | omega | (simp; done) | (simp; omega))))
    have kw1 : Below w.heap.size w w1 := (by repeat (first | (with_reducible exact Below.refl _ _) | (with_reducible assumption) | (with_reducible refine Below.drew ?_) | (with_reducible refine Below.drewN ?_) | ((with_reducible refine Below.al ?_ ?_); · first | omega | (simp; done) | (simp; omega)) | ((with_reducible refine Below.sc ?_ ?_); · first | omega | (simp; done) | (simp; omega)) | ((with_reducible refine Below.thru hb ?_ ?_); · first | omega | (simp; done) | (simp; omega))))
    have b1 := B1.p2
    have sw1 := kw1.size
    clear hb
    go_wp2_with fail
    refine (keptPoints_any _ _ S T S.length _ ⟨HI.out.1.below kw1, HI.out.2.below kw1⟩ HP.out.2.1 HP.out.2.2.1 HP.out.1.1 HP.out.1.2).mono ?_
    rintro e w2 ⟨rfl, hb⟩
    have kw2 : Below w.heap.size w w2 := (by repeat (first | (with_reducible exact Below.refl _ _) | (with_reducible assumption) | (with_reducible refine Below.drew ?_) | (with_reducible refine Below.drewN ?_) | ((with_reducible refine Below.al ?_ ?_); · first | omega | (simp; done) | (simp; omega)) | ((with_reducible refine Below.sc ?_ ?_); · first | omega | (simp; done) | (simp; omega)) | ((with_reducible refine Below.thru hb ?_ ?_); · first | omega | (simp; done) | (simp; omega))))
    clear hb
    go_wp2
    go_ret3
    exact ⟨by rw [HF.out]; rfl, kw2⟩

set_option maxHeartbeats 1000000 in
theorem specKeptPoints_any (s t : Value) (S T : List Int) (w : World) (h : SlIn w .i64 s S ∧ SlIn w .i64 t T) (hl : S.length ≤ 1048576 ∧ T.length ≤ 1048576) :
    Calls Try.prog 21 #[.agg #[s, t]] w fun e w' => e = .returned (.tuple #[.int .i64 (kept3 S T).1, .int .i64 (kept3 S T).2.1, .int .i64 (kept3 S T).2.2]) ∧ Below w.heap.size w w' := by
  have HI := Lib.hid h
  have HL := Lib.hid hl
  obtain ⟨sa, sc, hsa, _⟩ := h.1.form
  obtain ⟨ta, tc, hta, _⟩ := h.2.form
  subst hsa hta
  clear h hl
  cases hq : isA S T with
  | false =>
    have HF := Lib.hid (show kept3 S T = (0, 0, 1) by unfold kept3; rw [hq]; rfl)
    go_enter Try.func21, Try.ntmps21
    go_wp2_with fail
    refine (l10Is_any _ _ S T _ ⟨HI.out.1.below (by repeat (first | (with_reducible exact Below.refl _ _) | (with_reducible assumption) | (with_reducible refine Below.drew ?_) | (with_reducible refine Below.drewN ?_) | ((with_reducible refine Below.al ?_ ?_); · first | omega | (simp; done) | (simp; omega)) | ((with_reducible refine Below.sc ?_ ?_); · first | omega | (simp; done) | (simp; omega)) | ((with_reducible refine Below.thru hb ?_ ?_); · first | omega | (simp; done) | (simp; omega)))), HI.out.2.below (by repeat (first | (with_reducible exact Below.refl _ _) | (with_reducible assumption) | (with_reducible refine Below.drew ?_) | (with_reducible refine Below.drewN ?_) | ((with_reducible refine Below.al ?_ ?_); · first | omega | (simp; done) | (simp; omega)) | ((with_reducible refine Below.sc ?_ ?_); · first | omega | (simp; done) | (simp; omega)) | ((with_reducible refine Below.thru hb ?_ ?_); · first | omega | (simp; done) | (simp; omega))))⟩ HL.out).mono ?_
    rw [hq]
    clear hq
    rintro e w1 ⟨rfl, hb⟩
    have kw1 : Below w.heap.size w w1 := (by repeat (first | (with_reducible exact Below.refl _ _) | (with_reducible assumption) | (with_reducible refine Below.drew ?_) | (with_reducible refine Below.drewN ?_) | ((with_reducible refine Below.al ?_ ?_); · first | omega | (simp; done) | (simp; omega)) | ((with_reducible refine Below.sc ?_ ?_); · first | omega | (simp; done) | (simp; omega)) | ((with_reducible refine Below.thru hb ?_ ?_); · first | omega | (simp; done) | (simp; omega))))
    clear hb
    go_wp2
    go_ret3
    exact ⟨by rw [HF.out]; rfl, kw1⟩
  | true =>
    have HP := Lib.hid (isA_spec hq)
    have HF := Lib.hid (show kept3 S T = ((keepS S S.length : Int), (keepT S T S.length : Int), 0) by unfold kept3; rw [hq]; rfl)
    go_enter Try.func21, Try.ntmps21
    go_wp2_with fail
    refine (l10Is_any _ _ S T _ ⟨HI.out.1.below (by repeat (first | (with_reducible exact Below.refl _ _) | (with_reducible assumption) | (with_reducible refine Below.drew ?_) | (with_reducible refine Below.drewN ?_) | ((with_reducible refine Below.al ?_ ?_); · first | omega | (simp; done) | (simp; omega)) | ((with_reducible refine Below.sc ?_ ?_); · first | omega | (simp; done) | (simp; omega)) | ((with_reducible refine Below.thru hb ?_ ?_); · first | omega | (simp; done) | (simp; omega)))), HI.out.2.below (by repeat (first | (with_reducible exact Below.refl _ _) | (with_reducible assumption) | (with_reducible refine Below.drew ?_) | (with_reducible refine Below.drewN ?_) | ((with_reducible refine Below.al ?_ ?_); · first | omega | (simp; done) | (simp; omega)) | ((with_reducible refine Below.sc ?_ ?_); · first | omega | (simp; done) | (simp; omega)) | ((with_reducible refine Below.thru hb ?_ ?_); · first | omega | (simp; done) | (simp; omega))))⟩ HL.out).mono ?_
    rw [hq]
    clear hq
    rintro e w1 ⟨rfl, hb⟩
    have B1 : Blk w1 w.heap.size 27 #[.slice sa S.length sc, .slice ta T.length tc] := (by repeat (first | (with_reducible assumption) | ((with_reducible refine Blk.new ?_); · first | omega | (simp; done) | (simp; omega)) | (with_reducible apply Blk.set4) | (with_reducible apply Blk.set3) | (with_reducible apply Blk.set2) | ((with_reducible refine Blk.put ?_ ?_); · first | omega | (simp; omega)) | (with_reducible refine Blk.old ?_) | (with_reducible refine Blk.drew ?_) | (with_reducible refine Blk.drewN ?_) | ((with_reducible refine Blk.below hb ?_ ?_); · first | omega | (simp; done) | (simp; omega))))
    have kw1 : Below w.heap.size w w1 := (by repeat (first | (with_reducible exact Below.refl _ _) | (with_reducible assumption) | (with_reducible refine Below.drew ?_) | (with_reducible refine Below.drewN ?_) | ((with_reducible refine Below.al ?_ ?_); · first | omega | (simp; done) | (simp; omega)) | ((with_reducible refine Below.sc ?_ ?_); · first | omega | (simp; done) | (simp; omega)) | ((with_reducible refine Below.thru hb ?_ ?_); · first | omega | (simp; done) | (simp; omega))))
    have b1 := B1.p2
    have sw1 := kw1.size
    clear hb
    go_wp2_with fail
    refine (l10Kept_any _ _ S T S.length _ ⟨HI.out.1.below kw1, HI.out.2.below kw1⟩ HP.out.2.1 HP.out.2.2.1 HP.out.1.1 HP.out.1.2).mono ?_
    rintro e w2 ⟨rfl, hb⟩
    have kw2 : Below w.heap.size w w2 := (by repeat (first | (with_reducible exact Below.refl _ _) | (with_reducible assumption) | (with_reducible refine Below.drew ?_) | (with_reducible refine Below.drewN ?_) | ((with_reducible refine Below.al ?_ ?_); · first | omega | (simp; done) | (simp; omega)) | ((with_reducible refine Below.sc ?_ ?_); · first | omega | (simp; done) | (simp; omega)) | ((with_reducible refine Below.thru hb ?_ ?_); · first | omega | (simp; done) | (simp; omega))))
    clear hb
    go_wp2
    go_ret3
    exact ⟨by rw [HF.out]; rfl, kw2⟩

end Go.Proofs.Ytamkbgodenkboaa
