/- AreConjugate: names, shifts, both walks. -/
import Derived.Test.YtfjmbpbilfhfbaaGreatCjg
namespace Go.Proofs.YtfjmbpbilfhfbaaGreat
open Go.RowKit
set_option linter.unusedSimpArgs false

/-- The names of the classes of the kind 1. -/
def nameV (p : Bool) (t : Int) : ByteArray := if t = -1 then (if p then ⟨#[86]⟩ else ⟨#[45, 85]⟩) else if t = 0 then (if p then ⟨#[83]⟩ else ⟨#[45, 83]⟩) else (if p then ⟨#[85]⟩ else ⟨#[45, 86]⟩)
theorem kind1_tr {m : M} (h : kindV m = 1) : m.tr = -1 ∨ m.tr = 0 ∨ m.tr = 1 := by
  unfold kindV at h
  split at h
  · exact absurd h (by decide)
  · split at h
    · omega
    · split at h
      · exact absurd h (by decide)
      · exact absurd h (by decide)
/-- The matrix with the trace 2, and the shift. -/
def shP (m : M) : M := if m.tr < 0 then m.neg else m
def shK (p : M) : Nat := Int.gcd (Int.gcd (p.a - 1) p.b) p.c
theorem shK_two (p : M) : Int.gcd (Int.gcd p.b p.c) (p.a - 1) = shK p := by
  unfold shK
  rw [Int.gcd_comm, ← Int.gcd_assoc]
def shiftV (m : M) : Int := if (shP m).b < 0 ∨ ((shP m).b = 0 ∧ 0 < (shP m).c) then -(shK (shP m) : Int) else shK (shP m)
theorem sh_sign {p : M} (h : p.det = 1) (ht : p.tr = 2) : (p.b < 0 ∨ 0 < p.c) ↔ (p.b < 0 ∨ (p.b = 0 ∧ 0 < p.c)) := by
  obtain ⟨a, b, c, d⟩ := p
  unfold M.det M.tr at *
  simp only at *
  constructor
  · rintro (h1 | h1)
    · exact .inl h1
    · by_cases hb : b < 0
      · exact .inl hb
      · refine .inr ⟨?_, h1⟩
        by_cases hb0 : b = 0
        · exact hb0
        · exfalso
          obtain rfl : d = 2 - a := by omega
          have h2 : 0 < b * c := Int.mul_pos (by omega) h1
          have h3 : a * (2 - a) = 1 - (a - 1) * (a - 1) := by grind
          have h4 : 0 ≤ (a - 1) * (a - 1) := by
            rcases Int.le_total 0 (a - 1) with h | h
            · exact Int.mul_nonneg h h
            · exact Int.mul_nonneg_of_nonpos_of_nonpos h h
          omega
  · rintro (h1 | ⟨-, h1⟩)
    · exact .inl h1
    · exact .inr h1
theorem shP_tr {m : M} (h : kindV m = 2) : (shP m).tr = 2 := by
  have ht : m.tr.natAbs = 2 := by
    unfold kindV at h
    split at h
    · exact absurd h (by decide)
    · split at h
      · exact absurd h (by decide)
      · split at h
        · assumption
        · exact absurd h (by decide)
  unfold shP
  split
  · simp only [M.tr] at *
    omega
  · omega
theorem shP_det {m : M} (h : m.det = 1) : (shP m).det = 1 := by
  unfold shP
  split
  · simp only [M.det] at *
    rw [Int.neg_mul_neg, Int.neg_mul_neg]
    exact h
  · exact h
theorem shP_bd {m : M} (h : m.ok = true) : (-1000000000 ≤ (shP m).a ∧ (shP m).a ≤ 1000000000) ∧ (-1000000000 ≤ (shP m).b ∧ (shP m).b ≤ 1000000000) ∧ (-1000000000 ≤ (shP m).c ∧ (shP m).c ≤ 1000000000) ∧ (-1000000000 ≤ (shP m).d ∧ (shP m).d ≤ 1000000000) := by
  have hb := M.ents_bd (M.ok_ents h)
  unfold shP
  split
  · simp only
    omega
  · exact hb
theorem kind0_eq {m n : M} (hm : m.ok = true) (hn : n.ok = true) (km : kindV m = 0) (kn : kindV n = 0) (ht : m.tr = n.tr) : m = n := by
  have h0 : ∀ {p : M}, p.ok = true → kindV p = 0 → p = M.one ∨ p = M.one.neg := fun {p} hp hk => by
    refine (ok_unit hp).2 ?_
    unfold kindV at hk
    split at hk
    · assumption
    · split at hk
      · exact absurd hk (by decide)
      · split at hk
        · exact absurd hk (by decide)
        · exact absurd hk (by decide)
  rcases h0 hm km with rfl | rfl <;> rcases h0 hn kn with rfl | rfl <;> first | rfl | (exfalso; revert ht; decide)

set_option maxRecDepth 8000 in
set_option maxHeartbeats 2000000 in
theorem ellipticName_any (m : M) (hk : kindV m = 1) (h : m.ok = true) (w : World) :
    Calls Tryz.prog 28 #[mv m] w fun e w' => e = .returned (.string (nameV (decide (0 < m.c)) m.tr)) ∧ Below w.heap.size w w' := by
  have ht := kind1_tr hk
  obtain ⟨⟨h1, h2⟩, h3, h4⟩ := M.ents_true (M.ok_ents h)
  have HT := Lib.hid (fun W => trace_any m W h1 h4)
  clear h hk h1 h2 h3 h4
  by_cases hc : 0 < m.c
  · have HD := Lib.hid (show decide (0 < m.c) = true from decide_eq_true hc)
    go_enter Tryz.func28, Tryz.ntmps28
    rw [HD.out]
    go_wp2_with fail
    refine (HT.out _).mono ?_
    rintro e w1 ⟨rfl, hb⟩
    have k1 : Below w.heap.size w w1 := (by repeat (first | (with_reducible exact Below.refl _ _) | (with_reducible assumption) | (with_reducible refine Below.drew ?_) | (with_reducible refine Below.drewN ?_) | ((with_reducible refine Below.al ?_ ?_); · first | omega | (simp; done) | (simp; omega)) | ((with_reducible refine Below.sc ?_ ?_); · first | omega | (simp; done) | (simp; omega)) | ((with_reducible refine Below.thru hb ?_ ?_); · first | omega | (simp; done) | (simp; omega))))
    have B1 : Blk w1 (w.heap.size + 1) 51 #[.string ⟨#[86]⟩, .string ⟨#[45, 85]⟩, .string ⟨#[83]⟩, .string ⟨#[45, 83]⟩, .string ⟨#[85]⟩, .string ⟨#[45, 86]⟩] := (by repeat (first | (with_reducible assumption) | ((with_reducible refine Blk.new ?_); · first | omega | (simp; done) | (simp; omega)) | (with_reducible apply Blk.set4) | (with_reducible apply Blk.set3) | (with_reducible apply Blk.set2) | ((with_reducible refine Blk.put ?_ ?_); · first | omega | (simp; omega)) | (with_reducible refine Blk.old ?_) | (with_reducible refine Blk.drew ?_) | (with_reducible refine Blk.drewN ?_) | ((with_reducible refine Blk.below hb ?_ ?_); · first | omega | (simp; done) | (simp; omega))))
    have c0 := B1.at (i := 0) rfl
    have c1 := B1.at (i := 1) rfl
    have c2 := B1.at (i := 2) rfl
    have c3 := B1.at (i := 3) rfl
    have c4 := B1.at (i := 4) rfl
    have c5 := B1.at (i := 5) rfl
    clear hb B1
    rcases ht with e | e | e
    · have HF := Lib.hid (show nameV true m.tr = ⟨#[86]⟩ by rw [e]; rfl)
      rw [e]
      clear e HT
      go_wp2
      go_ret
      exact ⟨by rw [HF.out]; rfl, k1⟩
    · have HF := Lib.hid (show nameV true m.tr = ⟨#[83]⟩ by rw [e]; rfl)
      rw [e]
      clear e HT
      go_wp2
      go_ret
      exact ⟨by rw [HF.out]; rfl, k1⟩
    · have HF := Lib.hid (show nameV true m.tr = ⟨#[85]⟩ by rw [e]; rfl)
      rw [e]
      clear e HT
      go_wp2
      go_ret
      exact ⟨by rw [HF.out]; rfl, k1⟩
  · have HD := Lib.hid (show decide (0 < m.c) = false from decide_eq_false hc)
    go_enter Tryz.func28, Tryz.ntmps28
    rw [HD.out]
    go_wp2_with fail
    refine (HT.out _).mono ?_
    rintro e w1 ⟨rfl, hb⟩
    have k1 : Below w.heap.size w w1 := (by repeat (first | (with_reducible exact Below.refl _ _) | (with_reducible assumption) | (with_reducible refine Below.drew ?_) | (with_reducible refine Below.drewN ?_) | ((with_reducible refine Below.al ?_ ?_); · first | omega | (simp; done) | (simp; omega)) | ((with_reducible refine Below.sc ?_ ?_); · first | omega | (simp; done) | (simp; omega)) | ((with_reducible refine Below.thru hb ?_ ?_); · first | omega | (simp; done) | (simp; omega))))
    have B1 : Blk w1 (w.heap.size + 1) 51 #[.string ⟨#[86]⟩, .string ⟨#[45, 85]⟩, .string ⟨#[83]⟩, .string ⟨#[45, 83]⟩, .string ⟨#[85]⟩, .string ⟨#[45, 86]⟩] := (by repeat (first | (with_reducible assumption) | ((with_reducible refine Blk.new ?_); · first | omega | (simp; done) | (simp; omega)) | (with_reducible apply Blk.set4) | (with_reducible apply Blk.set3) | (with_reducible apply Blk.set2) | ((with_reducible refine Blk.put ?_ ?_); · first | omega | (simp; omega)) | (with_reducible refine Blk.old ?_) | (with_reducible refine Blk.drew ?_) | (with_reducible refine Blk.drewN ?_) | ((with_reducible refine Blk.below hb ?_ ?_); · first | omega | (simp; done) | (simp; omega))))
    have c0 := B1.at (i := 0) rfl
    have c1 := B1.at (i := 1) rfl
    have c2 := B1.at (i := 2) rfl
    have c3 := B1.at (i := 3) rfl
    have c4 := B1.at (i := 4) rfl
    have c5 := B1.at (i := 5) rfl
    clear hb B1
    rcases ht with e | e | e
    · have HF := Lib.hid (show nameV false m.tr = ⟨#[45, 85]⟩ by rw [e]; rfl)
      rw [e]
      clear e HT
      go_wp2
      go_ret
      exact ⟨by rw [HF.out]; rfl, k1⟩
    · have HF := Lib.hid (show nameV false m.tr = ⟨#[45, 83]⟩ by rw [e]; rfl)
      rw [e]
      clear e HT
      go_wp2
      go_ret
      exact ⟨by rw [HF.out]; rfl, k1⟩
    · have HF := Lib.hid (show nameV false m.tr = ⟨#[45, 86]⟩ by rw [e]; rfl)
      rw [e]
      clear e HT
      go_wp2
      go_ret
      exact ⟨by rw [HF.out]; rfl, k1⟩
set_option maxRecDepth 8000 in
set_option maxHeartbeats 2000000 in
theorem l04Name_any (m : M) (hk : kindV m = 1) (h : m.ok = true) (w : World) :
    Calls Tryz.prog 41 #[mv m] w fun e w' => e = .returned (.string (nameV (decide (0 < m.c)) m.tr)) ∧ Below w.heap.size w w' := by
  have ht := kind1_tr hk
  obtain ⟨⟨h1, h2⟩, h3, h4⟩ := M.ents_true (M.ok_ents h)
  have HT := Lib.hid (fun W => l01Trace_any m W h1 h4)
  clear h hk h1 h2 h3 h4
  by_cases hc : 0 < m.c
  · have HD := Lib.hid (show decide (0 < m.c) = true from decide_eq_true hc)
    go_enter Tryz.func41, Tryz.ntmps41
    rw [HD.out]
    go_wp2_with fail
    refine (HT.out _).mono ?_
    rintro e w1 ⟨rfl, hb⟩
    have k1 : Below w.heap.size w w1 := (by repeat (first | (with_reducible exact Below.refl _ _) | (with_reducible assumption) | (with_reducible refine Below.drew ?_) | (with_reducible refine Below.drewN ?_) | ((with_reducible refine Below.al ?_ ?_); · first | omega | (simp; done) | (simp; omega)) | ((with_reducible refine Below.sc ?_ ?_); · first | omega | (simp; done) | (simp; omega)) | ((with_reducible refine Below.thru hb ?_ ?_); · first | omega | (simp; done) | (simp; omega))))
    have B1 : Blk w1 (w.heap.size + 1 + 1) 9 #[.string ⟨#[86]⟩, .string ⟨#[83]⟩, .string ⟨#[85]⟩] := (by repeat (first | (with_reducible assumption) | ((with_reducible refine Blk.new ?_); · first | omega | (simp; done) | (simp; omega)) | (with_reducible apply Blk.set4) | (with_reducible apply Blk.set3) | (with_reducible apply Blk.set2) | ((with_reducible refine Blk.put ?_ ?_); · first | omega | (simp; omega)) | (with_reducible refine Blk.old ?_) | (with_reducible refine Blk.drew ?_) | (with_reducible refine Blk.drewN ?_) | ((with_reducible refine Blk.below hb ?_ ?_); · first | omega | (simp; done) | (simp; omega))))
    have c0 := B1.at (i := 0) rfl
    have c1 := B1.at (i := 1) rfl
    have c2 := B1.at (i := 2) rfl
    clear hb B1
    rcases ht with e | e | e
    · have HF := Lib.hid (show nameV true m.tr = ⟨#[86]⟩ by rw [e]; rfl)
      rw [e]
      clear e HT
      go_wp2
      go_ret
      exact ⟨by rw [HF.out]; rfl, k1⟩
    · have HF := Lib.hid (show nameV true m.tr = ⟨#[83]⟩ by rw [e]; rfl)
      rw [e]
      clear e HT
      go_wp2
      go_ret
      exact ⟨by rw [HF.out]; rfl, k1⟩
    · have HF := Lib.hid (show nameV true m.tr = ⟨#[85]⟩ by rw [e]; rfl)
      rw [e]
      clear e HT
      go_wp2
      go_ret
      exact ⟨by rw [HF.out]; rfl, k1⟩
  · have HD := Lib.hid (show decide (0 < m.c) = false from decide_eq_false hc)
    go_enter Tryz.func41, Tryz.ntmps41
    rw [HD.out]
    go_wp2_with fail
    refine (HT.out _).mono ?_
    rintro e w1 ⟨rfl, hb⟩
    have k1 : Below w.heap.size w w1 := (by repeat (first | (with_reducible exact Below.refl _ _) | (with_reducible assumption) | (with_reducible refine Below.drew ?_) | (with_reducible refine Below.drewN ?_) | ((with_reducible refine Below.al ?_ ?_); · first | omega | (simp; done) | (simp; omega)) | ((with_reducible refine Below.sc ?_ ?_); · first | omega | (simp; done) | (simp; omega)) | ((with_reducible refine Below.thru hb ?_ ?_); · first | omega | (simp; done) | (simp; omega))))
    have B1 : Blk w1 (w.heap.size + 1) 9 #[.string ⟨#[45, 85]⟩, .string ⟨#[45, 83]⟩, .string ⟨#[45, 86]⟩] := (by repeat (first | (with_reducible assumption) | ((with_reducible refine Blk.new ?_); · first | omega | (simp; done) | (simp; omega)) | (with_reducible apply Blk.set4) | (with_reducible apply Blk.set3) | (with_reducible apply Blk.set2) | ((with_reducible refine Blk.put ?_ ?_); · first | omega | (simp; omega)) | (with_reducible refine Blk.old ?_) | (with_reducible refine Blk.drew ?_) | (with_reducible refine Blk.drewN ?_) | ((with_reducible refine Blk.below hb ?_ ?_); · first | omega | (simp; done) | (simp; omega))))
    have c0 := B1.at (i := 0) rfl
    have c1 := B1.at (i := 1) rfl
    have c2 := B1.at (i := 2) rfl
    clear hb B1
    rcases ht with e | e | e
    · have HF := Lib.hid (show nameV false m.tr = ⟨#[45, 85]⟩ by rw [e]; rfl)
      rw [e]
      clear e HT
      go_wp2
      go_ret
      exact ⟨by rw [HF.out]; rfl, k1⟩
    · have HF := Lib.hid (show nameV false m.tr = ⟨#[45, 83]⟩ by rw [e]; rfl)
      rw [e]
      clear e HT
      go_wp2
      go_ret
      exact ⟨by rw [HF.out]; rfl, k1⟩
    · have HF := Lib.hid (show nameV false m.tr = ⟨#[45, 86]⟩ by rw [e]; rfl)
      rw [e]
      clear e HT
      go_wp2
      go_ret
      exact ⟨by rw [HF.out]; rfl, k1⟩
set_option maxRecDepth 8000 in
set_option maxHeartbeats 2000000 in
theorem parabolicShift_any (m : M) (hk : kindV m = 2) (h : m.ok = true) (w : World) :
    Calls Tryz.prog 29 #[mv m] w fun e w' => e = .returned (.int .i64 (shiftV m)) ∧ Below w.heap.size w w' := by
  obtain ⟨⟨h1, h2⟩, h3, h4⟩ := M.ents_true (M.ok_ents h)
  have HT := Lib.hid (fun W => trace_any m W h1 h4)
  have HN := Lib.hid (fun W => negative_any m W (M.ok_ents h))
  have hbd := shP_bd h
  have HSS := Lib.hid (sh_sign (shP_det (M.ok_det h)) (shP_tr hk))
  have HK2 := Lib.hid (shK_two (shP m))
  have HPN := Lib.hid (fun (ht : m.tr < 0) => show shP m = m.neg by unfold shP; rw [if_pos ht])
  have HPP := Lib.hid (fun (ht : ¬ m.tr < 0) => show shP m = m by unfold shP; rw [if_neg ht])
  have HSV := Lib.hid (show shiftV m = if (shP m).b < 0 ∨ ((shP m).b = 0 ∧ 0 < (shP m).c) then -(shK (shP m) : Int) else shK (shP m) from rfl)
  have HKD := Lib.hid (show shK (shP m) = Int.gcd (Int.gcd ((shP m).a - 1) (shP m).b) (shP m).c from rfl)
  have hkb : shK (shP m) ≤ 4000000000 := by
    unfold shK
    rcases Nat.eq_zero_or_pos (Int.gcd (Int.gcd ((shP m).a - 1) (shP m).b) (shP m).c) with e | e
    · omega
    · by_cases hc : (shP m).c = 0
      · rw [hc, Int.gcd_zero_right]
        by_cases hb : (shP m).b = 0
        · rw [hb, Int.gcd_zero_right]; omega
        · have := Nat.le_of_dvd (by omega) (Int.gcd_dvd_natAbs_right ((shP m).a - 1) (shP m).b)
          omega
      · have := Nat.le_of_dvd (by omega) (Int.gcd_dvd_natAbs_right (Int.gcd ((shP m).a - 1) (shP m).b : Int) (shP m).c)
        omega
  clear h hk h1 h2 h3 h4
  generalize shiftV m = sv at *
  generalize shK (shP m) = sk at *
  generalize hp : shP m = p at *
  clear hp
  go_enter Tryz.func29, Tryz.ntmps29
  go_wp2_with fail
  refine (HT.out _).mono ?_
  rintro e w1 ⟨rfl, hb⟩
  have k1 : Below w.heap.size w w1 := (by repeat (first | (with_reducible exact Below.refl _ _) | (with_reducible assumption) | (with_reducible refine Below.drew ?_) | (with_reducible refine Below.drewN ?_) | ((with_reducible refine Below.al ?_ ?_); · first | omega | (simp; done) | (simp; omega)) | ((with_reducible refine Below.sc ?_ ?_); · first | omega | (simp; done) | (simp; omega)) | ((with_reducible refine Below.thru hb ?_ ?_); · first | omega | (simp; done) | (simp; omega))))
  have B1 : Blk w1 w.heap.size 25 (mcs m) := (by repeat (first | (with_reducible assumption) | ((with_reducible refine Blk.new ?_); · first | omega | (simp; done) | (simp; omega)) | (with_reducible apply Blk.set4) | (with_reducible apply Blk.set3) | (with_reducible apply Blk.set2) | ((with_reducible refine Blk.put ?_ ?_); · first | omega | (simp; omega)) | (with_reducible refine Blk.old ?_) | (with_reducible refine Blk.drew ?_) | (with_reducible refine Blk.drewN ?_) | ((with_reducible refine Blk.below hb ?_ ?_); · first | omega | (simp; done) | (simp; omega))))
  have q1 := B1.m
  have z1 := B1.mf
  have lB1 := B1.lt
  have s1 := k1.size
  clear hb
  go_upto_if 6 with fail
  go_cut [] (fun wx => Blk wx w.heap.size 25 (mcs p) ∧ Below w.heap.size w wx)
  case first =>
    by_cases ht : m.tr < 0
    · have e0 : decide (m.tr < 0) = true := decide_eq_true ht
      rw [e0]
      have HPE := Lib.hid (HPN.out (by omega))
      clear ht e0
      go_wp2_with fail
      refine (HN.out _).mono ?_
      rintro e w2 ⟨rfl, hb⟩
      have k2 : Below w.heap.size w w2 := (by repeat (first | (with_reducible exact Below.refl _ _) | (with_reducible assumption) | (with_reducible refine Below.drew ?_) | (with_reducible refine Below.drewN ?_) | ((with_reducible refine Below.al ?_ ?_); · first | omega | (simp; done) | (simp; omega)) | ((with_reducible refine Below.sc ?_ ?_); · first | omega | (simp; done) | (simp; omega)) | ((with_reducible refine Below.thru hb ?_ ?_); · first | omega | (simp; done) | (simp; omega))))
      have B2 : Blk w2 w.heap.size 25 (mcs m) := (by repeat (first | (with_reducible assumption) | ((with_reducible refine Blk.new ?_); · first | omega | (simp; done) | (simp; omega)) | (with_reducible apply Blk.set4) | (with_reducible apply Blk.set3) | (with_reducible apply Blk.set2) | ((with_reducible refine Blk.put ?_ ?_); · first | omega | (simp; omega)) | (with_reducible refine Blk.old ?_) | (with_reducible refine Blk.drew ?_) | (with_reducible refine Blk.drewN ?_) | ((with_reducible refine Blk.below hb ?_ ?_); · first | omega | (simp; done) | (simp; omega))))
      have q2 := B2.m
      have z2 := B2.mf
      clear hb
      go_wp2_with fail
      go_meet
      exact ⟨by rw [HPE.out]; exact B2.set4, (by repeat (first | (with_reducible exact Below.refl _ _) | (with_reducible assumption) | (with_reducible refine Below.drew ?_) | (with_reducible refine Below.drewN ?_) | ((with_reducible refine Below.al ?_ ?_); · first | omega | (simp; done) | (simp; omega)) | ((with_reducible refine Below.sc ?_ ?_); · first | omega | (simp; done) | (simp; omega)) | ((with_reducible refine Below.thru hb ?_ ?_); · first | omega | (simp; done) | (simp; omega))))⟩
    · have e0 : decide (m.tr < 0) = false := decide_eq_false ht
      rw [e0]
      have HPE := Lib.hid (HPP.out (by omega))
      clear ht e0
      go_wp2_with fail
      go_meet
      exact ⟨by rw [HPE.out]; exact B1, k1⟩
  case rest =>
    obtain ⟨B3, k3⟩ := hcut
    clear B1 k1 q1 z1 s1 lB1 HT HN HPN HPP
    have q3 := B3.m
    have s3 := k3.size
    have w1a : IntKind.i64.wrap (p.a - 1) = p.a - 1 := by rw [IntKind.wrap_i64]; omega
    have w1k : IntKind.i64.wrap (-(sk : Int)) = -(sk : Int) := by rw [IntKind.wrap_i64]; omega
    have c3 := B3.later4
    have lB3 := B3.lt
    go_wp2_with fail
    have hgb : Int.gcd (p.a - 1) p.b ≤ 4000000000 := by
      by_cases hb : p.b = 0
      · rw [hb, Int.gcd_zero_right]; omega
      · have := Nat.le_of_dvd (by omega) (Int.gcd_dvd_natAbs_right (p.a - 1) p.b)
        omega
    refine wp_region_calm (by kernel_rfl) (by kernel_rfl) ?_
    repeat (go_big_quiet_step (first | (go_at_call 47; with_reducible exact Calls.calm ((divisor_any (p.a - 1) p.b _ (by omega) (by omega) (by omega) (by omega)))) | (go_at_call 47; with_reducible exact Calls.calm ((divisor_any (Int.gcd (p.a - 1) p.b : Int) p.c _ (by omega) (by omega) (by omega) (by omega))))))
    refine wpQuiet_nil ?_
    rintro w4 ⟨⟨_, hb⟩, rfl⟩
    have B4 : Blk w4 (w.heap.size) 25 (mcs p) := (by repeat (first | (with_reducible assumption) | ((with_reducible refine Blk.new ?_); · first | omega | (simp; done) | (simp; omega)) | (with_reducible apply Blk.set4) | (with_reducible apply Blk.set3) | (with_reducible apply Blk.set2) | ((with_reducible refine Blk.put ?_ ?_); · first | omega | (simp; omega)) | (with_reducible refine Blk.old ?_) | (with_reducible refine Blk.drew ?_) | (with_reducible refine Blk.drewN ?_) | ((with_reducible refine Blk.below hb ?_ ?_); · first | omega | (simp; done) | (simp; omega))))
    have lB4 := B4.lt
    have k4 : Below w.heap.size w w4 := (by repeat (first | (with_reducible exact Below.refl _ _) | (with_reducible assumption) | (with_reducible refine Below.drew ?_) | (with_reducible refine Below.drewN ?_) | ((with_reducible refine Below.al ?_ ?_); · first | omega | (simp; done) | (simp; omega)) | ((with_reducible refine Below.sc ?_ ?_); · first | omega | (simp; done) | (simp; omega)) | ((with_reducible refine Below.thru hb ?_ ?_); · first | omega | (simp; done) | (simp; omega))))
    have kw4 : Below w.heap.size w w4 := (by repeat (first | (with_reducible exact Below.refl _ _) | (with_reducible assumption) | (with_reducible refine Below.drew ?_) | (with_reducible refine Below.drewN ?_) | ((with_reducible refine Below.al ?_ ?_); · first | omega | (simp; done) | (simp; omega)) | ((with_reducible refine Below.sc ?_ ?_); · first | omega | (simp; done) | (simp; omega)) | ((with_reducible refine Below.thru hb ?_ ?_); · first | omega | (simp; done) | (simp; omega))))
    have sw4 := kw4.size
    clear hb
    rw [← HKD.out]
    have q4 := B4.m
    clear B3 k3 q3 c3 lB3 HKD HK2 hgb
    by_cases hb : p.b < 0
    · have HF := Lib.hid (show sv = -(sk : Int) by rw [HSV.out, if_pos (.inl hb)])
      go_wp2
      go_ret
      exact ⟨by rw [HF.out]; rfl, k4⟩
    · by_cases hb0 : p.b = 0
      · by_cases hc : 0 < p.c
        · have HF := Lib.hid (show sv = -(sk : Int) by rw [HSV.out, if_pos (.inr ⟨hb0, hc⟩)])
          rw [hb0] at q4
          clear hb hb0
          go_wp2
          go_ret
          exact ⟨by rw [HF.out]; rfl, k4⟩
        · have HF := Lib.hid (show sv = (sk : Int) by rw [HSV.out, if_neg (fun e => by rcases e with e | e; exact hb e; exact hc e.2)])
          rw [hb0] at q4
          clear hb hb0
          go_wp2
          go_ret
          exact ⟨by rw [HF.out]; rfl, k4⟩
      · have hno : ¬ (p.b < 0 ∨ (p.b = 0 ∧ 0 < p.c)) := fun e => by rcases e with e | e; exact hb e; exact hb0 e.1
        have HF := Lib.hid (show sv = (sk : Int) by rw [HSV.out, if_neg hno])
        have hcc : ¬ 0 < p.c := fun e => hno (HSS.out.1 (.inr e))
        clear hno
        go_wp2
        go_ret
        exact ⟨by rw [HF.out]; rfl, k4⟩
set_option maxRecDepth 8000 in
set_option maxHeartbeats 2000000 in
theorem l04Shift_any (m : M) (hk : kindV m = 2) (h : m.ok = true) (w : World) :
    Calls Tryz.prog 42 #[mv m] w fun e w' => e = .returned (.int .i64 (shiftV m)) ∧ Below w.heap.size w w' := by
  obtain ⟨⟨h1, h2⟩, h3, h4⟩ := M.ents_true (M.ok_ents h)
  have HT := Lib.hid (fun W => l01Trace_any m W h1 h4)
  have HN := Lib.hid (fun W => l01Negative_any m W (M.ok_ents h))
  have hbd := shP_bd h
  have HSS := Lib.hid (sh_sign (shP_det (M.ok_det h)) (shP_tr hk))
  have HK2 := Lib.hid (shK_two (shP m))
  have HPN := Lib.hid (fun (ht : m.tr < 0) => show shP m = m.neg by unfold shP; rw [if_pos ht])
  have HPP := Lib.hid (fun (ht : ¬ m.tr < 0) => show shP m = m by unfold shP; rw [if_neg ht])
  have HSV := Lib.hid (show shiftV m = if (shP m).b < 0 ∨ ((shP m).b = 0 ∧ 0 < (shP m).c) then -(shK (shP m) : Int) else shK (shP m) from rfl)
  have HKD := Lib.hid (show shK (shP m) = Int.gcd (Int.gcd ((shP m).a - 1) (shP m).b) (shP m).c from rfl)
  have hkb : shK (shP m) ≤ 4000000000 := by
    unfold shK
    rcases Nat.eq_zero_or_pos (Int.gcd (Int.gcd ((shP m).a - 1) (shP m).b) (shP m).c) with e | e
    · omega
    · by_cases hc : (shP m).c = 0
      · rw [hc, Int.gcd_zero_right]
        by_cases hb : (shP m).b = 0
        · rw [hb, Int.gcd_zero_right]; omega
        · have := Nat.le_of_dvd (by omega) (Int.gcd_dvd_natAbs_right ((shP m).a - 1) (shP m).b)
          omega
      · have := Nat.le_of_dvd (by omega) (Int.gcd_dvd_natAbs_right (Int.gcd ((shP m).a - 1) (shP m).b : Int) (shP m).c)
        omega
  clear h hk h1 h2 h3 h4
  generalize shiftV m = sv at *
  generalize shK (shP m) = sk at *
  generalize hp : shP m = p at *
  clear hp
  go_enter Tryz.func42, Tryz.ntmps42
  go_wp2_with fail
  refine (HT.out _).mono ?_
  rintro e w1 ⟨rfl, hb⟩
  have k1 : Below w.heap.size w w1 := (by repeat (first | (with_reducible exact Below.refl _ _) | (with_reducible assumption) | (with_reducible refine Below.drew ?_) | (with_reducible refine Below.drewN ?_) | ((with_reducible refine Below.al ?_ ?_); · first | omega | (simp; done) | (simp; omega)) | ((with_reducible refine Below.sc ?_ ?_); · first | omega | (simp; done) | (simp; omega)) | ((with_reducible refine Below.thru hb ?_ ?_); · first | omega | (simp; done) | (simp; omega))))
  have B1 : Blk w1 w.heap.size 25 (mcs m) := (by repeat (first | (with_reducible assumption) | ((with_reducible refine Blk.new ?_); · first | omega | (simp; done) | (simp; omega)) | (with_reducible apply Blk.set4) | (with_reducible apply Blk.set3) | (with_reducible apply Blk.set2) | ((with_reducible refine Blk.put ?_ ?_); · first | omega | (simp; omega)) | (with_reducible refine Blk.old ?_) | (with_reducible refine Blk.drew ?_) | (with_reducible refine Blk.drewN ?_) | ((with_reducible refine Blk.below hb ?_ ?_); · first | omega | (simp; done) | (simp; omega))))
  have q1 := B1.m
  have z1 := B1.mf
  have lB1 := B1.lt
  have s1 := k1.size
  clear hb
  go_upto_if 6 with fail
  go_cut [] (fun wx => Blk wx w.heap.size 25 (mcs p) ∧ Below w.heap.size w wx)
  case first =>
    by_cases ht : m.tr < 0
    · have e0 : decide (m.tr < 0) = true := decide_eq_true ht
      rw [e0]
      have HPE := Lib.hid (HPN.out (by omega))
      clear ht e0
      go_wp2_with fail
      refine (HN.out _).mono ?_
      rintro e w2 ⟨rfl, hb⟩
      have k2 : Below w.heap.size w w2 := (by repeat (first | (with_reducible exact Below.refl _ _) | (with_reducible assumption) | (with_reducible refine Below.drew ?_) | (with_reducible refine Below.drewN ?_) | ((with_reducible refine Below.al ?_ ?_); · first | omega | (simp; done) | (simp; omega)) | ((with_reducible refine Below.sc ?_ ?_); · first | omega | (simp; done) | (simp; omega)) | ((with_reducible refine Below.thru hb ?_ ?_); · first | omega | (simp; done) | (simp; omega))))
      have B2 : Blk w2 w.heap.size 25 (mcs m) := (by repeat (first | (with_reducible assumption) | ((with_reducible refine Blk.new ?_); · first | omega | (simp; done) | (simp; omega)) | (with_reducible apply Blk.set4) | (with_reducible apply Blk.set3) | (with_reducible apply Blk.set2) | ((with_reducible refine Blk.put ?_ ?_); · first | omega | (simp; omega)) | (with_reducible refine Blk.old ?_) | (with_reducible refine Blk.drew ?_) | (with_reducible refine Blk.drewN ?_) | ((with_reducible refine Blk.below hb ?_ ?_); · first | omega | (simp; done) | (simp; omega))))
      have q2 := B2.m
      have z2 := B2.mf
      clear hb
      go_wp2_with fail
      go_meet
      exact ⟨by rw [HPE.out]; exact B2.set4, (by repeat (first | (with_reducible exact Below.refl _ _) | (with_reducible assumption) | (with_reducible refine Below.drew ?_) | (with_reducible refine Below.drewN ?_) | ((with_reducible refine Below.al ?_ ?_); · first | omega | (simp; done) | (simp; omega)) | ((with_reducible refine Below.sc ?_ ?_); · first | omega | (simp; done) | (simp; omega)) | ((with_reducible refine Below.thru hb ?_ ?_); · first | omega | (simp; done) | (simp; omega))))⟩
    · have e0 : decide (m.tr < 0) = false := decide_eq_false ht
      rw [e0]
      have HPE := Lib.hid (HPP.out (by omega))
      clear ht e0
      go_wp2_with fail
      go_meet
      exact ⟨by rw [HPE.out]; exact B1, k1⟩
  case rest =>
    obtain ⟨B3, k3⟩ := hcut
    clear B1 k1 q1 z1 s1 lB1 HT HN HPN HPP
    have q3 := B3.m
    have s3 := k3.size
    have w1a : IntKind.i64.wrap (p.a - 1) = p.a - 1 := by rw [IntKind.wrap_i64]; omega
    have w1k : IntKind.i64.wrap (-(sk : Int)) = -(sk : Int) := by rw [IntKind.wrap_i64]; omega
    have c3 := B3.later4
    have lB3 := B3.lt
    go_wp2_with fail
    have hgb : Int.gcd p.b p.c ≤ 4000000000 := by
      by_cases hb : p.c = 0
      · rw [hb, Int.gcd_zero_right]; omega
      · have := Nat.le_of_dvd (by omega) (Int.gcd_dvd_natAbs_right p.b p.c)
        omega
    refine wp_region_calm (by kernel_rfl) (by kernel_rfl) ?_
    repeat (go_big_quiet_step (first | (go_at_call 54; with_reducible exact Calls.calm_same ((l01Gcd_any p.b p.c _ (by omega) (by omega) (by omega) (by omega)))) | (go_at_call 54; with_reducible exact Calls.calm_same ((l01Gcd_any (Int.gcd p.b p.c : Int) (p.a - 1) _ (by omega) (by omega) (by omega) (by omega))))))
    refine wpQuiet_nil ?_
    rintro w4 ⟨⟨_, hb⟩, rfl⟩
    have B4 : Blk w4 (w.heap.size) 25 (mcs p) := (by repeat (first | (with_reducible assumption) | ((with_reducible refine Blk.new ?_); · first | omega | (simp; done) | (simp; omega)) | (with_reducible apply Blk.set4) | (with_reducible apply Blk.set3) | (with_reducible apply Blk.set2) | ((with_reducible refine Blk.put ?_ ?_); · first | omega | (simp; omega)) | (with_reducible refine Blk.old ?_) | (with_reducible refine Blk.drew ?_) | (with_reducible refine Blk.drewN ?_) | ((with_reducible refine Blk.below hb ?_ ?_); · first | omega | (simp; done) | (simp; omega))))
    have lB4 := B4.lt
    have k4 : Below w.heap.size w w4 := (by repeat (first | (with_reducible exact Below.refl _ _) | (with_reducible assumption) | (with_reducible refine Below.drew ?_) | (with_reducible refine Below.drewN ?_) | ((with_reducible refine Below.al ?_ ?_); · first | omega | (simp; done) | (simp; omega)) | ((with_reducible refine Below.sc ?_ ?_); · first | omega | (simp; done) | (simp; omega)) | ((with_reducible refine Below.thru hb ?_ ?_); · first | omega | (simp; done) | (simp; omega))))
    have kw4 : Below w.heap.size w w4 := (by repeat (first | (with_reducible exact Below.refl _ _) | (with_reducible assumption) | (with_reducible refine Below.drew ?_) | (with_reducible refine Below.drewN ?_) | ((with_reducible refine Below.al ?_ ?_); · first | omega | (simp; done) | (simp; omega)) | ((with_reducible refine Below.sc ?_ ?_); · first | omega | (simp; done) | (simp; omega)) | ((with_reducible refine Below.thru hb ?_ ?_); · first | omega | (simp; done) | (simp; omega))))
    have sw4 := kw4.size
    clear hb
    rw [HK2.out]
    have q4 := B4.m
    clear B3 k3 q3 c3 lB3 HKD HK2 hgb
    by_cases hb : p.b < 0
    · have HF := Lib.hid (show sv = -(sk : Int) by rw [HSV.out, if_pos (.inl hb)])
      go_wp2
      go_ret
      exact ⟨by rw [HF.out]; rfl, k4⟩
    · by_cases hb0 : p.b = 0
      · by_cases hc : 0 < p.c
        · have HF := Lib.hid (show sv = -(sk : Int) by rw [HSV.out, if_pos (.inr ⟨hb0, hc⟩)])
          rw [hb0] at q4
          clear hb hb0
          go_wp2
          go_ret
          exact ⟨by rw [HF.out]; rfl, k4⟩
        · have HF := Lib.hid (show sv = (sk : Int) by rw [HSV.out, if_neg (fun e => by rcases e with e | e; exact hb e; exact hc e.2)])
          rw [hb0] at q4
          clear hb hb0
          go_wp2
          go_ret
          exact ⟨by rw [HF.out]; rfl, k4⟩
      · have hno : ¬ (p.b < 0 ∨ (p.b = 0 ∧ 0 < p.c)) := fun e => by rcases e with e | e; exact hb e; exact hb0 e.1
        have HF := Lib.hid (show sv = (sk : Int) by rw [HSV.out, if_neg hno])
        have hcc : ¬ 0 < p.c := fun e => hno (HSS.out.1 (.inr e))
        clear hno
        go_wp2
        go_ret
        exact ⟨by rw [HF.out]; rfl, k4⟩

/-- The front of l04Conjugate: what it gives where kinds or traces differ. -/
theorem GivesS.mk {r : Bool × Int} {w w' : World} (hb : Below w.heap.size w w') : GivesS r w (.returned (.tuple #[.bool r.1, .int .i64 r.2])) w' := ⟨rfl, hb⟩
set_option maxRecDepth 8000 in
set_option maxHeartbeats 2000000 in
theorem l04Conj_no (m n : M) (hm : m.ok = true) (hn : n.ok = true) (h : kindV m ≠ kindV n ∨ m.tr ≠ n.tr) (w : World) :
    Calls Tryz.prog 20 #[mv m, mv n] w (GivesS (false, 0) w) := by
  obtain ⟨⟨e1, e2⟩, e3, e4⟩ := M.ents_true (M.ok_ents hm)
  obtain ⟨⟨g1, g2⟩, g3, g4⟩ := M.ents_true (M.ok_ents hn)
  have HK1 := Lib.hid (fun W => l01Kind_any m W hm)
  have HK2 := Lib.hid (fun W => l01Kind_any n W hn)
  have HT1 := Lib.hid (fun W => l01Trace_any m W e1 e4)
  have HT2 := Lib.hid (fun W => l01Trace_any n W g1 g4)
  have HX : Hid (∀ w', Below w.heap.size w w' → GivesS (false, 0) w (.returned (.tuple #[.bool false, .int .i64 0])) w') := Lib.hid (fun w' hb => GivesS.mk hb)
  generalize GivesS (false, 0) w = GF at *
  clear hm hn e1 e2 e3 e4 g1 g2 g3 g4
  generalize kindV m = km at *
  generalize kindV n = kn at *
  generalize m.tr = tm at *
  generalize n.tr = tn at *
  by_cases hk : km = kn
  · have hne : (km != kn) = false := by rw [hk]; simp
    have hte : (tm != tn) = true := bne_iff_ne.2 (h.resolve_left (fun e => e hk))
    clear h hk
    go_enter Tryz.func20, Tryz.ntmps20
    go_wp2_with fail
    refine (HK1.out _).mono ?_
    rintro e w1 ⟨rfl, hb⟩
    have k1 : Below w.heap.size w w1 := (by repeat (first | (with_reducible exact Below.refl _ _) | (with_reducible assumption) | (with_reducible refine Below.drew ?_) | (with_reducible refine Below.drewN ?_) | ((with_reducible refine Below.al ?_ ?_); · first | omega | (simp; done) | (simp; omega)) | ((with_reducible refine Below.sc ?_ ?_); · first | omega | (simp; done) | (simp; omega)) | ((with_reducible refine Below.thru hb ?_ ?_); · first | omega | (simp; done) | (simp; omega))))
    have A1 : Blk w1 w.heap.size 25 (mcs m) := (by repeat (first | (with_reducible assumption) | ((with_reducible refine Blk.new ?_); · first | omega | (simp; done) | (simp; omega)) | (with_reducible apply Blk.set4) | (with_reducible apply Blk.set3) | (with_reducible apply Blk.set2) | ((with_reducible refine Blk.put ?_ ?_); · first | omega | (simp; omega)) | (with_reducible refine Blk.old ?_) | (with_reducible refine Blk.drew ?_) | (with_reducible refine Blk.drewN ?_) | ((with_reducible refine Blk.below hb ?_ ?_); · first | omega | (simp; done) | (simp; omega))))
    have B1 : Blk w1 (w.heap.size + 1) 25 (mcs n) := (by repeat (first | (with_reducible assumption) | ((with_reducible refine Blk.new ?_); · first | omega | (simp; done) | (simp; omega)) | (with_reducible apply Blk.set4) | (with_reducible apply Blk.set3) | (with_reducible apply Blk.set2) | ((with_reducible refine Blk.put ?_ ?_); · first | omega | (simp; omega)) | (with_reducible refine Blk.old ?_) | (with_reducible refine Blk.drew ?_) | (with_reducible refine Blk.drewN ?_) | ((with_reducible refine Blk.below hb ?_ ?_); · first | omega | (simp; done) | (simp; omega))))
    have a1 := A1.later4
    have b1 := B1.later4
    have lA1 := A1.lt
    have lB1 := B1.lt
    have s1 := k1.size
    clear hb
    go_wp2_with fail
    refine wp_region_calm (by kernel_rfl) (by kernel_rfl) ?_
    repeat (go_big_quiet_step (first | (go_at_call 30; with_reducible exact Calls.calm ((HK2.out _))) | (go_at_call 40; with_reducible exact Calls.calm ((HT1.out _))) | (go_at_call 40; with_reducible exact Calls.calm ((HT2.out _)))))
    refine wpQuiet_nil ?_
    rintro w2 ⟨⟨_, hb⟩, rfl⟩
    have k2 : Below w.heap.size w w2 := (by repeat (first | (with_reducible exact Below.refl _ _) | (with_reducible assumption) | (with_reducible refine Below.drew ?_) | (with_reducible refine Below.drewN ?_) | ((with_reducible refine Below.al ?_ ?_); · first | omega | (simp; done) | (simp; omega)) | ((with_reducible refine Below.sc ?_ ?_); · first | omega | (simp; done) | (simp; omega)) | ((with_reducible refine Below.thru hb ?_ ?_); · first | omega | (simp; done) | (simp; omega))))
    have kw2 : Below w.heap.size w w2 := (by repeat (first | (with_reducible exact Below.refl _ _) | (with_reducible assumption) | (with_reducible refine Below.drew ?_) | (with_reducible refine Below.drewN ?_) | ((with_reducible refine Below.al ?_ ?_); · first | omega | (simp; done) | (simp; omega)) | ((with_reducible refine Below.sc ?_ ?_); · first | omega | (simp; done) | (simp; omega)) | ((with_reducible refine Below.thru hb ?_ ?_); · first | omega | (simp; done) | (simp; omega))))
    have sw2 := kw2.size
    clear hb
    go_wp2
    exact HX.out _ k2
  · have hne : (km != kn) = true := bne_iff_ne.2 hk
    clear h hk
    go_enter Tryz.func20, Tryz.ntmps20
    go_wp2_with fail
    refine (HK1.out _).mono ?_
    rintro e w1 ⟨rfl, hb⟩
    have k1 : Below w.heap.size w w1 := (by repeat (first | (with_reducible exact Below.refl _ _) | (with_reducible assumption) | (with_reducible refine Below.drew ?_) | (with_reducible refine Below.drewN ?_) | ((with_reducible refine Below.al ?_ ?_); · first | omega | (simp; done) | (simp; omega)) | ((with_reducible refine Below.sc ?_ ?_); · first | omega | (simp; done) | (simp; omega)) | ((with_reducible refine Below.thru hb ?_ ?_); · first | omega | (simp; done) | (simp; omega))))
    have A1 : Blk w1 w.heap.size 25 (mcs m) := (by repeat (first | (with_reducible assumption) | ((with_reducible refine Blk.new ?_); · first | omega | (simp; done) | (simp; omega)) | (with_reducible apply Blk.set4) | (with_reducible apply Blk.set3) | (with_reducible apply Blk.set2) | ((with_reducible refine Blk.put ?_ ?_); · first | omega | (simp; omega)) | (with_reducible refine Blk.old ?_) | (with_reducible refine Blk.drew ?_) | (with_reducible refine Blk.drewN ?_) | ((with_reducible refine Blk.below hb ?_ ?_); · first | omega | (simp; done) | (simp; omega))))
    have B1 : Blk w1 (w.heap.size + 1) 25 (mcs n) := (by repeat (first | (with_reducible assumption) | ((with_reducible refine Blk.new ?_); · first | omega | (simp; done) | (simp; omega)) | (with_reducible apply Blk.set4) | (with_reducible apply Blk.set3) | (with_reducible apply Blk.set2) | ((with_reducible refine Blk.put ?_ ?_); · first | omega | (simp; omega)) | (with_reducible refine Blk.old ?_) | (with_reducible refine Blk.drew ?_) | (with_reducible refine Blk.drewN ?_) | ((with_reducible refine Blk.below hb ?_ ?_); · first | omega | (simp; done) | (simp; omega))))
    have a1 := A1.later4
    have b1 := B1.later4
    have lA1 := A1.lt
    have lB1 := B1.lt
    have s1 := k1.size
    clear hb
    go_wp2_with fail
    refine wp_region_calm (by kernel_rfl) (by kernel_rfl) ?_
    repeat (go_big_quiet_step (first | (go_at_call 30; with_reducible exact Calls.calm ((HK2.out _)))))
    refine wpQuiet_nil ?_
    rintro w2 ⟨⟨_, hb⟩, rfl⟩
    have k2 : Below w.heap.size w w2 := (by repeat (first | (with_reducible exact Below.refl _ _) | (with_reducible assumption) | (with_reducible refine Below.drew ?_) | (with_reducible refine Below.drewN ?_) | ((with_reducible refine Below.al ?_ ?_); · first | omega | (simp; done) | (simp; omega)) | ((with_reducible refine Below.sc ?_ ?_); · first | omega | (simp; done) | (simp; omega)) | ((with_reducible refine Below.thru hb ?_ ?_); · first | omega | (simp; done) | (simp; omega))))
    have kw2 : Below w.heap.size w w2 := (by repeat (first | (with_reducible exact Below.refl _ _) | (with_reducible assumption) | (with_reducible refine Below.drew ?_) | (with_reducible refine Below.drewN ?_) | ((with_reducible refine Below.al ?_ ?_); · first | omega | (simp; done) | (simp; omega)) | ((with_reducible refine Below.sc ?_ ?_); · first | omega | (simp; done) | (simp; omega)) | ((with_reducible refine Below.thru hb ?_ ?_); · first | omega | (simp; done) | (simp; omega))))
    have sw2 := kw2.size
    clear hb
    go_wp2
    exact HX.out _ k2
set_option maxRecDepth 8000 in
set_option maxHeartbeats 2000000 in
theorem l04Conj_0 (m n : M) (hm : m.ok = true) (hn : n.ok = true) (km : kindV m = 0) (kn : kindV n = 0) (ht : m.tr = n.tr) (w : World) :
    Calls Tryz.prog 20 #[mv m, mv n] w (GivesS (true, 0) w) := by
  have HE : Hid (∀ w' : World, (Op.equalIn 10000 25 (mv m) (mv n)).run Tryz.prog w' = .ok true w') := Lib.hid (fun w' => by rw [run_equalInM m n w', decide_eq_true (kind0_eq hm hn km kn ht)])
  obtain ⟨⟨e1, e2⟩, e3, e4⟩ := M.ents_true (M.ok_ents hm)
  obtain ⟨⟨g1, g2⟩, g3, g4⟩ := M.ents_true (M.ok_ents hn)
  have HK1 := Lib.hid (fun W => l01Kind_any m W hm)
  have HK2 := Lib.hid (fun W => l01Kind_any n W hn)
  have HT1 := Lib.hid (fun W => l01Trace_any m W e1 e4)
  have HT2 := Lib.hid (fun W => l01Trace_any n W g1 g4)
  rw [km] at HK1
  rw [kn] at HK2
  rw [ht] at HT1
  have HX : Hid (∀ w', Below w.heap.size w w' → GivesS (true, 0) w (.returned (.tuple #[.bool true, .int .i64 0])) w') := Lib.hid (fun w' hb => GivesS.mk hb)
  generalize GivesS (true, 0) w = GF at *
  clear hm hn e1 e2 e3 e4 g1 g2 g3 g4 km kn ht
  generalize n.tr = tn at *
  go_enter Tryz.func20, Tryz.ntmps20
  go_wp2_with fail
  refine (HK1.out _).mono ?_
  rintro e w1 ⟨rfl, hb⟩
  have k1 : Below w.heap.size w w1 := (by repeat (first | (with_reducible exact Below.refl _ _) | (with_reducible assumption) | (with_reducible refine Below.drew ?_) | (with_reducible refine Below.drewN ?_) | ((with_reducible refine Below.al ?_ ?_); · first | omega | (simp; done) | (simp; omega)) | ((with_reducible refine Below.sc ?_ ?_); · first | omega | (simp; done) | (simp; omega)) | ((with_reducible refine Below.thru hb ?_ ?_); · first | omega | (simp; done) | (simp; omega))))
  have A1 : Blk w1 w.heap.size 25 (mcs m) := (by repeat (first | (with_reducible assumption) | ((with_reducible refine Blk.new ?_); · first | omega | (simp; done) | (simp; omega)) | (with_reducible apply Blk.set4) | (with_reducible apply Blk.set3) | (with_reducible apply Blk.set2) | ((with_reducible refine Blk.put ?_ ?_); · first | omega | (simp; omega)) | (with_reducible refine Blk.old ?_) | (with_reducible refine Blk.drew ?_) | (with_reducible refine Blk.drewN ?_) | ((with_reducible refine Blk.below hb ?_ ?_); · first | omega | (simp; done) | (simp; omega))))
  have B1 : Blk w1 (w.heap.size + 1) 25 (mcs n) := (by repeat (first | (with_reducible assumption) | ((with_reducible refine Blk.new ?_); · first | omega | (simp; done) | (simp; omega)) | (with_reducible apply Blk.set4) | (with_reducible apply Blk.set3) | (with_reducible apply Blk.set2) | ((with_reducible refine Blk.put ?_ ?_); · first | omega | (simp; omega)) | (with_reducible refine Blk.old ?_) | (with_reducible refine Blk.drew ?_) | (with_reducible refine Blk.drewN ?_) | ((with_reducible refine Blk.below hb ?_ ?_); · first | omega | (simp; done) | (simp; omega))))
  have a1 := A1.later4
  have b1 := B1.later4
  have lA1 := A1.lt
  have lB1 := B1.lt
  have s1 := k1.size
  clear hb
  go_wp2_with fail
  refine wp_region_calm (by kernel_rfl) (by kernel_rfl) ?_
  repeat (go_big_quiet_step (first | (go_at_call 30; with_reducible exact Calls.calm ((HK2.out _))) | (go_at_call 40; with_reducible exact Calls.calm ((HT1.out _))) | (go_at_call 40; with_reducible exact Calls.calm ((HT2.out _)))))
  refine wpQuiet_nil ?_
  rintro w2 ⟨⟨_, hb⟩, rfl⟩
  have A2 : Blk w2 (w.heap.size) 25 (mcs m) := (by repeat (first | (with_reducible assumption) | ((with_reducible refine Blk.new ?_); · first | omega | (simp; done) | (simp; omega)) | (with_reducible apply Blk.set4) | (with_reducible apply Blk.set3) | (with_reducible apply Blk.set2) | ((with_reducible refine Blk.put ?_ ?_); · first | omega | (simp; omega)) | (with_reducible refine Blk.old ?_) | (with_reducible refine Blk.drew ?_) | (with_reducible refine Blk.drewN ?_) | ((with_reducible refine Blk.below hb ?_ ?_); · first | omega | (simp; done) | (simp; omega))))
  have lA2 := A2.lt
  have B2 : Blk w2 (w.heap.size + 1) 25 (mcs n) := (by repeat (first | (with_reducible assumption) | ((with_reducible refine Blk.new ?_); · first | omega | (simp; done) | (simp; omega)) | (with_reducible apply Blk.set4) | (with_reducible apply Blk.set3) | (with_reducible apply Blk.set2) | ((with_reducible refine Blk.put ?_ ?_); · first | omega | (simp; omega)) | (with_reducible refine Blk.old ?_) | (with_reducible refine Blk.drew ?_) | (with_reducible refine Blk.drewN ?_) | ((with_reducible refine Blk.below hb ?_ ?_); · first | omega | (simp; done) | (simp; omega))))
  have lB2 := B2.lt
  have k2 : Below w.heap.size w w2 := (by repeat (first | (with_reducible exact Below.refl _ _) | (with_reducible assumption) | (with_reducible refine Below.drew ?_) | (with_reducible refine Below.drewN ?_) | ((with_reducible refine Below.al ?_ ?_); · first | omega | (simp; done) | (simp; omega)) | ((with_reducible refine Below.sc ?_ ?_); · first | omega | (simp; done) | (simp; omega)) | ((with_reducible refine Below.thru hb ?_ ?_); · first | omega | (simp; done) | (simp; omega))))
  have kw2 : Below w.heap.size w w2 := (by repeat (first | (with_reducible exact Below.refl _ _) | (with_reducible assumption) | (with_reducible refine Below.drew ?_) | (with_reducible refine Below.drewN ?_) | ((with_reducible refine Below.al ?_ ?_); · first | omega | (simp; done) | (simp; omega)) | ((with_reducible refine Below.sc ?_ ?_); · first | omega | (simp; done) | (simp; omega)) | ((with_reducible refine Below.thru hb ?_ ?_); · first | omega | (simp; done) | (simp; omega))))
  have sw2 := kw2.size
  clear hb
  have a2 := A2.later4
  have b2 := B2.later4
  have q2 := A2.m
  have r2 := B2.m
  have lA2 := A2.lt
  have lB2 := B2.lt
  have s2 := k2.size
  clear A1 B1 a1 b1 lA1 lB1 k1 s1
  have hE := HE.out
  go_wp2
  exact HX.out _ k2
set_option maxRecDepth 8000 in
set_option maxHeartbeats 2000000 in
theorem l04Conj_1 (m n : M) (hm : m.ok = true) (hn : n.ok = true) (km : kindV m = 1) (kn : kindV n = 1) (ht : m.tr = n.tr) (w : World) :
    Calls Tryz.prog 20 #[mv m, mv n] w (GivesS ((nameV (decide (0 < m.c)) m.tr).toList == (nameV (decide (0 < n.c)) n.tr).toList, 0) w) := by
  have HN1 := Lib.hid (fun W => l04Name_any m km hm W)
  have HN2 := Lib.hid (fun W => l04Name_any n kn hn W)
  generalize nameV (decide (0 < m.c)) m.tr = nm at *
  generalize nameV (decide (0 < n.c)) n.tr = nn at *
  obtain ⟨⟨e1, e2⟩, e3, e4⟩ := M.ents_true (M.ok_ents hm)
  obtain ⟨⟨g1, g2⟩, g3, g4⟩ := M.ents_true (M.ok_ents hn)
  have HK1 := Lib.hid (fun W => l01Kind_any m W hm)
  have HK2 := Lib.hid (fun W => l01Kind_any n W hn)
  have HT1 := Lib.hid (fun W => l01Trace_any m W e1 e4)
  have HT2 := Lib.hid (fun W => l01Trace_any n W g1 g4)
  rw [km] at HK1
  rw [kn] at HK2
  rw [ht] at HT1
  have HX : Hid (∀ w', Below w.heap.size w w' → GivesS (nm.toList == nn.toList, 0) w (.returned (.tuple #[.bool (nm.toList == nn.toList), .int .i64 0])) w') := Lib.hid (fun w' hb => GivesS.mk hb)
  generalize GivesS (nm.toList == nn.toList, 0) w = GF at *
  clear hm hn e1 e2 e3 e4 g1 g2 g3 g4 km kn ht
  generalize n.tr = tn at *
  go_enter Tryz.func20, Tryz.ntmps20
  go_wp2_with fail
  refine (HK1.out _).mono ?_
  rintro e w1 ⟨rfl, hb⟩
  have k1 : Below w.heap.size w w1 := (by repeat (first | (with_reducible exact Below.refl _ _) | (with_reducible assumption) | (with_reducible refine Below.drew ?_) | (with_reducible refine Below.drewN ?_) | ((with_reducible refine Below.al ?_ ?_); · first | omega | (simp; done) | (simp; omega)) | ((with_reducible refine Below.sc ?_ ?_); · first | omega | (simp; done) | (simp; omega)) | ((with_reducible refine Below.thru hb ?_ ?_); · first | omega | (simp; done) | (simp; omega))))
  have A1 : Blk w1 w.heap.size 25 (mcs m) := (by repeat (first | (with_reducible assumption) | ((with_reducible refine Blk.new ?_); · first | omega | (simp; done) | (simp; omega)) | (with_reducible apply Blk.set4) | (with_reducible apply Blk.set3) | (with_reducible apply Blk.set2) | ((with_reducible refine Blk.put ?_ ?_); · first | omega | (simp; omega)) | (with_reducible refine Blk.old ?_) | (with_reducible refine Blk.drew ?_) | (with_reducible refine Blk.drewN ?_) | ((with_reducible refine Blk.below hb ?_ ?_); · first | omega | (simp; done) | (simp; omega))))
  have B1 : Blk w1 (w.heap.size + 1) 25 (mcs n) := (by repeat (first | (with_reducible assumption) | ((with_reducible refine Blk.new ?_); · first | omega | (simp; done) | (simp; omega)) | (with_reducible apply Blk.set4) | (with_reducible apply Blk.set3) | (with_reducible apply Blk.set2) | ((with_reducible refine Blk.put ?_ ?_); · first | omega | (simp; omega)) | (with_reducible refine Blk.old ?_) | (with_reducible refine Blk.drew ?_) | (with_reducible refine Blk.drewN ?_) | ((with_reducible refine Blk.below hb ?_ ?_); · first | omega | (simp; done) | (simp; omega))))
  have a1 := A1.later4
  have b1 := B1.later4
  have lA1 := A1.lt
  have lB1 := B1.lt
  have s1 := k1.size
  clear hb
  go_wp2_with fail
  refine wp_region_calm (by kernel_rfl) (by kernel_rfl) ?_
  repeat (go_big_quiet_step (first | (go_at_call 30; with_reducible exact Calls.calm ((HK2.out _))) | (go_at_call 40; with_reducible exact Calls.calm ((HT1.out _))) | (go_at_call 40; with_reducible exact Calls.calm ((HT2.out _)))))
  refine wpQuiet_nil ?_
  rintro w2 ⟨⟨_, hb⟩, rfl⟩
  have A2 : Blk w2 (w.heap.size) 25 (mcs m) := (by repeat (first | (with_reducible assumption) | ((with_reducible refine Blk.new ?_); · first | omega | (simp; done) | (simp; omega)) | (with_reducible apply Blk.set4) | (with_reducible apply Blk.set3) | (with_reducible apply Blk.set2) | ((with_reducible refine Blk.put ?_ ?_); · first | omega | (simp; omega)) | (with_reducible refine Blk.old ?_) | (with_reducible refine Blk.drew ?_) | (with_reducible refine Blk.drewN ?_) | ((with_reducible refine Blk.below hb ?_ ?_); · first | omega | (simp; done) | (simp; omega))))
  have lA2 := A2.lt
  have B2 : Blk w2 (w.heap.size + 1) 25 (mcs n) := (by repeat (first | (with_reducible assumption) | ((with_reducible refine Blk.new ?_); · first | omega | (simp; done) | (simp; omega)) | (with_reducible apply Blk.set4) | (with_reducible apply Blk.set3) | (with_reducible apply Blk.set2) | ((with_reducible refine Blk.put ?_ ?_); · first | omega | (simp; omega)) | (with_reducible refine Blk.old ?_) | (with_reducible refine Blk.drew ?_) | (with_reducible refine Blk.drewN ?_) | ((with_reducible refine Blk.below hb ?_ ?_); · first | omega | (simp; done) | (simp; omega))))
  have lB2 := B2.lt
  have k2 : Below w.heap.size w w2 := (by repeat (first | (with_reducible exact Below.refl _ _) | (with_reducible assumption) | (with_reducible refine Below.drew ?_) | (with_reducible refine Below.drewN ?_) | ((with_reducible refine Below.al ?_ ?_); · first | omega | (simp; done) | (simp; omega)) | ((with_reducible refine Below.sc ?_ ?_); · first | omega | (simp; done) | (simp; omega)) | ((with_reducible refine Below.thru hb ?_ ?_); · first | omega | (simp; done) | (simp; omega))))
  have kw2 : Below w.heap.size w w2 := (by repeat (first | (with_reducible exact Below.refl _ _) | (with_reducible assumption) | (with_reducible refine Below.drew ?_) | (with_reducible refine Below.drewN ?_) | ((with_reducible refine Below.al ?_ ?_); · first | omega | (simp; done) | (simp; omega)) | ((with_reducible refine Below.sc ?_ ?_); · first | omega | (simp; done) | (simp; omega)) | ((with_reducible refine Below.thru hb ?_ ?_); · first | omega | (simp; done) | (simp; omega))))
  have sw2 := kw2.size
  clear hb
  have a2 := A2.later4
  have b2 := B2.later4
  have q2 := A2.m
  have r2 := B2.m
  have lA2 := A2.lt
  have lB2 := B2.lt
  have s2 := k2.size
  clear A1 B1 a1 b1 lA1 lB1 k1 s1
  go_wp2_with fail
  refine wp_region_calm (by kernel_rfl) (by kernel_rfl) ?_
  repeat (go_big_quiet_step (first | (go_at_call 41; with_reducible exact Calls.calm ((HN1.out _))) | (go_at_call 41; with_reducible exact Calls.calm ((HN2.out _)))))
  refine wpQuiet_nil ?_
  rintro w3 ⟨⟨_, hb⟩, rfl⟩
  have k3 : Below w.heap.size w w3 := (by repeat (first | (with_reducible exact Below.refl _ _) | (with_reducible assumption) | (with_reducible refine Below.drew ?_) | (with_reducible refine Below.drewN ?_) | ((with_reducible refine Below.al ?_ ?_); · first | omega | (simp; done) | (simp; omega)) | ((with_reducible refine Below.sc ?_ ?_); · first | omega | (simp; done) | (simp; omega)) | ((with_reducible refine Below.thru hb ?_ ?_); · first | omega | (simp; done) | (simp; omega))))
  have kw3 : Below w.heap.size w w3 := (by repeat (first | (with_reducible exact Below.refl _ _) | (with_reducible assumption) | (with_reducible refine Below.drew ?_) | (with_reducible refine Below.drewN ?_) | ((with_reducible refine Below.al ?_ ?_); · first | omega | (simp; done) | (simp; omega)) | ((with_reducible refine Below.sc ?_ ?_); · first | omega | (simp; done) | (simp; omega)) | ((with_reducible refine Below.thru hb ?_ ?_); · first | omega | (simp; done) | (simp; omega))))
  have sw3 := kw3.size
  clear hb
  go_wp2
  exact HX.out _ k3
set_option maxRecDepth 8000 in
set_option maxHeartbeats 2000000 in
theorem l04Conj_2 (m n : M) (hm : m.ok = true) (hn : n.ok = true) (km : kindV m = 2) (kn : kindV n = 2) (ht : m.tr = n.tr) (w : World) :
    Calls Tryz.prog 20 #[mv m, mv n] w (GivesS (shiftV m == shiftV n, 0) w) := by
  have HN1 := Lib.hid (fun W => l04Shift_any m km hm W)
  have HN2 := Lib.hid (fun W => l04Shift_any n kn hn W)
  generalize shiftV m = nm at *
  generalize shiftV n = nn at *
  obtain ⟨⟨e1, e2⟩, e3, e4⟩ := M.ents_true (M.ok_ents hm)
  obtain ⟨⟨g1, g2⟩, g3, g4⟩ := M.ents_true (M.ok_ents hn)
  have HK1 := Lib.hid (fun W => l01Kind_any m W hm)
  have HK2 := Lib.hid (fun W => l01Kind_any n W hn)
  have HT1 := Lib.hid (fun W => l01Trace_any m W e1 e4)
  have HT2 := Lib.hid (fun W => l01Trace_any n W g1 g4)
  rw [km] at HK1
  rw [kn] at HK2
  rw [ht] at HT1
  have HX : Hid (∀ w', Below w.heap.size w w' → GivesS (nm == nn, 0) w (.returned (.tuple #[.bool (nm == nn), .int .i64 0])) w') := Lib.hid (fun w' hb => GivesS.mk hb)
  generalize GivesS (nm == nn, 0) w = GF at *
  clear hm hn e1 e2 e3 e4 g1 g2 g3 g4 km kn ht
  generalize n.tr = tn at *
  go_enter Tryz.func20, Tryz.ntmps20
  go_wp2_with fail
  refine (HK1.out _).mono ?_
  rintro e w1 ⟨rfl, hb⟩
  have k1 : Below w.heap.size w w1 := (by repeat (first | (with_reducible exact Below.refl _ _) | (with_reducible assumption) | (with_reducible refine Below.drew ?_) | (with_reducible refine Below.drewN ?_) | ((with_reducible refine Below.al ?_ ?_); · first | omega | (simp; done) | (simp; omega)) | ((with_reducible refine Below.sc ?_ ?_); · first | omega | (simp; done) | (simp; omega)) | ((with_reducible refine Below.thru hb ?_ ?_); · first | omega | (simp; done) | (simp; omega))))
  have A1 : Blk w1 w.heap.size 25 (mcs m) := (by repeat (first | (with_reducible assumption) | ((with_reducible refine Blk.new ?_); · first | omega | (simp; done) | (simp; omega)) | (with_reducible apply Blk.set4) | (with_reducible apply Blk.set3) | (with_reducible apply Blk.set2) | ((with_reducible refine Blk.put ?_ ?_); · first | omega | (simp; omega)) | (with_reducible refine Blk.old ?_) | (with_reducible refine Blk.drew ?_) | (with_reducible refine Blk.drewN ?_) | ((with_reducible refine Blk.below hb ?_ ?_); · first | omega | (simp; done) | (simp; omega))))
  have B1 : Blk w1 (w.heap.size + 1) 25 (mcs n) := (by repeat (first | (with_reducible assumption) | ((with_reducible refine Blk.new ?_); · first | omega | (simp; done) | (simp; omega)) | (with_reducible apply Blk.set4) | (with_reducible apply Blk.set3) | (with_reducible apply Blk.set2) | ((with_reducible refine Blk.put ?_ ?_); · first | omega | (simp; omega)) | (with_reducible refine Blk.old ?_) | (with_reducible refine Blk.drew ?_) | (with_reducible refine Blk.drewN ?_) | ((with_reducible refine Blk.below hb ?_ ?_); · first | omega | (simp; done) | (simp; omega))))
  have a1 := A1.later4
  have b1 := B1.later4
  have lA1 := A1.lt
  have lB1 := B1.lt
  have s1 := k1.size
  clear hb
  go_wp2_with fail
  refine wp_region_calm (by kernel_rfl) (by kernel_rfl) ?_
  repeat (go_big_quiet_step (first | (go_at_call 30; with_reducible exact Calls.calm ((HK2.out _))) | (go_at_call 40; with_reducible exact Calls.calm ((HT1.out _))) | (go_at_call 40; with_reducible exact Calls.calm ((HT2.out _)))))
  refine wpQuiet_nil ?_
  rintro w2 ⟨⟨_, hb⟩, rfl⟩
  have A2 : Blk w2 (w.heap.size) 25 (mcs m) := (by repeat (first | (with_reducible assumption) | ((with_reducible refine Blk.new ?_); · first | omega | (simp; done) | (simp; omega)) | (with_reducible apply Blk.set4) | (with_reducible apply Blk.set3) | (with_reducible apply Blk.set2) | ((with_reducible refine Blk.put ?_ ?_); · first | omega | (simp; omega)) | (with_reducible refine Blk.old ?_) | (with_reducible refine Blk.drew ?_) | (with_reducible refine Blk.drewN ?_) | ((with_reducible refine Blk.below hb ?_ ?_); · first | omega | (simp; done) | (simp; omega))))
  have lA2 := A2.lt
  have B2 : Blk w2 (w.heap.size + 1) 25 (mcs n) := (by repeat (first | (with_reducible assumption) | ((with_reducible refine Blk.new ?_); · first | omega | (simp; done) | (simp; omega)) | (with_reducible apply Blk.set4) | (with_reducible apply Blk.set3) | (with_reducible apply Blk.set2) | ((with_reducible refine Blk.put ?_ ?_); · first | omega | (simp; omega)) | (with_reducible refine Blk.old ?_) | (with_reducible refine Blk.drew ?_) | (with_reducible refine Blk.drewN ?_) | ((with_reducible refine Blk.below hb ?_ ?_); · first | omega | (simp; done) | (simp; omega))))
  have lB2 := B2.lt
  have k2 : Below w.heap.size w w2 := (by repeat (first | (with_reducible exact Below.refl _ _) | (with_reducible assumption) | (with_reducible refine Below.drew ?_) | (with_reducible refine Below.drewN ?_) | ((with_reducible refine Below.al ?_ ?_); · first | omega | (simp; done) | (simp; omega)) | ((with_reducible refine Below.sc ?_ ?_); · first | omega | (simp; done) | (simp; omega)) | ((with_reducible refine Below.thru hb ?_ ?_); · first | omega | (simp; done) | (simp; omega))))
  have kw2 : Below w.heap.size w w2 := (by repeat (first | (with_reducible exact Below.refl _ _) | (with_reducible assumption) | (with_reducible refine Below.drew ?_) | (with_reducible refine Below.drewN ?_) | ((with_reducible refine Below.al ?_ ?_); · first | omega | (simp; done) | (simp; omega)) | ((with_reducible refine Below.sc ?_ ?_); · first | omega | (simp; done) | (simp; omega)) | ((with_reducible refine Below.thru hb ?_ ?_); · first | omega | (simp; done) | (simp; omega))))
  have sw2 := kw2.size
  clear hb
  have a2 := A2.later4
  have b2 := B2.later4
  have q2 := A2.m
  have r2 := B2.m
  have lA2 := A2.lt
  have lB2 := B2.lt
  have s2 := k2.size
  clear A1 B1 a1 b1 lA1 lB1 k1 s1
  go_wp2_with fail
  refine wp_region_calm (by kernel_rfl) (by kernel_rfl) ?_
  repeat (go_big_quiet_step (first | (go_at_call 42; with_reducible exact Calls.calm ((HN1.out _))) | (go_at_call 42; with_reducible exact Calls.calm ((HN2.out _)))))
  refine wpQuiet_nil ?_
  rintro w3 ⟨⟨_, hb⟩, rfl⟩
  have k3 : Below w.heap.size w w3 := (by repeat (first | (with_reducible exact Below.refl _ _) | (with_reducible assumption) | (with_reducible refine Below.drew ?_) | (with_reducible refine Below.drewN ?_) | ((with_reducible refine Below.al ?_ ?_); · first | omega | (simp; done) | (simp; omega)) | ((with_reducible refine Below.sc ?_ ?_); · first | omega | (simp; done) | (simp; omega)) | ((with_reducible refine Below.thru hb ?_ ?_); · first | omega | (simp; done) | (simp; omega))))
  have kw3 : Below w.heap.size w w3 := (by repeat (first | (with_reducible exact Below.refl _ _) | (with_reducible assumption) | (with_reducible refine Below.drew ?_) | (with_reducible refine Below.drewN ?_) | ((with_reducible refine Below.al ?_ ?_); · first | omega | (simp; done) | (simp; omega)) | ((with_reducible refine Below.sc ?_ ?_); · first | omega | (simp; done) | (simp; omega)) | ((with_reducible refine Below.thru hb ?_ ?_); · first | omega | (simp; done) | (simp; omega))))
  have sw3 := kw3.size
  clear hb
  go_wp2
  exact HX.out _ k3

end Go.Proofs.YtfjmbpbilfhfbaaGreat
