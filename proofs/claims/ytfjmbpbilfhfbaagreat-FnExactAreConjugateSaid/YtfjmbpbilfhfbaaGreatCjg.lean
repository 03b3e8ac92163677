/- Conjugate matrices of the kind 3: both walks. -/
import Derived.Test.YtfjmbpbilfhfbaaGreatCyt
namespace Go.Proofs.YtfjmbpbilfhfbaaGreat
open Go.RowKit
set_option linter.unusedSimpArgs false

/-- Whether two words are the same, and the code. -/
def swR (r s : ByteArray × Int) : Bool × Int := if r.2 = 0 ∧ s.2 = 0 then (r.1.toList == s.1.toList, 0) else (false, 3)
theorem swR_ok {r s : ByteArray × Int} (h1 : r.2 = 0) (h2 : s.2 = 0) : swR r s = (r.1.toList == s.1.toList, 0) := by unfold swR; rw [if_pos ⟨h1, h2⟩]
theorem swR_no {r s : ByteArray × Int} (h : ¬ (r.2 = 0 ∧ s.2 = 0)) : swR r s = (false, 3) := by unfold swR; rw [if_neg h]
def GivesS (r : Bool × Int) (w : World) (e : Ending) (w' : World) : Prop := e = .returned (.tuple #[.bool r.1, .int .i64 r.2]) ∧ Below w.heap.size w w'
set_option maxRecDepth 8000 in
set_option maxHeartbeats 1000000 in
theorem sameWords_any (m n : M) (r s : ByteArray × Int) (hr : CycR m r) (hs : CycR n s) (w : World) :
    Calls Tryz.prog 21 #[mv m, mv n] w (GivesS (swR r s) w) := by
  have H1 := Lib.hid hr.impl
  have H2 := Lib.hid hs.impl
  have HY := Lib.hid (fun h1 h2 => swR_ok (r := r) (s := s) h1 h2)
  have HN := Lib.hid (fun h => swR_no (r := r) (s := s) h)
  clear hr hs
  obtain ⟨rs, rc⟩ := r
  obtain ⟨ss, sc⟩ := s
  simp only at H1 H2 HY HN
  go_enter Tryz.func21, Tryz.ntmps21
  have HX : Hid (∀ q, swR (rs, rc) (ss, sc) = q → ∀ w', Below w.heap.size w w' → GivesS (swR (rs, rc) (ss, sc)) w (.returned (.tuple #[.bool q.1, .int .i64 q.2])) w') := Lib.hid (fun q hq w' hb => ⟨by rw [hq], hb⟩)
  generalize GivesS (swR (rs, rc) (ss, sc)) w = GF at *
  go_wp2_with fail
  refine (H1.out _).mono ?_
  rintro e w1 ⟨rfl, hb⟩
  have k1 : Below w.heap.size w w1 := (by repeat (first | (with_reducible exact Below.refl _ _) | (with_reducible assumption) | (with_reducible refine Below.drew ?_) | (with_reducible refine Below.drewN ?_) | ((with_reducible refine Below.al ?_ ?_); · first | omega | (simp; done) | (simp; omega)) | ((with_reducible refine Below.sc ?_ ?_); · first | omega | (simp; done) | (simp; omega)) | ((with_reducible refine Below.thru hb ?_ ?_); · first | omega | (simp; done) | (simp; omega))))
  have B1 : Blk w1 (w.heap.size + 1) 25 (mcs n) := (by repeat (first | (with_reducible assumption) | ((with_reducible refine Blk.new ?_); · first | omega | (simp; done) | (simp; omega)) | (with_reducible apply Blk.set4) | (with_reducible apply Blk.set3) | (with_reducible apply Blk.set2) | ((with_reducible refine Blk.put ?_ ?_); · first | omega | (simp; omega)) | (with_reducible refine Blk.old ?_) | (with_reducible refine Blk.drew ?_) | (with_reducible refine Blk.drewN ?_) | ((with_reducible refine Blk.below hb ?_ ?_); · first | omega | (simp; done) | (simp; omega))))
  have q1 := B1.m
  have s1 := k1.size
  clear hb
  go_wp2_with fail
  refine (H2.out _).mono ?_
  rintro e w2 ⟨rfl, hb⟩
  have k2 : Below w.heap.size w w2 := (by repeat (first | (with_reducible exact Below.refl _ _) | (with_reducible assumption) | (with_reducible refine Below.drew ?_) | (with_reducible refine Below.drewN ?_) | ((with_reducible refine Below.al ?_ ?_); · first | omega | (simp; done) | (simp; omega)) | ((with_reducible refine Below.sc ?_ ?_); · first | omega | (simp; done) | (simp; omega)) | ((with_reducible refine Below.thru hb ?_ ?_); · first | omega | (simp; done) | (simp; omega))))
  clear hb H1 H2 q1 B1 k1
  by_cases h1 : rc = 0
  · by_cases h2 : sc = 0
    · have HF := Lib.hid (HX.out _ (HY.out h1 h2))
      subst h1
      subst h2
      clear HX HY HN
      go_wp2
      exact HF.out _ k2
    · have HF := Lib.hid (HX.out _ (HN.out (fun e => h2 e.2)))
      have e2 : (sc != 0) = true := bne_iff_ne.2 h2
      subst h1
      clear HX HY HN h2
      go_wp2
      exact HF.out _ (by first | exact k2 | exact Below.drewN k2)
  · have HF := Lib.hid (HX.out _ (HN.out (fun e => h1 e.1)))
    have e1 : (rc != 0) = true := bne_iff_ne.2 h1
    clear HX HY HN h1
    go_wp2
    exact HF.out _ (by first | exact k2 | exact Below.drewN k2)

set_option maxRecDepth 8000 in
set_option maxHeartbeats 2000000 in
theorem l04Conj3_any (m n : M) (r s : ByteArray × Int) (hr : CycR m r) (hs : CycR n s) (hm : m.ok = true) (hn : n.ok = true) (km : kindV m = 3) (kn : kindV n = 3) (ht : n.tr = m.tr) (w : World) :
    Calls Tryz.prog 20 #[mv m, mv n] w (GivesS (swR r s) w) := by
  have H1 := Lib.hid hr.spec
  have H2 := Lib.hid hs.spec
  have HY := Lib.hid (fun h1 h2 => swR_ok (r := r) (s := s) h1 h2)
  have HN := Lib.hid (fun h => swR_no (r := r) (s := s) h)
  have HK1 := Lib.hid (fun W => l01Kind_any m W hm)
  have HK2 : Hid (∀ W : World, Calls Tryz.prog 30 #[mv n] W fun e w' => e = .returned (.int .i64 3) ∧ Below W.heap.size W w') := Lib.hid (fun W => by have := l01Kind_any n W hn; rw [kn] at this; exact this)
  obtain ⟨⟨e1, e2⟩, e3, e4⟩ := M.ents_true (M.ok_ents hm)
  obtain ⟨⟨g1, g2⟩, g3, g4⟩ := M.ents_true (M.ok_ents hn)
  have HT1 := Lib.hid (fun W => l01Trace_any m W e1 e4)
  have HT2 : Hid (∀ W : World, Calls Tryz.prog 40 #[mv n] W fun e w' => e = .returned (.int .i64 m.tr) ∧ Below W.heap.size W w') := Lib.hid (fun W => by have := l01Trace_any n W g1 g4; rw [ht] at this; exact this)
  rw [km] at HK1
  clear hr hs hm hn km kn ht e1 e2 e3 e4 g1 g2 g3 g4
  obtain ⟨rs, rc⟩ := r
  obtain ⟨ss, sc⟩ := s
  simp only at H1 H2 HY HN
  go_enter Tryz.func20, Tryz.ntmps20
  have HX : Hid (∀ q, swR (rs, rc) (ss, sc) = q → ∀ w', Below w.heap.size w w' → GivesS (swR (rs, rc) (ss, sc)) w (.returned (.tuple #[.bool q.1, .int .i64 q.2])) w') := Lib.hid (fun q hq w' hb => ⟨by rw [hq], hb⟩)
  generalize GivesS (swR (rs, rc) (ss, sc)) w = GF at *
  go_wp2_with fail
  refine (HK1.out _).mono ?_
  rintro e w1 ⟨rfl, hb⟩
  have k1 : Below w.heap.size w w1 := (by repeat (first | (with_reducible exact Below.refl _ _) | (with_reducible assumption) | (with_reducible refine Below.drew ?_) | (with_reducible refine Below.drewN ?_) | ((with_reducible refine Below.al ?_ ?_); · first | omega | (simp; done) | (simp; omega)) | ((with_reducible refine Below.sc ?_ ?_); · first | omega | (simp; done) | (simp; omega)) | ((with_reducible refine Below.thru hb ?_ ?_); · first | omega | (simp; done) | (simp; omega))))
  have A1 : Blk w1 w.heap.size 25 (mcs m) := (by repeat (first | (with_reducible assumption) | ((with_reducible refine Blk.new ?_); · first | omega | (simp; done) | (simp; omega)) | (with_reducible apply Blk.set4) | (with_reducible apply Blk.set3) | (with_reducible apply Blk.set2) | ((with_reducible refine Blk.put ?_ ?_); · first | omega | (simp; omega)) | (with_reducible refine Blk.old ?_) | (with_reducible refine Blk.drew ?_) | (with_reducible refine Blk.drewN ?_) | ((with_reducible refine Blk.below hb ?_ ?_); · first | omega | (simp; done) | (simp; omega))))
  have B1 : Blk w1 (w.heap.size + 1) 25 (mcs n) := (by repeat (first | (with_reducible assumption) | ((with_reducible refine Blk.new ?_); · first | omega | (simp; done) | (simp; omega)) | (with_reducible apply Blk.set4) | (with_reducible apply Blk.set3) | (with_reducible apply Blk.set2) | ((with_reducible refine Blk.put ?_ ?_); · first | omega | (simp; omega)) | (with_reducible refine Blk.old ?_) | (with_reducible refine Blk.drew ?_) | (with_reducible refine Blk.drewN ?_) | ((with_reducible refine Blk.below hb ?_ ?_); · first | omega | (simp; done) | (simp; omega))))
  have a1 := A1.later4
  have b1 := B1.later4
  have lA1 := A1.lt
  have lB1 := B1.lt
  have s1 := k1.size
  clear hb
  go_wp2_with fail
  refine wp_region_calm (by kernel_rfl) (by kernel_rfl) ?_
  repeat (go_big_quiet_step (first | (go_at_call 30; with_reducible exact Calls.calm ((HK2.out _))) | (go_at_call 40; with_reducible exact Calls.calm ((HT1.out _))) | (go_at_call 40; with_reducible exact Calls.calm ((HT2.out _)))))
  refine wpQuiet_nil ?_
  rintro w2 ⟨⟨_, hb⟩, rfl⟩
  have A2 : Blk w2 (w.heap.size) 25 (mcs m) := (by repeat (first | (with_reducible assumption) | ((with_reducible refine Blk.new ?_); · first | omega | (simp; done) | (simp; omega)) | (with_reducible apply Blk.set4) | (with_reducible apply Blk.set3) | (with_reducible apply Blk.set2) | ((with_reducible refine Blk.put ?_ ?_); · first | omega | (simp; omega)) | (with_reducible refine Blk.old ?_) | (with_reducible refine Blk.drew ?_) | (with_reducible refine Blk.drewN ?_) | ((with_reducible refine Blk.below hb ?_ ?_); · first | omega | (simp; done) | (simp; omega))))
  have lA2 := A2.lt
  have B2 : Blk w2 (w.heap.size + 1) 25 (mcs n) := (by repeat (first | (with_reducible assumption) | ((with_reducible refine Blk.new ?_); · first | omega | (simp; done) | (simp; omega)) | (with_reducible apply Blk.set4) | (with_reducible apply Blk.set3) | (with_reducible apply Blk.set2) | ((with_reducible refine Blk.put ?_ ?_); · first | omega | (simp; omega)) | (with_reducible refine Blk.old ?_) | (with_reducible refine Blk.drew ?_) | (with_reducible refine Blk.drewN ?_) | ((with_reducible refine Blk.below hb ?_ ?_); · first | omega | (simp; done) | (simp; omega))))
  have lB2 := B2.lt
  have k2 : Below w.heap.size w w2 := (by repeat (first | (with_reducible exact Below.refl _ _) | (with_reducible assumption) | (with_reducible refine Below.drew ?_) | (with_reducible refine Below.drewN ?_) | ((with_reducible refine Below.al ?_ ?_); · first | omega | (simp; done) | (simp; omega)) | ((with_reducible refine Below.sc ?_ ?_); · first | omega | (simp; done) | (simp; omega)) | ((with_reducible refine Below.thru hb ?_ ?_); · first | omega | (simp; done) | (simp; omega))))
  have kw2 : Below w.heap.size w w2 := (by repeat (first | (with_reducible exact Below.refl _ _) | (with_reducible assumption) | (with_reducible refine Below.drew ?_) | (with_reducible refine Below.drewN ?_) | ((with_reducible refine Below.al ?_ ?_); · first | omega | (simp; done) | (simp; omega)) | ((with_reducible refine Below.sc ?_ ?_); · first | omega | (simp; done) | (simp; omega)) | ((with_reducible refine Below.thru hb ?_ ?_); · first | omega | (simp; done) | (simp; omega))))
  have sw2 := kw2.size
  clear hb
  have a2 := A2.m
  have b2 := B2.m
  have s2 := k2.size
  clear A1 B1 a1 b1 k1
  go_wp2_with fail
  refine (H1.out _).mono ?_
  rintro e w3 ⟨rfl, hb⟩
  have k3 : Below w.heap.size w w3 := (by repeat (first | (with_reducible exact Below.refl _ _) | (with_reducible assumption) | (with_reducible refine Below.drew ?_) | (with_reducible refine Below.drewN ?_) | ((with_reducible refine Below.al ?_ ?_); · first | omega | (simp; done) | (simp; omega)) | ((with_reducible refine Below.sc ?_ ?_); · first | omega | (simp; done) | (simp; omega)) | ((with_reducible refine Below.thru hb ?_ ?_); · first | omega | (simp; done) | (simp; omega))))
  have B3 : Blk w3 (w.heap.size + 1) 25 (mcs n) := (by repeat (first | (with_reducible assumption) | ((with_reducible refine Blk.new ?_); · first | omega | (simp; done) | (simp; omega)) | (with_reducible apply Blk.set4) | (with_reducible apply Blk.set3) | (with_reducible apply Blk.set2) | ((with_reducible refine Blk.put ?_ ?_); · first | omega | (simp; omega)) | (with_reducible refine Blk.old ?_) | (with_reducible refine Blk.drew ?_) | (with_reducible refine Blk.drewN ?_) | ((with_reducible refine Blk.below hb ?_ ?_); · first | omega | (simp; done) | (simp; omega))))
  have b3 := B3.m
  have s3 := k3.size
  clear hb a2 b2 A2 B2 k2
  go_wp2_with fail
  refine (H2.out _).mono ?_
  rintro e w4 ⟨rfl, hb⟩
  have k4 : Below w.heap.size w w4 := (by repeat (first | (with_reducible exact Below.refl _ _) | (with_reducible assumption) | (with_reducible refine Below.drew ?_) | (with_reducible refine Below.drewN ?_) | ((with_reducible refine Below.al ?_ ?_); · first | omega | (simp; done) | (simp; omega)) | ((with_reducible refine Below.sc ?_ ?_); · first | omega | (simp; done) | (simp; omega)) | ((with_reducible refine Below.thru hb ?_ ?_); · first | omega | (simp; done) | (simp; omega))))
  clear hb b3 B3 k3 H1 H2
  by_cases h1 : rc = 0
  · by_cases h2 : sc = 0
    · have HF := Lib.hid (HX.out _ (HY.out h1 h2))
      have d1 : decide (rc = 0) = true := decide_eq_true h1
      have d2 : decide (sc = 0) = true := decide_eq_true h2
      rw [d1, d2]
      clear HX HY HN h1 h2 d1 d2
      go_wp2
      exact HF.out _ k4
    · have HF := Lib.hid (HX.out _ (HN.out (fun e => h2 e.2)))
      have d1 : decide (rc = 0) = true := decide_eq_true h1
      have d2 : decide (sc = 0) = false := decide_eq_false h2
      rw [d1, d2]
      clear HX HY HN h1 h2 d1 d2
      go_wp2
      exact HF.out _ k4
  · have HF := Lib.hid (HX.out _ (HN.out (fun e => h1 e.1)))
    have d1 : decide (rc = 0) = false := decide_eq_false h1
    rw [d1]
    clear HX HY HN h1 d1
    go_wp2
    exact HF.out _ k4

/-- Twins: the inverse, and the mirrored matrix. -/
def M.mir (m : M) : M := ⟨m.a, -m.b, -m.c, m.d⟩
theorem twin_ents {m n : M} (h : m.ents = true) (hn : n = ⟨m.d, -m.b, -m.c, m.a⟩ ∨ n = ⟨m.a, -m.b, -m.c, m.d⟩) : n.ents = true := by
  obtain ⟨h1, h2, h3, h4⟩ := M.ents_bd h
  have e := fun x (hx : -1000000000 ≤ x ∧ x ≤ 1000000000) => entB_mk hx
  rcases hn with rfl | rfl <;> simp only [M.ents, List.all_cons, List.all_nil, Bool.and_true, Bool.and_eq_true] <;> exact ⟨e _ (by omega), e _ (by omega), e _ (by omega), e _ (by omega)⟩
structure Twin (m n : M) : Prop where
  ok : n.ok = true
  kind : kindV n = kindV m
  tr : n.tr = m.tr
theorem twin_of {m n : M} (h : m.ok = true) (hn : n = ⟨m.d, -m.b, -m.c, m.a⟩ ∨ n = ⟨m.a, -m.b, -m.c, m.d⟩) : Twin m n := by
  have ht : n.tr = m.tr := by
    rcases hn with rfl | rfl
    · exact Int.add_comm _ _
    · rfl
  refine ⟨?_, ?_, ht⟩
  · have hd := M.ok_det h
    have he := twin_ents (M.ok_ents h) hn
    unfold M.ok
    rw [he, Bool.true_and, beq_iff_eq]
    unfold M.det at *
    rcases hn with rfl | rfl
    · show m.d * m.a - -m.b * -m.c = 1
      rw [Int.neg_mul_neg, Int.mul_comm m.d m.a]
      exact hd
    · show m.a * m.d - -m.b * -m.c = 1
      rw [Int.neg_mul_neg]
      exact hd
  · unfold kindV
    rw [ht]
    rcases hn with rfl | rfl <;> simp
/-- What IsReciprocal gives, the same from both. -/
structure IsReciprocalR (m : M) (r : Bool × Int) : Prop where
  impl : ∀ w : World, Calls Tryz.prog 13 #[mv m] w fun e w' => e = .returned (.tuple #[.bool r.1, .int .i64 r.2]) ∧ Below w.heap.size w w'
  spec : ∀ w : World, Calls Tryz.prog 12 #[mv m] w fun e w' => e = .returned (.tuple #[.bool r.1, .int .i64 r.2]) ∧ Below w.heap.size w w'
set_option maxHeartbeats 1000000 in
theorem IsReciprocal_R (m : M) : ∃ r, IsReciprocalR m r := by
  by_cases hz : kcV m 3 = 0
  · have h : m.ok = true := by
      unfold kcV at hz
      split at hz
      · assumption
      · exact absurd hz (by decide)
    have hk : kindV m = 3 := by
      unfold kcV at hz
      rw [if_pos h] at hz
      split at hz
      · assumption
      · exact absurd hz (by decide)
    have ht := twin_of (n := m.inv) h (.inl rfl)
    have hk2 : kindV m.inv = 3 := ht.kind.trans hk
    obtain ⟨r1, HR1⟩ := cycR m h hk
    obtain ⟨r2, HR2⟩ := cycR m.inv ht.ok hk2
    have H1 := Lib.hid (fun W => sameWords_any m m.inv r1 r2 HR1 HR2 W)
    have H2 := Lib.hid (fun W => l04Conj3_any m m.inv r1 r2 HR1 HR2 h ht.ok hk hk2 ht.tr W)
    have HE := Lib.hid (M.ok_ents h)
    have HZ := Lib.hid hz
    have hb := M.ents_bd (M.ok_ents h)
    generalize swR r1 r2 = q at *
    obtain ⟨qb, qc⟩ := q
    clear HR1 HR2 hz hk h ht hk2
    unfold GivesS at H1 H2
    refine ⟨(qb, qc), fun w => ?_, fun w => ?_⟩
    · go_enter Tryz.func13, Tryz.ntmps13
      go_wp2_with fail
      refine (kindCode_any m 3 _).mono ?_
      rw [HZ.out]
      rintro e w1 ⟨rfl, hb1⟩
      have k1 : Below w.heap.size w w1 := by have hb := hb1; exact (by repeat (first | (with_reducible exact Below.refl _ _) | (with_reducible assumption) | (with_reducible refine Below.drew ?_) | (with_reducible refine Below.drewN ?_) | ((with_reducible refine Below.al ?_ ?_); · first | omega | (simp; done) | (simp; omega)) | ((with_reducible refine Below.sc ?_ ?_); · first | omega | (simp; done) | (simp; omega)) | ((with_reducible refine Below.thru hb ?_ ?_); · first | omega | (simp; done) | (simp; omega))))
      have B1 : Blk w1 w.heap.size 25 (mcs m) := by have hb := hb1; exact (by repeat (first | (with_reducible assumption) | ((with_reducible refine Blk.new ?_); · first | omega | (simp; done) | (simp; omega)) | (with_reducible apply Blk.set4) | (with_reducible apply Blk.set3) | (with_reducible apply Blk.set2) | ((with_reducible refine Blk.put ?_ ?_); · first | omega | (simp; omega)) | (with_reducible refine Blk.old ?_) | (with_reducible refine Blk.drew ?_) | (with_reducible refine Blk.drewN ?_) | ((with_reducible refine Blk.below hb ?_ ?_); · first | omega | (simp; done) | (simp; omega))))
      have q1 := B1.m
      have p1 := B1.later4
      have s1 := k1.size
      have lB1 := B1.lt
      clear hb1
      go_wp2_with fail
      refine wp_region_calm (by kernel_rfl) (by kernel_rfl) ?_
      repeat (go_big_quiet_step (first | (go_at_call 23; with_reducible exact Calls.calm ((inverse_any m _ HE.out))) | (go_at_call 21; with_reducible exact Calls.calm ((H1.out _)))))
      refine wpQuiet_nil ?_
      rintro w3 ⟨⟨_, hb⟩, rfl⟩
      have k3 : Below w.heap.size w w3 := (by repeat (first | (with_reducible exact Below.refl _ _) | (with_reducible assumption) | (with_reducible refine Below.drew ?_) | (with_reducible refine Below.drewN ?_) | ((with_reducible refine Below.al ?_ ?_); · first | omega | (simp; done) | (simp; omega)) | ((with_reducible refine Below.sc ?_ ?_); · first | omega | (simp; done) | (simp; omega)) | ((with_reducible refine Below.thru hb ?_ ?_); · first | omega | (simp; done) | (simp; omega))))
      have kw3 : Below w.heap.size w w3 := (by repeat (first | (with_reducible exact Below.refl _ _) | (with_reducible assumption) | (with_reducible refine Below.drew ?_) | (with_reducible refine Below.drewN ?_) | ((with_reducible refine Below.al ?_ ?_); · first | omega | (simp; done) | (simp; omega)) | ((with_reducible refine Below.sc ?_ ?_); · first | omega | (simp; done) | (simp; omega)) | ((with_reducible refine Below.thru hb ?_ ?_); · first | omega | (simp; done) | (simp; omega))))
      have sw3 := kw3.size
      clear hb
      go_wp2
      go_ret2
      exact ⟨rfl, k3⟩
    · go_enter Tryz.func12, Tryz.ntmps12
      go_wp2_with fail
      refine (l04Kind_any m 3 _).mono ?_
      rw [HZ.out]
      rintro e w1 ⟨rfl, hb1⟩
      have k1 : Below w.heap.size w w1 := by have hb := hb1; exact (by repeat (first | (with_reducible exact Below.refl _ _) | (with_reducible assumption) | (with_reducible refine Below.drew ?_) | (with_reducible refine Below.drewN ?_) | ((with_reducible refine Below.al ?_ ?_); · first | omega | (simp; done) | (simp; omega)) | ((with_reducible refine Below.sc ?_ ?_); · first | omega | (simp; done) | (simp; omega)) | ((with_reducible refine Below.thru hb ?_ ?_); · first | omega | (simp; done) | (simp; omega))))
      have B1 : Blk w1 w.heap.size 25 (mcs m) := by have hb := hb1; exact (by repeat (first | (with_reducible assumption) | ((with_reducible refine Blk.new ?_); · first | omega | (simp; done) | (simp; omega)) | (with_reducible apply Blk.set4) | (with_reducible apply Blk.set3) | (with_reducible apply Blk.set2) | ((with_reducible refine Blk.put ?_ ?_); · first | omega | (simp; omega)) | (with_reducible refine Blk.old ?_) | (with_reducible refine Blk.drew ?_) | (with_reducible refine Blk.drewN ?_) | ((with_reducible refine Blk.below hb ?_ ?_); · first | omega | (simp; done) | (simp; omega))))
      have q1 := B1.m
      have p1 := B1.later4
      have s1 := k1.size
      have lB1 := B1.lt
      clear hb1
      go_wp2_with fail
      refine wp_region_calm (by kernel_rfl) (by kernel_rfl) ?_
      repeat (go_big_quiet_step (first | (go_at_call 22; with_reducible exact Calls.calm ((l01Inverse_any m _ HE.out))) | (go_at_call 20; with_reducible exact Calls.calm ((H2.out _)))))
      refine wpQuiet_nil ?_
      rintro w3 ⟨⟨_, hb⟩, rfl⟩
      have k3 : Below w.heap.size w w3 := (by repeat (first | (with_reducible exact Below.refl _ _) | (with_reducible assumption) | (with_reducible refine Below.drew ?_) | (with_reducible refine Below.drewN ?_) | ((with_reducible refine Below.al ?_ ?_); · first | omega | (simp; done) | (simp; omega)) | ((with_reducible refine Below.sc ?_ ?_); · first | omega | (simp; done) | (simp; omega)) | ((with_reducible refine Below.thru hb ?_ ?_); · first | omega | (simp; done) | (simp; omega))))
      have kw3 : Below w.heap.size w w3 := (by repeat (first | (with_reducible exact Below.refl _ _) | (with_reducible assumption) | (with_reducible refine Below.drew ?_) | (with_reducible refine Below.drewN ?_) | ((with_reducible refine Below.al ?_ ?_); · first | omega | (simp; done) | (simp; omega)) | ((with_reducible refine Below.sc ?_ ?_); · first | omega | (simp; done) | (simp; omega)) | ((with_reducible refine Below.thru hb ?_ ?_); · first | omega | (simp; done) | (simp; omega))))
      have sw3 := kw3.size
      clear hb
      go_wp2
      go_ret2
      exact ⟨rfl, k3⟩
  · have HZ := Lib.hid hz
    clear hz
    generalize hkc : kcV m 3 = kc at *
    have HKC := Lib.hid hkc
    clear hkc
    have hne : (kc != 0) = true := bne_iff_ne.2 HZ.out
    refine ⟨(false, kc), fun w => ?_, fun w => ?_⟩
    · go_enter Tryz.func13, Tryz.ntmps13
      go_wp2_with fail
      refine (kindCode_any m 3 _).mono ?_
      rw [HKC.out]
      rintro e w1 ⟨rfl, hb⟩
      have k1 : Below w.heap.size w w1 := (by repeat (first | (with_reducible exact Below.refl _ _) | (with_reducible assumption) | (with_reducible refine Below.drew ?_) | (with_reducible refine Below.drewN ?_) | ((with_reducible refine Below.al ?_ ?_); · first | omega | (simp; done) | (simp; omega)) | ((with_reducible refine Below.sc ?_ ?_); · first | omega | (simp; done) | (simp; omega)) | ((with_reducible refine Below.thru hb ?_ ?_); · first | omega | (simp; done) | (simp; omega))))
      clear hb
      go_wp2
      go_ret2
      exact ⟨rfl, k1⟩
    · go_enter Tryz.func12, Tryz.ntmps12
      go_wp2_with fail
      refine (l04Kind_any m 3 _).mono ?_
      rw [HKC.out]
      rintro e w1 ⟨rfl, hb⟩
      have k1 : Below w.heap.size w w1 := (by repeat (first | (with_reducible exact Below.refl _ _) | (with_reducible assumption) | (with_reducible refine Below.drew ?_) | (with_reducible refine Below.drewN ?_) | ((with_reducible refine Below.al ?_ ?_); · first | omega | (simp; done) | (simp; omega)) | ((with_reducible refine Below.sc ?_ ?_); · first | omega | (simp; done) | (simp; omega)) | ((with_reducible refine Below.thru hb ?_ ?_); · first | omega | (simp; done) | (simp; omega))))
      clear hb
      go_wp2
      go_ret2
      exact ⟨rfl, k1⟩
/-- What IsMirrored gives, the same from both. -/
structure IsMirroredR (m : M) (r : Bool × Int) : Prop where
  impl : ∀ w : World, Calls Tryz.prog 11 #[mv m] w fun e w' => e = .returned (.tuple #[.bool r.1, .int .i64 r.2]) ∧ Below w.heap.size w w'
  spec : ∀ w : World, Calls Tryz.prog 10 #[mv m] w fun e w' => e = .returned (.tuple #[.bool r.1, .int .i64 r.2]) ∧ Below w.heap.size w w'
set_option maxHeartbeats 1000000 in
theorem IsMirrored_R (m : M) : ∃ r, IsMirroredR m r := by
  by_cases hz : kcV m 3 = 0
  · have h : m.ok = true := by
      unfold kcV at hz
      split at hz
      · assumption
      · exact absurd hz (by decide)
    have hk : kindV m = 3 := by
      unfold kcV at hz
      rw [if_pos h] at hz
      split at hz
      · assumption
      · exact absurd hz (by decide)
    have ht := twin_of (n := m.mir) h (.inr rfl)
    have hk2 : kindV m.mir = 3 := ht.kind.trans hk
    obtain ⟨r1, HR1⟩ := cycR m h hk
    obtain ⟨r2, HR2⟩ := cycR m.mir ht.ok hk2
    have H1 := Lib.hid (fun W => sameWords_any m m.mir r1 r2 HR1 HR2 W)
    have H2 := Lib.hid (fun W => l04Conj3_any m m.mir r1 r2 HR1 HR2 h ht.ok hk hk2 ht.tr W)
    have HE := Lib.hid (M.ok_ents h)
    have HZ := Lib.hid hz
    have hb := M.ents_bd (M.ok_ents h)
    generalize swR r1 r2 = q at *
    obtain ⟨qb, qc⟩ := q
    clear HR1 HR2 hz hk h ht hk2
    unfold GivesS at H1 H2
    refine ⟨(qb, qc), fun w => ?_, fun w => ?_⟩
    · go_enter Tryz.func11, Tryz.ntmps11
      go_wp2_with fail
      refine (kindCode_any m 3 _).mono ?_
      rw [HZ.out]
      rintro e w1 ⟨rfl, hb1⟩
      have k1 : Below w.heap.size w w1 := by have hb := hb1; exact (by repeat (first | (with_reducible exact Below.refl _ _) | (with_reducible assumption) | (with_reducible refine Below.drew ?_) | (with_reducible refine Below.drewN ?_) | ((with_reducible refine Below.al ?_ ?_); · first | omega | (simp; done) | (simp; omega)) | ((with_reducible refine Below.sc ?_ ?_); · first | omega | (simp; done) | (simp; omega)) | ((with_reducible refine Below.thru hb ?_ ?_); · first | omega | (simp; done) | (simp; omega))))
      have B1 : Blk w1 w.heap.size 25 (mcs m) := by have hb := hb1; exact (by repeat (first | (with_reducible assumption) | ((with_reducible refine Blk.new ?_); · first | omega | (simp; done) | (simp; omega)) | (with_reducible apply Blk.set4) | (with_reducible apply Blk.set3) | (with_reducible apply Blk.set2) | ((with_reducible refine Blk.put ?_ ?_); · first | omega | (simp; omega)) | (with_reducible refine Blk.old ?_) | (with_reducible refine Blk.drew ?_) | (with_reducible refine Blk.drewN ?_) | ((with_reducible refine Blk.below hb ?_ ?_); · first | omega | (simp; done) | (simp; omega))))
      have q1 := B1.m
      have p1 := B1.later4
      have s1 := k1.size
      have lB1 := B1.lt
      clear hb1
      go_wp2_with fail
      refine (H1.out _).mono ?_
      rintro e w3 ⟨rfl, hb1⟩
      have k3 : Below w.heap.size w w3 := by have hb := hb1; exact (by repeat (first | (with_reducible exact Below.refl _ _) | (with_reducible assumption) | (with_reducible refine Below.drew ?_) | (with_reducible refine Below.drewN ?_) | ((with_reducible refine Below.al ?_ ?_); · first | omega | (simp; done) | (simp; omega)) | ((with_reducible refine Below.sc ?_ ?_); · first | omega | (simp; done) | (simp; omega)) | ((with_reducible refine Below.thru hb ?_ ?_); · first | omega | (simp; done) | (simp; omega))))
      clear hb1
      go_wp2
      go_ret2
      exact ⟨rfl, k3⟩
    · go_enter Tryz.func10, Tryz.ntmps10
      go_wp2_with fail
      refine (l04Kind_any m 3 _).mono ?_
      rw [HZ.out]
      rintro e w1 ⟨rfl, hb1⟩
      have k1 : Below w.heap.size w w1 := by have hb := hb1; exact (by repeat (first | (with_reducible exact Below.refl _ _) | (with_reducible assumption) | (with_reducible refine Below.drew ?_) | (with_reducible refine Below.drewN ?_) | ((with_reducible refine Below.al ?_ ?_); · first | omega | (simp; done) | (simp; omega)) | ((with_reducible refine Below.sc ?_ ?_); · first | omega | (simp; done) | (simp; omega)) | ((with_reducible refine Below.thru hb ?_ ?_); · first | omega | (simp; done) | (simp; omega))))
      have B1 : Blk w1 w.heap.size 25 (mcs m) := by have hb := hb1; exact (by repeat (first | (with_reducible assumption) | ((with_reducible refine Blk.new ?_); · first | omega | (simp; done) | (simp; omega)) | (with_reducible apply Blk.set4) | (with_reducible apply Blk.set3) | (with_reducible apply Blk.set2) | ((with_reducible refine Blk.put ?_ ?_); · first | omega | (simp; omega)) | (with_reducible refine Blk.old ?_) | (with_reducible refine Blk.drew ?_) | (with_reducible refine Blk.drewN ?_) | ((with_reducible refine Blk.below hb ?_ ?_); · first | omega | (simp; done) | (simp; omega))))
      have q1 := B1.m
      have p1 := B1.later4
      have s1 := k1.size
      have lB1 := B1.lt
      clear hb1
      go_wp2_with fail
      refine (H2.out _).mono ?_
      rintro e w3 ⟨rfl, hb1⟩
      have k3 : Below w.heap.size w w3 := by have hb := hb1; exact (by repeat (first | (with_reducible exact Below.refl _ _) | (with_reducible assumption) | (with_reducible refine Below.drew ?_) | (with_reducible refine Below.drewN ?_) | ((with_reducible refine Below.al ?_ ?_); · first | omega | (simp; done) | (simp; omega)) | ((with_reducible refine Below.sc ?_ ?_); · first | omega | (simp; done) | (simp; omega)) | ((with_reducible refine Below.thru hb ?_ ?_); · first | omega | (simp; done) | (simp; omega))))
      clear hb1
      go_wp2
      go_ret2
      exact ⟨rfl, k3⟩
  · have HZ := Lib.hid hz
    clear hz
    generalize hkc : kcV m 3 = kc at *
    have HKC := Lib.hid hkc
    clear hkc
    have hne : (kc != 0) = true := bne_iff_ne.2 HZ.out
    refine ⟨(false, kc), fun w => ?_, fun w => ?_⟩
    · go_enter Tryz.func11, Tryz.ntmps11
      go_wp2_with fail
      refine (kindCode_any m 3 _).mono ?_
      rw [HKC.out]
      rintro e w1 ⟨rfl, hb⟩
      have k1 : Below w.heap.size w w1 := (by repeat (first | (with_reducible exact Below.refl _ _) | (with_reducible assumption) | (with_reducible refine Below.drew ?_) | (with_reducible refine Below.drewN ?_) | ((with_reducible refine Below.al ?_ ?_); · first | omega | (simp; done) | (simp; omega)) | ((with_reducible refine Below.sc ?_ ?_); · first | omega | (simp; done) | (simp; omega)) | ((with_reducible refine Below.thru hb ?_ ?_); · first | omega | (simp; done) | (simp; omega))))
      clear hb
      go_wp2
      go_ret2
      exact ⟨rfl, k1⟩
    · go_enter Tryz.func10, Tryz.ntmps10
      go_wp2_with fail
      refine (l04Kind_any m 3 _).mono ?_
      rw [HKC.out]
      rintro e w1 ⟨rfl, hb⟩
      have k1 : Below w.heap.size w w1 := (by repeat (first | (with_reducible exact Below.refl _ _) | (with_reducible assumption) | (with_reducible refine Below.drew ?_) | (with_reducible refine Below.drewN ?_) | ((with_reducible refine Below.al ?_ ?_); · first | omega | (simp; done) | (simp; omega)) | ((with_reducible refine Below.sc ?_ ?_); · first | omega | (simp; done) | (simp; omega)) | ((with_reducible refine Below.thru hb ?_ ?_); · first | omega | (simp; done) | (simp; omega))))
      clear hb
      go_wp2
      go_ret2
      exact ⟨rfl, k1⟩

end Go.Proofs.YtfjmbpbilfhfbaaGreat
