/- The law FnExactAreConjugate: its walk. -/
import Derived.Test.YtfjmbpbilfhfbaaGreatAcj
import Derived.Test.YtfjmbpbilfhfbaaGreatLaw
import Derived.Test.YtfjmbpbilfhfbaaGreat01b
namespace Go.Proofs.YtfjmbpbilfhfbaaGreat
open Go.RowKit
set_option linter.unusedSimpArgs false

theorem specAre_ok (m n : M) (hm : m.ok = true) (hn : n.ok = true) (r : Bool × Int) (H : ∀ W : World, Calls Tryz.prog 20 #[mv m, mv n] W (GivesS r W)) (w : World) :
    Calls Tryz.prog 14 #[mv m, mv n] w (GivesS r w) := by
  have HH := Lib.hid H
  clear H
  obtain ⟨rb, rc⟩ := r
  go_enter Tryz.func14, Tryz.ntmps14
  have HX : Hid (∀ w', Below w.heap.size w w' → GivesS (rb, rc) w (.returned (.tuple #[.bool rb, .int .i64 rc])) w') := Lib.hid (fun w' hb => GivesS.mk hb)
  generalize GivesS (rb, rc) w = GF at *
  go_wp2_with fail
  refine (l01Is_any m _).mono ?_
  rw [hm]
  rintro e w1 ⟨rfl, hb⟩
  have k1 : Below w.heap.size w w1 := (by repeat (first | (with_reducible exact Below.refl _ _) | (with_reducible assumption) | (with_reducible refine Below.drew ?_) | (with_reducible refine Below.drewN ?_) | ((with_reducible refine Below.al ?_ ?_); · first | omega | (simp; done) | (simp; omega)) | ((with_reducible refine Below.sc ?_ ?_); · first | omega | (simp; done) | (simp; omega)) | ((with_reducible refine Below.thru hb ?_ ?_); · first | omega | (simp; done) | (simp; omega))))
  have A1 : Blk w1 w.heap.size 25 (mcs m) := (by repeat (first | (with_reducible assumption) | ((with_reducible refine Blk.new ?_); · first | omega | (simp; done) | (simp; omega)) | (with_reducible apply Blk.set4) | (with_reducible apply Blk.set3) | (with_reducible apply Blk.set2) | ((with_reducible refine Blk.put ?_ ?_); · first | omega | (simp; omega)) | (with_reducible refine Blk.old ?_) | (with_reducible refine Blk.drew ?_) | (with_reducible refine Blk.drewN ?_) | ((with_reducible refine Blk.below hb ?_ ?_); · first | omega | (simp; done) | (simp; omega))))
  have B1 : Blk w1 (w.heap.size + 1) 25 (mcs n) := (by repeat (first | (with_reducible assumption) | ((with_reducible refine Blk.new ?_); · first | omega | (simp; done) | (simp; omega)) | (with_reducible apply Blk.set4) | (with_reducible apply Blk.set3) | (with_reducible apply Blk.set2) | ((with_reducible refine Blk.put ?_ ?_); · first | omega | (simp; omega)) | (with_reducible refine Blk.old ?_) | (with_reducible refine Blk.drew ?_) | (with_reducible refine Blk.drewN ?_) | ((with_reducible refine Blk.below hb ?_ ?_); · first | omega | (simp; done) | (simp; omega))))
  have a1 := A1.m
  have b1 := B1.m
  have lA1 := A1.lt
  have lB1 := B1.lt
  have s1 := k1.size
  clear hb
  go_wp2_with fail
  refine (l01Is_any n _).mono ?_
  rw [hn]
  rintro e w2 ⟨rfl, hb⟩
  have k2 : Below w.heap.size w w2 := (by repeat (first | (with_reducible exact Below.refl _ _) | (with_reducible assumption) | (with_reducible refine Below.drew ?_) | (with_reducible refine Below.drewN ?_) | ((with_reducible refine Below.al ?_ ?_); · first | omega | (simp; done) | (simp; omega)) | ((with_reducible refine Below.sc ?_ ?_); · first | omega | (simp; done) | (simp; omega)) | ((with_reducible refine Below.thru hb ?_ ?_); · first | omega | (simp; done) | (simp; omega))))
  have A2 : Blk w2 w.heap.size 25 (mcs m) := (by repeat (first | (with_reducible assumption) | ((with_reducible refine Blk.new ?_); · first | omega | (simp; done) | (simp; omega)) | (with_reducible apply Blk.set4) | (with_reducible apply Blk.set3) | (with_reducible apply Blk.set2) | ((with_reducible refine Blk.put ?_ ?_); · first | omega | (simp; omega)) | (with_reducible refine Blk.old ?_) | (with_reducible refine Blk.drew ?_) | (with_reducible refine Blk.drewN ?_) | ((with_reducible refine Blk.below hb ?_ ?_); · first | omega | (simp; done) | (simp; omega))))
  have B2 : Blk w2 (w.heap.size + 1) 25 (mcs n) := (by repeat (first | (with_reducible assumption) | ((with_reducible refine Blk.new ?_); · first | omega | (simp; done) | (simp; omega)) | (with_reducible apply Blk.set4) | (with_reducible apply Blk.set3) | (with_reducible apply Blk.set2) | ((with_reducible refine Blk.put ?_ ?_); · first | omega | (simp; omega)) | (with_reducible refine Blk.old ?_) | (with_reducible refine Blk.drew ?_) | (with_reducible refine Blk.drewN ?_) | ((with_reducible refine Blk.below hb ?_ ?_); · first | omega | (simp; done) | (simp; omega))))
  have a2 := A2.m
  have b2 := B2.m
  have s2 := k2.size
  clear hb A1 B1 a1 b1 k1 hm hn
  go_wp2_with fail
  refine (HH.out _).mono ?_
  rintro e w3 ⟨rfl, hb⟩
  have k3 : Below w.heap.size w w3 := (by repeat (first | (with_reducible exact Below.refl _ _) | (with_reducible assumption) | (with_reducible refine Below.drew ?_) | (with_reducible refine Below.drewN ?_) | ((with_reducible refine Below.al ?_ ?_); · first | omega | (simp; done) | (simp; omega)) | ((with_reducible refine Below.sc ?_ ?_); · first | omega | (simp; done) | (simp; omega)) | ((with_reducible refine Below.thru hb ?_ ?_); · first | omega | (simp; done) | (simp; omega))))
  clear hb
  go_wp2
  exact HX.out _ k3
theorem specAre_no (m n : M) (h : (m.ok && n.ok) = false) (w : World) :
    Calls Tryz.prog 14 #[mv m, mv n] w (GivesS (false, 1) w) := by
  have HX : Hid (∀ w', Below w.heap.size w w' → GivesS (false, 1) w (.returned (.tuple #[.bool false, .int .i64 1])) w') := Lib.hid (fun w' hb => GivesS.mk hb)
  cases hm : m.ok with
  | false =>
    clear h
    go_enter Tryz.func14, Tryz.ntmps14
    generalize GivesS (false, 1) w = GF at *
    go_wp2_with fail
    refine (l01Is_any m _).mono ?_
    rw [hm]
    rintro e w1 ⟨rfl, hb⟩
    have k1 : Below w.heap.size w w1 := (by repeat (first | (with_reducible exact Below.refl _ _) | (with_reducible assumption) | (with_reducible refine Below.drew ?_) | (with_reducible refine Below.drewN ?_) | ((with_reducible refine Below.al ?_ ?_); · first | omega | (simp; done) | (simp; omega)) | ((with_reducible refine Below.sc ?_ ?_); · first | omega | (simp; done) | (simp; omega)) | ((with_reducible refine Below.thru hb ?_ ?_); · first | omega | (simp; done) | (simp; omega))))
    clear hb
    go_wp2
    exact HX.out _ k1
  | true =>
    have hn : n.ok = false := by rw [hm] at h; simpa using h
    clear h
    go_enter Tryz.func14, Tryz.ntmps14
    generalize GivesS (false, 1) w = GF at *
    go_wp2_with fail
    refine (l01Is_any m _).mono ?_
    rw [hm]
    rintro e w1 ⟨rfl, hb⟩
    have k1 : Below w.heap.size w w1 := (by repeat (first | (with_reducible exact Below.refl _ _) | (with_reducible assumption) | (with_reducible refine Below.drew ?_) | (with_reducible refine Below.drewN ?_) | ((with_reducible refine Below.al ?_ ?_); · first | omega | (simp; done) | (simp; omega)) | ((with_reducible refine Below.sc ?_ ?_); · first | omega | (simp; done) | (simp; omega)) | ((with_reducible refine Below.thru hb ?_ ?_); · first | omega | (simp; done) | (simp; omega))))
    have B1 : Blk w1 (w.heap.size + 1) 25 (mcs n) := (by repeat (first | (with_reducible assumption) | ((with_reducible refine Blk.new ?_); · first | omega | (simp; done) | (simp; omega)) | (with_reducible apply Blk.set4) | (with_reducible apply Blk.set3) | (with_reducible apply Blk.set2) | ((with_reducible refine Blk.put ?_ ?_); · first | omega | (simp; omega)) | (with_reducible refine Blk.old ?_) | (with_reducible refine Blk.drew ?_) | (with_reducible refine Blk.drewN ?_) | ((with_reducible refine Blk.below hb ?_ ?_); · first | omega | (simp; done) | (simp; omega))))
    have b1 := B1.m
    have s1 := k1.size
    clear hb
    go_wp2_with fail
    refine (l01Is_any n _).mono ?_
    rw [hn]
    rintro e w2 ⟨rfl, hb⟩
    have k2 : Below w.heap.size w w2 := (by repeat (first | (with_reducible exact Below.refl _ _) | (with_reducible assumption) | (with_reducible refine Below.drew ?_) | (with_reducible refine Below.drewN ?_) | ((with_reducible refine Below.al ?_ ?_); · first | omega | (simp; done) | (simp; omega)) | ((with_reducible refine Below.sc ?_ ?_); · first | omega | (simp; done) | (simp; omega)) | ((with_reducible refine Below.thru hb ?_ ?_); · first | omega | (simp; done) | (simp; omega))))
    clear hb
    go_wp2
    exact HX.out _ k2
theorem implAre_no (m n : M) (h : (m.ok && n.ok) = false) (w : World) :
    Calls Tryz.prog 15 #[mv m, mv n] w (GivesS (false, 1) w) := by
  have HX : Hid (∀ w', Below w.heap.size w w' → GivesS (false, 1) w (.returned (.tuple #[.bool false, .int .i64 1])) w') := Lib.hid (fun w' hb => GivesS.mk hb)
  have HO := Lib.hid (show [m, n].all M.ok = false by simpa using h)
  clear h
  go_enter Tryz.func15, Tryz.ntmps15
  generalize GivesS (false, 1) w = GF at *
  go_wp2_with fail
  refine (areMatrices_any (w.heap.size + 1 + 1) 0 2 [m, n] _ (by simp) (MRow.of2 (E := 25) (by repeat (first | (with_reducible assumption) | ((with_reducible refine Blk.new ?_); · first | omega | (simp; done) | (simp; omega)) | (with_reducible apply Blk.set4) | (with_reducible apply Blk.set3) | (with_reducible apply Blk.set2) | ((with_reducible refine Blk.put ?_ ?_); · first | omega | (simp; omega)) | (with_reducible refine Blk.old ?_) | (with_reducible refine Blk.drew ?_) | (with_reducible refine Blk.drewN ?_) | ((with_reducible refine Blk.below hb ?_ ?_); · first | omega | (simp; done) | (simp; omega)))))).mono ?_
  rintro e w1 ⟨rfl, hb⟩
  rw [HO.out]
  have k1 : Below w.heap.size w w1 := (by repeat (first | (with_reducible exact Below.refl _ _) | (with_reducible assumption) | (with_reducible refine Below.drew ?_) | (with_reducible refine Below.drewN ?_) | ((with_reducible refine Below.al ?_ ?_); · first | omega | (simp; done) | (simp; omega)) | ((with_reducible refine Below.sc ?_ ?_); · first | omega | (simp; done) | (simp; omega)) | ((with_reducible refine Below.thru hb ?_ ?_); · first | omega | (simp; done) | (simp; omega))))
  clear hb
  go_wp2
  exact HX.out _ k1
set_option maxRecDepth 8000 in
set_option maxHeartbeats 2000000 in
theorem implAre_ne (m n : M) (hm : m.ok = true) (hn : n.ok = true) (h : kindV m ≠ kindV n ∨ m.tr ≠ n.tr) (w : World) :
    Calls Tryz.prog 15 #[mv m, mv n] w (GivesS (false, 0) w) := by
  obtain ⟨⟨e1, e2⟩, e3, e4⟩ := M.ents_true (M.ok_ents hm)
  obtain ⟨⟨g1, g2⟩, g3, g4⟩ := M.ents_true (M.ok_ents hn)
  have HK1 := Lib.hid (fun W => kind_any m W hm)
  have HK2 := Lib.hid (fun W => kind_any n W hn)
  have HT1 := Lib.hid (fun W => trace_any m W e1 e4)
  have HT2 := Lib.hid (fun W => trace_any n W g1 g4)
  have HO := Lib.hid (show [m, n].all M.ok = true by simp [hm, hn])
  have HX : Hid (∀ w', Below w.heap.size w w' → GivesS (false, 0) w (.returned (.tuple #[.bool false, .int .i64 0])) w') := Lib.hid (fun w' hb => GivesS.mk hb)
  generalize GivesS (false, 0) w = GF at *
  clear hm hn e1 e2 e3 e4 g1 g2 g3 g4
  generalize kindV m = km at *
  generalize kindV n = kn at *
  generalize m.tr = tm at *
  generalize n.tr = tn at *
  by_cases hk : tm = tn
  · have hne : (tm != tn) = false := by rw [hk]; simp
    have hte : (km != kn) = true := bne_iff_ne.2 (h.resolve_right (fun e => e hk))
    clear h hk
    go_enter Tryz.func15, Tryz.ntmps15
    go_wp2_with fail
    refine (areMatrices_any (w.heap.size + 1 + 1) 0 2 [m, n] _ (by simp) (MRow.of2 (E := 25) (by repeat (first | (with_reducible assumption) | ((with_reducible refine Blk.new ?_); · first | omega | (simp; done) | (simp; omega)) | (with_reducible apply Blk.set4) | (with_reducible apply Blk.set3) | (with_reducible apply Blk.set2) | ((with_reducible refine Blk.put ?_ ?_); · first | omega | (simp; omega)) | (with_reducible refine Blk.old ?_) | (with_reducible refine Blk.drew ?_) | (with_reducible refine Blk.drewN ?_) | ((with_reducible refine Blk.below hb ?_ ?_); · first | omega | (simp; done) | (simp; omega)))))).mono ?_
    rintro e w1 ⟨rfl, hb⟩
    rw [HO.out]
    have k1 : Below w.heap.size w w1 := (by repeat (first | (with_reducible exact Below.refl _ _) | (with_reducible assumption) | (with_reducible refine Below.drew ?_) | (with_reducible refine Below.drewN ?_) | ((with_reducible refine Below.al ?_ ?_); · first | omega | (simp; done) | (simp; omega)) | ((with_reducible refine Below.sc ?_ ?_); · first | omega | (simp; done) | (simp; omega)) | ((with_reducible refine Below.thru hb ?_ ?_); · first | omega | (simp; done) | (simp; omega))))
    have A1 : Blk w1 w.heap.size 25 (mcs m) := (by repeat (first | (with_reducible assumption) | ((with_reducible refine Blk.new ?_); · first | omega | (simp; done) | (simp; omega)) | (with_reducible apply Blk.set4) | (with_reducible apply Blk.set3) | (with_reducible apply Blk.set2) | ((with_reducible refine Blk.put ?_ ?_); · first | omega | (simp; omega)) | (with_reducible refine Blk.old ?_) | (with_reducible refine Blk.drew ?_) | (with_reducible refine Blk.drewN ?_) | ((with_reducible refine Blk.below hb ?_ ?_); · first | omega | (simp; done) | (simp; omega))))
    have B1 : Blk w1 (w.heap.size + 1) 25 (mcs n) := (by repeat (first | (with_reducible assumption) | ((with_reducible refine Blk.new ?_); · first | omega | (simp; done) | (simp; omega)) | (with_reducible apply Blk.set4) | (with_reducible apply Blk.set3) | (with_reducible apply Blk.set2) | ((with_reducible refine Blk.put ?_ ?_); · first | omega | (simp; omega)) | (with_reducible refine Blk.old ?_) | (with_reducible refine Blk.drew ?_) | (with_reducible refine Blk.drewN ?_) | ((with_reducible refine Blk.below hb ?_ ?_); · first | omega | (simp; done) | (simp; omega))))
    have a1 := A1.later4
    have b1 := B1.later4
    have lA1 := A1.lt
    have lB1 := B1.lt
    have s1 := k1.size
    clear hb HO
    go_wp2_with fail
    refine wp_region_calm (by kernel_rfl) (by kernel_rfl) ?_
    repeat (go_big_quiet_step (first | (go_at_call 26; with_reducible exact Calls.calm ((HT1.out _))) | (go_at_call 26; with_reducible exact Calls.calm ((HT2.out _))) | (go_at_call 27; with_reducible exact Calls.calm ((HK1.out _))) | (go_at_call 27; with_reducible exact Calls.calm ((HK2.out _)))))
    refine wpQuiet_nil ?_
    rintro w2 ⟨⟨_, hb⟩, rfl⟩
    have k2 : Below w.heap.size w w2 := (by repeat (first | (with_reducible exact Below.refl _ _) | (with_reducible assumption) | (with_reducible refine Below.drew ?_) | (with_reducible refine Below.drewN ?_) | ((with_reducible refine Below.al ?_ ?_); · first | omega | (simp; done) | (simp; omega)) | ((with_reducible refine Below.sc ?_ ?_); · first | omega | (simp; done) | (simp; omega)) | ((with_reducible refine Below.thru hb ?_ ?_); · first | omega | (simp; done) | (simp; omega))))
    have kw2 : Below w.heap.size w w2 := (by repeat (first | (with_reducible exact Below.refl _ _) | (with_reducible assumption) | (with_reducible refine Below.drew ?_) | (with_reducible refine Below.drewN ?_) | ((with_reducible refine Below.al ?_ ?_); · first | omega | (simp; done) | (simp; omega)) | ((with_reducible refine Below.sc ?_ ?_); · first | omega | (simp; done) | (simp; omega)) | ((with_reducible refine Below.thru hb ?_ ?_); · first | omega | (simp; done) | (simp; omega))))
    have sw2 := kw2.size
    clear hb
    go_wp2
    exact HX.out _ k2
  · have hne : (tm != tn) = true := bne_iff_ne.2 hk
    clear h hk
    go_enter Tryz.func15, Tryz.ntmps15
    go_wp2_with fail
    refine (areMatrices_any (w.heap.size + 1 + 1) 0 2 [m, n] _ (by simp) (MRow.of2 (E := 25) (by repeat (first | (with_reducible assumption) | ((with_reducible refine Blk.new ?_); · first | omega | (simp; done) | (simp; omega)) | (with_reducible apply Blk.set4) | (with_reducible apply Blk.set3) | (with_reducible apply Blk.set2) | ((with_reducible refine Blk.put ?_ ?_); · first | omega | (simp; omega)) | (with_reducible refine Blk.old ?_) | (with_reducible refine Blk.drew ?_) | (with_reducible refine Blk.drewN ?_) | ((with_reducible refine Blk.below hb ?_ ?_); · first | omega | (simp; done) | (simp; omega)))))).mono ?_
    rintro e w1 ⟨rfl, hb⟩
    rw [HO.out]
    have k1 : Below w.heap.size w w1 := (by repeat (first | (with_reducible exact Below.refl _ _) | (with_reducible assumption) | (with_reducible refine Below.drew ?_) | (with_reducible refine Below.drewN ?_) | ((with_reducible refine Below.al ?_ ?_); · first | omega | (simp; done) | (simp; omega)) | ((with_reducible refine Below.sc ?_ ?_); · first | omega | (simp; done) | (simp; omega)) | ((with_reducible refine Below.thru hb ?_ ?_); · first | omega | (simp; done) | (simp; omega))))
    have A1 : Blk w1 w.heap.size 25 (mcs m) := (by repeat (first | (with_reducible assumption) | ((with_reducible refine Blk.new ?_); · first | omega | (simp; done) | (simp; omega)) | (with_reducible apply Blk.set4) | (with_reducible apply Blk.set3) | (with_reducible apply Blk.set2) | ((with_reducible refine Blk.put ?_ ?_); · first | omega | (simp; omega)) | (with_reducible refine Blk.old ?_) | (with_reducible refine Blk.drew ?_) | (with_reducible refine Blk.drewN ?_) | ((with_reducible refine Blk.below hb ?_ ?_); · first | omega | (simp; done) | (simp; omega))))
    have B1 : Blk w1 (w.heap.size + 1) 25 (mcs n) := (by repeat (first | (with_reducible assumption) | ((with_reducible refine Blk.new ?_); · first | omega | (simp; done) | (simp; omega)) | (with_reducible apply Blk.set4) | (with_reducible apply Blk.set3) | (with_reducible apply Blk.set2) | ((with_reducible refine Blk.put ?_ ?_); · first | omega | (simp; omega)) | (with_reducible refine Blk.old ?_) | (with_reducible refine Blk.drew ?_) | (with_reducible refine Blk.drewN ?_) | ((with_reducible refine Blk.below hb ?_ ?_); · first | omega | (simp; done) | (simp; omega))))
    have a1 := A1.later4
    have b1 := B1.later4
    have lA1 := A1.lt
    have lB1 := B1.lt
    have s1 := k1.size
    clear hb HO
    go_wp2_with fail
    refine wp_region_calm (by kernel_rfl) (by kernel_rfl) ?_
    repeat (go_big_quiet_step (first | (go_at_call 26; with_reducible exact Calls.calm ((HT1.out _))) | (go_at_call 26; with_reducible exact Calls.calm ((HT2.out _)))))
    refine wpQuiet_nil ?_
    rintro w2 ⟨⟨_, hb⟩, rfl⟩
    have k2 : Below w.heap.size w w2 := (by repeat (first | (with_reducible exact Below.refl _ _) | (with_reducible assumption) | (with_reducible refine Below.drew ?_) | (with_reducible refine Below.drewN ?_) | ((with_reducible refine Below.al ?_ ?_); · first | omega | (simp; done) | (simp; omega)) | ((with_reducible refine Below.sc ?_ ?_); · first | omega | (simp; done) | (simp; omega)) | ((with_reducible refine Below.thru hb ?_ ?_); · first | omega | (simp; done) | (simp; omega))))
    have kw2 : Below w.heap.size w w2 := (by repeat (first | (with_reducible exact Below.refl _ _) | (with_reducible assumption) | (with_reducible refine Below.drew ?_) | (with_reducible refine Below.drewN ?_) | ((with_reducible refine Below.al ?_ ?_); · first | omega | (simp; done) | (simp; omega)) | ((with_reducible refine Below.sc ?_ ?_); · first | omega | (simp; done) | (simp; omega)) | ((with_reducible refine Below.thru hb ?_ ?_); · first | omega | (simp; done) | (simp; omega))))
    have sw2 := kw2.size
    clear hb
    go_wp2
    exact HX.out _ k2
set_option maxRecDepth 8000 in
set_option maxHeartbeats 2000000 in
theorem implAre_0 (m n : M) (hm : m.ok = true) (hn : n.ok = true) (km : kindV m = 0) (kn : kindV n = 0) (ht : m.tr = n.tr) (w : World) :
    Calls Tryz.prog 15 #[mv m, mv n] w (GivesS (true, 0) w) := by
  obtain ⟨⟨e1, e2⟩, e3, e4⟩ := M.ents_true (M.ok_ents hm)
  obtain ⟨⟨g1, g2⟩, g3, g4⟩ := M.ents_true (M.ok_ents hn)
  have HK1 := Lib.hid (fun W => kind_any m W hm)
  have HK2 := Lib.hid (fun W => kind_any n W hn)
  have HT1 := Lib.hid (fun W => trace_any m W e1 e4)
  have HT2 := Lib.hid (fun W => trace_any n W g1 g4)
  have HO := Lib.hid (show [m, n].all M.ok = true by simp [hm, hn])
  rw [km] at HK1
  rw [kn] at HK2
  rw [ht] at HT1
  have HX : Hid (∀ w', Below w.heap.size w w' → GivesS (true, 0) w (.returned (.tuple #[.bool true, .int .i64 0])) w') := Lib.hid (fun w' hb => GivesS.mk hb)
  generalize GivesS (true, 0) w = GF at *
  clear hm hn e1 e2 e3 e4 g1 g2 g3 g4 km kn ht
  generalize n.tr = tn at *
  go_enter Tryz.func15, Tryz.ntmps15
  go_wp2_with fail
  refine (areMatrices_any (w.heap.size + 1 + 1) 0 2 [m, n] _ (by simp) (MRow.of2 (E := 25) (by repeat (first | (with_reducible assumption) | ((with_reducible refine Blk.new ?_); · first | omega | (simp; done) | (simp; omega)) | (with_reducible apply Blk.set4) | (with_reducible apply Blk.set3) | (with_reducible apply Blk.set2) | ((with_reducible refine Blk.put ?_ ?_); · first | omega | (simp; omega)) | (with_reducible refine Blk.old ?_) | (with_reducible refine Blk.drew ?_) | (with_reducible refine Blk.drewN ?_) | ((with_reducible refine Blk.below hb ?_ ?_); · first | omega | (simp; done) | (simp; omega)))))).mono ?_
  rintro e w1 ⟨rfl, hb⟩
  rw [HO.out]
  have k1 : Below w.heap.size w w1 := (by repeat (first | (with_reducible exact Below.refl _ _) | (with_reducible assumption) | (with_reducible refine Below.drew ?_) | (with_reducible refine Below.drewN ?_) | ((with_reducible refine Below.al ?_ ?_); · first | omega | (simp; done) | (simp; omega)) | ((with_reducible refine Below.sc ?_ ?_); · first | omega | (simp; done) | (simp; omega)) | ((with_reducible refine Below.thru hb ?_ ?_); · first | omega | (simp; done) | (simp; omega))))
  have A1 : Blk w1 w.heap.size 25 (mcs m) := (by repeat (first | (with_reducible assumption) | ((with_reducible refine Blk.new ?_); · first | omega | (simp; done) | (simp; omega)) | (with_reducible apply Blk.set4) | (with_reducible apply Blk.set3) | (with_reducible apply Blk.set2) | ((with_reducible refine Blk.put ?_ ?_); · first | omega | (simp; omega)) | (with_reducible refine Blk.old ?_) | (with_reducible refine Blk.drew ?_) | (with_reducible refine Blk.drewN ?_) | ((with_reducible refine Blk.below hb ?_ ?_); · first | omega | (simp; done) | (simp; omega))))
  have B1 : Blk w1 (w.heap.size + 1) 25 (mcs n) := (by repeat (first | (with_reducible assumption) | ((with_reducible refine Blk.new ?_); · first | omega | (simp; done) | (simp; omega)) | (with_reducible apply Blk.set4) | (with_reducible apply Blk.set3) | (with_reducible apply Blk.set2) | ((with_reducible refine Blk.put ?_ ?_); · first | omega | (simp; omega)) | (with_reducible refine Blk.old ?_) | (with_reducible refine Blk.drew ?_) | (with_reducible refine Blk.drewN ?_) | ((with_reducible refine Blk.below hb ?_ ?_); · first | omega | (simp; done) | (simp; omega))))
  have a1 := A1.later4
  have b1 := B1.later4
  have lA1 := A1.lt
  have lB1 := B1.lt
  have s1 := k1.size
  clear hb HO
  go_wp2_with fail
  refine wp_region_calm (by kernel_rfl) (by kernel_rfl) ?_
  repeat (go_big_quiet_step (first | (go_at_call 26; with_reducible exact Calls.calm ((HT1.out _))) | (go_at_call 26; with_reducible exact Calls.calm ((HT2.out _))) | (go_at_call 27; with_reducible exact Calls.calm ((HK1.out _))) | (go_at_call 27; with_reducible exact Calls.calm ((HK2.out _)))))
  refine wpQuiet_nil ?_
  rintro w2 ⟨⟨_, hb⟩, rfl⟩
  have A2 : Blk w2 (w.heap.size) 25 (mcs m) := (by repeat (first | (with_reducible assumption) | ((with_reducible refine Blk.new ?_); · first | omega | (simp; done) | (simp; omega)) | (with_reducible apply Blk.set4) | (with_reducible apply Blk.set3) | (with_reducible apply Blk.set2) | ((with_reducible refine Blk.put ?_ ?_); · first | omega | (simp; omega)) | (with_reducible refine Blk.old ?_) | (with_reducible refine Blk.drew ?_) | (with_reducible refine Blk.drewN ?_) | ((with_reducible refine Blk.below hb ?_ ?_); · first | omega | (simp; done) | (simp; omega))))
  have lA2 := A2.lt
  have B2 : Blk w2 (w.heap.size + 1) 25 (mcs n) := (by repeat (first | (with_reducible assumption) | ((with_reducible refine Blk.new ?_); · first | omega | (simp; done) | (simp; omega)) | (with_reducible apply Blk.set4) | (with_reducible apply Blk.set3) | (with_reducible apply Blk.set2) | ((with_reducible refine Blk.put ?_ ?_); · first | omega | (simp; omega)) | (with_reducible refine Blk.old ?_) | (with_reducible refine Blk.drew ?_) | (with_reducible refine Blk.drewN ?_) | ((with_reducible refine Blk.below hb ?_ ?_); · first | omega | (simp; done) | (simp; omega))))
  have lB2 := B2.lt
  have k2 : Below w.heap.size w w2 := (by repeat (first | (with_reducible exact Below.refl _ _) | (with_reducible assumption) | (with_reducible refine Below.drew ?_) | (with_reducible refine Below.drewN ?_) | ((with_reducible refine Below.al ?_ ?_); · first | omega | (simp; done) | (simp; omega)) | ((with_reducible refine Below.sc ?_ ?_); · first | omega | (simp; done) | (simp; omega)) | ((with_reducible refine Below.thru hb ?_ ?_); · first | omega | (simp; done) | (simp; omega))))
  have kw2 : Below w.heap.size w w2 := (by repeat (first | (with_reducible exact Below.refl _ _) | (with_reducible assumption) | (with_reducible refine Below.drew ?_) | (with_reducible refine Below.drewN ?_) | ((with_reducible refine Below.al ?_ ?_); · first | omega | (simp; done) | (simp; omega)) | ((with_reducible refine Below.sc ?_ ?_); · first | omega | (simp; done) | (simp; omega)) | ((with_reducible refine Below.thru hb ?_ ?_); · first | omega | (simp; done) | (simp; omega))))
  have sw2 := kw2.size
  clear hb
  have q2 := A2.m
  have s2 := k2.size
  have lA2 := A2.lt
  have lB2 := B2.lt
  clear A1 B1 a1 b1 lA1 lB1 k1 s1
  go_wp2_with fail
  refine (HK1.out _).mono ?_
  rintro e w3 ⟨rfl, hb⟩
  have k3 : Below w.heap.size w w3 := (by repeat (first | (with_reducible exact Below.refl _ _) | (with_reducible assumption) | (with_reducible refine Below.drew ?_) | (with_reducible refine Below.drewN ?_) | ((with_reducible refine Below.al ?_ ?_); · first | omega | (simp; done) | (simp; omega)) | ((with_reducible refine Below.sc ?_ ?_); · first | omega | (simp; done) | (simp; omega)) | ((with_reducible refine Below.thru hb ?_ ?_); · first | omega | (simp; done) | (simp; omega))))
  have A3 : Blk w3 w.heap.size 25 (mcs m) := (by repeat (first | (with_reducible assumption) | ((with_reducible refine Blk.new ?_); · first | omega | (simp; done) | (simp; omega)) | (with_reducible apply Blk.set4) | (with_reducible apply Blk.set3) | (with_reducible apply Blk.set2) | ((with_reducible refine Blk.put ?_ ?_); · first | omega | (simp; omega)) | (with_reducible refine Blk.old ?_) | (with_reducible refine Blk.drew ?_) | (with_reducible refine Blk.drewN ?_) | ((with_reducible refine Blk.below hb ?_ ?_); · first | omega | (simp; done) | (simp; omega))))
  have B3 : Blk w3 (w.heap.size + 1) 25 (mcs n) := (by repeat (first | (with_reducible assumption) | ((with_reducible refine Blk.new ?_); · first | omega | (simp; done) | (simp; omega)) | (with_reducible apply Blk.set4) | (with_reducible apply Blk.set3) | (with_reducible apply Blk.set2) | ((with_reducible refine Blk.put ?_ ?_); · first | omega | (simp; omega)) | (with_reducible refine Blk.old ?_) | (with_reducible refine Blk.drew ?_) | (with_reducible refine Blk.drewN ?_) | ((with_reducible refine Blk.below hb ?_ ?_); · first | omega | (simp; done) | (simp; omega))))
  have s3 := k3.size
  have a3 := A3.later4
  have b3 := B3.later4
  have q3 := A3.m
  have r3 := B3.m
  have lA3 := A3.lt
  have lB3 := B3.lt
  clear hb A2 B2 q2 k2
  go_wp2
  exact HX.out _ k3
set_option maxRecDepth 8000 in
set_option maxHeartbeats 2000000 in
theorem implAre_1 (m n : M) (hm : m.ok = true) (hn : n.ok = true) (km : kindV m = 1) (kn : kindV n = 1) (ht : m.tr = n.tr) (w : World) :
    Calls Tryz.prog 15 #[mv m, mv n] w (GivesS ((nameV (decide (0 < m.c)) m.tr).toList == (nameV (decide (0 < n.c)) n.tr).toList, 0) w) := by
  have HN1 := Lib.hid (fun W => ellipticName_any m km hm W)
  have HN2 := Lib.hid (fun W => ellipticName_any n kn hn W)
  generalize nameV (decide (0 < m.c)) m.tr = nm at *
  generalize nameV (decide (0 < n.c)) n.tr = nn at *
  obtain ⟨⟨e1, e2⟩, e3, e4⟩ := M.ents_true (M.ok_ents hm)
  obtain ⟨⟨g1, g2⟩, g3, g4⟩ := M.ents_true (M.ok_ents hn)
  have HK1 := Lib.hid (fun W => kind_any m W hm)
  have HK2 := Lib.hid (fun W => kind_any n W hn)
  have HT1 := Lib.hid (fun W => trace_any m W e1 e4)
  have HT2 := Lib.hid (fun W => trace_any n W g1 g4)
  have HO := Lib.hid (show [m, n].all M.ok = true by simp [hm, hn])
  rw [km] at HK1
  rw [kn] at HK2
  rw [ht] at HT1
  have HX : Hid (∀ w', Below w.heap.size w w' → GivesS (nm.toList == nn.toList, 0) w (.returned (.tuple #[.bool (nm.toList == nn.toList), .int .i64 0])) w') := Lib.hid (fun w' hb => GivesS.mk hb)
  generalize GivesS (nm.toList == nn.toList, 0) w = GF at *
  clear hm hn e1 e2 e3 e4 g1 g2 g3 g4 km kn ht
  generalize n.tr = tn at *
  go_enter Tryz.func15, Tryz.ntmps15
  go_wp2_with fail
  refine (areMatrices_any (w.heap.size + 1 + 1) 0 2 [m, n] _ (by simp) (MRow.of2 (E := 25) (by repeat (first | (with_reducible assumption) | ((with_reducible refine Blk.new ?_); · first | omega | (simp; done) | (simp; omega)) | (with_reducible apply Blk.set4) | (with_reducible apply Blk.set3) | (with_reducible apply Blk.set2) | ((with_reducible refine Blk.put ?_ ?_); · first | omega | (simp; omega)) | (with_reducible refine Blk.old ?_) | (with_reducible refine Blk.drew ?_) | (with_reducible refine Blk.drewN ?_) | ((with_reducible refine Blk.below hb ?_ ?_); · first | omega | (simp; done) | (simp; omega)))))).mono ?_
  rintro e w1 ⟨rfl, hb⟩
  rw [HO.out]
  have k1 : Below w.heap.size w w1 := (by repeat (first | (with_reducible exact Below.refl _ _) | (with_reducible assumption) | (with_reducible refine Below.drew ?_) | (with_reducible refine Below.drewN ?_) | ((with_reducible refine Below.al ?_ ?_); · first | omega | (simp; done) | (simp; omega)) | ((with_reducible refine Below.sc ?_ ?_); · first | omega | (simp; done) | (simp; omega)) | ((with_reducible refine Below.thru hb ?_ ?_); · first | omega | (simp; done) | (simp; omega))))
  have A1 : Blk w1 w.heap.size 25 (mcs m) := (by repeat (first | (with_reducible assumption) | ((with_reducible refine Blk.new ?_); · first | omega | (simp; done) | (simp; omega)) | (with_reducible apply Blk.set4) | (with_reducible apply Blk.set3) | (with_reducible apply Blk.set2) | ((with_reducible refine Blk.put ?_ ?_); · first | omega | (simp; omega)) | (with_reducible refine Blk.old ?_) | (with_reducible refine Blk.drew ?_) | (with_reducible refine Blk.drewN ?_) | ((with_reducible refine Blk.below hb ?_ ?_); · first | omega | (simp; done) | (simp; omega))))
  have B1 : Blk w1 (w.heap.size + 1) 25 (mcs n) := (by repeat (first | (with_reducible assumption) | ((with_reducible refine Blk.new ?_); · first | omega | (simp; done) | (simp; omega)) | (with_reducible apply Blk.set4) | (with_reducible apply Blk.set3) | (with_reducible apply Blk.set2) | ((with_reducible refine Blk.put ?_ ?_); · first | omega | (simp; omega)) | (with_reducible refine Blk.old ?_) | (with_reducible refine Blk.drew ?_) | (with_reducible refine Blk.drewN ?_) | ((with_reducible refine Blk.below hb ?_ ?_); · first | omega | (simp; done) | (simp; omega))))
  have a1 := A1.later4
  have b1 := B1.later4
  have lA1 := A1.lt
  have lB1 := B1.lt
  have s1 := k1.size
  clear hb HO
  go_wp2_with fail
  refine wp_region_calm (by kernel_rfl) (by kernel_rfl) ?_
  repeat (go_big_quiet_step (first | (go_at_call 26; with_reducible exact Calls.calm ((HT1.out _))) | (go_at_call 26; with_reducible exact Calls.calm ((HT2.out _))) | (go_at_call 27; with_reducible exact Calls.calm ((HK1.out _))) | (go_at_call 27; with_reducible exact Calls.calm ((HK2.out _)))))
  refine wpQuiet_nil ?_
  rintro w2 ⟨⟨_, hb⟩, rfl⟩
  have A2 : Blk w2 (w.heap.size) 25 (mcs m) := (by repeat (first | (with_reducible assumption) | ((with_reducible refine Blk.new ?_); · first | omega | (simp; done) | (simp; omega)) | (with_reducible apply Blk.set4) | (with_reducible apply Blk.set3) | (with_reducible apply Blk.set2) | ((with_reducible refine Blk.put ?_ ?_); · first | omega | (simp; omega)) | (with_reducible refine Blk.old ?_) | (with_reducible refine Blk.drew ?_) | (with_reducible refine Blk.drewN ?_) | ((with_reducible refine Blk.below hb ?_ ?_); · first | omega | (simp; done) | (simp; omega))))
  have lA2 := A2.lt
  have B2 : Blk w2 (w.heap.size + 1) 25 (mcs n) := (by repeat (first | (with_reducible assumption) | ((with_reducible refine Blk.new ?_); · first | omega | (simp; done) | (simp; omega)) | (with_reducible apply Blk.set4) | (with_reducible apply Blk.set3) | (with_reducible apply Blk.set2) | ((with_reducible refine Blk.put ?_ ?_); · first | omega | (simp; omega)) | (with_reducible refine Blk.old ?_) | (with_reducible refine Blk.drew ?_) | (with_reducible refine Blk.drewN ?_) | ((with_reducible refine Blk.below hb ?_ ?_); · first | omega | (simp; done) | (simp; omega))))
  have lB2 := B2.lt
  have k2 : Below w.heap.size w w2 := (by repeat (first | (with_reducible exact Below.refl _ _) | (with_reducible assumption) | (with_reducible refine Below.drew ?_) | (with_reducible refine Below.drewN ?_) | ((with_reducible refine Below.al ?_ ?_); · first | omega | (simp; done) | (simp; omega)) | ((with_reducible refine Below.sc ?_ ?_); · first | omega | (simp; done) | (simp; omega)) | ((with_reducible refine Below.thru hb ?_ ?_); · first | omega | (simp; done) | (simp; omega))))
  have kw2 : Below w.heap.size w w2 := (by repeat (first | (with_reducible exact Below.refl _ _) | (with_reducible assumption) | (with_reducible refine Below.drew ?_) | (with_reducible refine Below.drewN ?_) | ((with_reducible refine Below.al ?_ ?_); · first | omega | (simp; done) | (simp; omega)) | ((with_reducible refine Below.sc ?_ ?_); · first | omega | (simp; done) | (simp; omega)) | ((with_reducible refine Below.thru hb ?_ ?_); · first | omega | (simp; done) | (simp; omega))))
  have sw2 := kw2.size
  clear hb
  have q2 := A2.m
  have s2 := k2.size
  have lA2 := A2.lt
  have lB2 := B2.lt
  clear A1 B1 a1 b1 lA1 lB1 k1 s1
  go_wp2_with fail
  refine (HK1.out _).mono ?_
  rintro e w3 ⟨rfl, hb⟩
  have k3 : Below w.heap.size w w3 := (by repeat (first | (with_reducible exact Below.refl _ _) | (with_reducible assumption) | (with_reducible refine Below.drew ?_) | (with_reducible refine Below.drewN ?_) | ((with_reducible refine Below.al ?_ ?_); · first | omega | (simp; done) | (simp; omega)) | ((with_reducible refine Below.sc ?_ ?_); · first | omega | (simp; done) | (simp; omega)) | ((with_reducible refine Below.thru hb ?_ ?_); · first | omega | (simp; done) | (simp; omega))))
  have A3 : Blk w3 w.heap.size 25 (mcs m) := (by repeat (first | (with_reducible assumption) | ((with_reducible refine Blk.new ?_); · first | omega | (simp; done) | (simp; omega)) | (with_reducible apply Blk.set4) | (with_reducible apply Blk.set3) | (with_reducible apply Blk.set2) | ((with_reducible refine Blk.put ?_ ?_); · first | omega | (simp; omega)) | (with_reducible refine Blk.old ?_) | (with_reducible refine Blk.drew ?_) | (with_reducible refine Blk.drewN ?_) | ((with_reducible refine Blk.below hb ?_ ?_); · first | omega | (simp; done) | (simp; omega))))
  have B3 : Blk w3 (w.heap.size + 1) 25 (mcs n) := (by repeat (first | (with_reducible assumption) | ((with_reducible refine Blk.new ?_); · first | omega | (simp; done) | (simp; omega)) | (with_reducible apply Blk.set4) | (with_reducible apply Blk.set3) | (with_reducible apply Blk.set2) | ((with_reducible refine Blk.put ?_ ?_); · first | omega | (simp; omega)) | (with_reducible refine Blk.old ?_) | (with_reducible refine Blk.drew ?_) | (with_reducible refine Blk.drewN ?_) | ((with_reducible refine Blk.below hb ?_ ?_); · first | omega | (simp; done) | (simp; omega))))
  have s3 := k3.size
  have a3 := A3.later4
  have b3 := B3.later4
  have q3 := A3.m
  have r3 := B3.m
  have lA3 := A3.lt
  have lB3 := B3.lt
  clear hb A2 B2 q2 k2
  go_wp2_with fail
  refine wp_region_calm (by kernel_rfl) (by kernel_rfl) ?_
  repeat (go_big_quiet_step (first | (go_at_call 28; with_reducible exact Calls.calm ((HN1.out _))) | (go_at_call 28; with_reducible exact Calls.calm ((HN2.out _)))))
  refine wpQuiet_nil ?_
  rintro w4 ⟨⟨_, hb⟩, rfl⟩
  have k4 : Below w.heap.size w w4 := (by repeat (first | (with_reducible exact Below.refl _ _) | (with_reducible assumption) | (with_reducible refine Below.drew ?_) | (with_reducible refine Below.drewN ?_) | ((with_reducible refine Below.al ?_ ?_); · first | omega | (simp; done) | (simp; omega)) | ((with_reducible refine Below.sc ?_ ?_); · first | omega | (simp; done) | (simp; omega)) | ((with_reducible refine Below.thru hb ?_ ?_); · first | omega | (simp; done) | (simp; omega))))
  have kw4 : Below w.heap.size w w4 := (by repeat (first | (with_reducible exact Below.refl _ _) | (with_reducible assumption) | (with_reducible refine Below.drew ?_) | (with_reducible refine Below.drewN ?_) | ((with_reducible refine Below.al ?_ ?_); · first | omega | (simp; done) | (simp; omega)) | ((with_reducible refine Below.sc ?_ ?_); · first | omega | (simp; done) | (simp; omega)) | ((with_reducible refine Below.thru hb ?_ ?_); · first | omega | (simp; done) | (simp; omega))))
  have sw4 := kw4.size
  clear hb
  go_wp2
  exact HX.out _ k4
set_option maxRecDepth 8000 in
set_option maxHeartbeats 2000000 in
theorem implAre_2 (m n : M) (hm : m.ok = true) (hn : n.ok = true) (km : kindV m = 2) (kn : kindV n = 2) (ht : m.tr = n.tr) (w : World) :
    Calls Tryz.prog 15 #[mv m, mv n] w (GivesS (shiftV m == shiftV n, 0) w) := by
  have HN1 := Lib.hid (fun W => parabolicShift_any m km hm W)
  have HN2 := Lib.hid (fun W => parabolicShift_any n kn hn W)
  generalize shiftV m = nm at *
  generalize shiftV n = nn at *
  obtain ⟨⟨e1, e2⟩, e3, e4⟩ := M.ents_true (M.ok_ents hm)
  obtain ⟨⟨g1, g2⟩, g3, g4⟩ := M.ents_true (M.ok_ents hn)
  have HK1 := Lib.hid (fun W => kind_any m W hm)
  have HK2 := Lib.hid (fun W => kind_any n W hn)
  have HT1 := Lib.hid (fun W => trace_any m W e1 e4)
  have HT2 := Lib.hid (fun W => trace_any n W g1 g4)
  have HO := Lib.hid (show [m, n].all M.ok = true by simp [hm, hn])
  rw [km] at HK1
  rw [kn] at HK2
  rw [ht] at HT1
  have HX : Hid (∀ w', Below w.heap.size w w' → GivesS (nm == nn, 0) w (.returned (.tuple #[.bool (nm == nn), .int .i64 0])) w') := Lib.hid (fun w' hb => GivesS.mk hb)
  generalize GivesS (nm == nn, 0) w = GF at *
  clear hm hn e1 e2 e3 e4 g1 g2 g3 g4 km kn ht
  generalize n.tr = tn at *
  go_enter Tryz.func15, Tryz.ntmps15
  go_wp2_with fail
  refine (areMatrices_any (w.heap.size + 1 + 1) 0 2 [m, n] _ (by simp) (MRow.of2 (E := 25) (by repeat (first | (with_reducible assumption) | ((with_reducible refine Blk.new ?_); · first | omega | (simp; done) | (simp; omega)) | (with_reducible apply Blk.set4) | (with_reducible apply Blk.set3) | (with_reducible apply Blk.set2) | ((with_reducible refine Blk.put ?_ ?_); · first | omega | (simp; omega)) | (with_reducible refine Blk.old ?_) | (with_reducible refine Blk.drew ?_) | (with_reducible refine Blk.drewN ?_) | ((with_reducible refine Blk.below hb ?_ ?_); · first | omega | (simp; done) | (simp; omega)))))).mono ?_
  rintro e w1 ⟨rfl, hb⟩
  rw [HO.out]
  have k1 : Below w.heap.size w w1 := (by repeat (first | (with_reducible exact Below.refl _ _) | (with_reducible assumption) | (with_reducible refine Below.drew ?_) | (with_reducible refine Below.drewN ?_) | ((with_reducible refine Below.al ?_ ?_); · first | omega | (simp; done) | (simp; omega)) | ((with_reducible refine Below.sc ?_ ?_); · first | omega | (simp; done) | (simp; omega)) | ((with_reducible refine Below.thru hb ?_ ?_); · first | omega | (simp; done) | (simp; omega))))
  have A1 : Blk w1 w.heap.size 25 (mcs m) := (by repeat (first | (with_reducible assumption) | ((with_reducible refine Blk.new ?_); · first | omega | (simp; done) | (simp; omega)) | (with_reducible apply Blk.set4) | (with_reducible apply Blk.set3) | (with_reducible apply Blk.set2) | ((with_reducible refine Blk.put ?_ ?_); · first | omega | (simp; omega)) | (with_reducible refine Blk.old ?_) | (with_reducible refine Blk.drew ?_) | (with_reducible refine Blk.drewN ?_) | ((with_reducible refine Blk.below hb ?_ ?_); · first | omega | (simp; done) | (simp; omega))))
  have B1 : Blk w1 (w.heap.size + 1) 25 (mcs n) := (by repeat (first | (with_reducible assumption) | ((with_reducible refine Blk.new ?_); · first | omega | (simp; done) | (simp; omega)) | (with_reducible apply Blk.set4) | (with_reducible apply Blk.set3) | (with_reducible apply Blk.set2) | ((with_reducible refine Blk.put ?_ ?_); · first | omega | (simp; omega)) | (with_reducible refine Blk.old ?_) | (with_reducible refine Blk.drew ?_) | (with_reducible refine Blk.drewN ?_) | ((with_reducible refine Blk.below hb ?_ ?_); · first | omega | (simp; done) | (simp; omega))))
  have a1 := A1.later4
  have b1 := B1.later4
  have lA1 := A1.lt
  have lB1 := B1.lt
  have s1 := k1.size
  clear hb HO
  go_wp2_with fail
  refine wp_region_calm (by kernel_rfl) (by kernel_rfl) ?_
  repeat (go_big_quiet_step (first | (go_at_call 26; with_reducible exact Calls.calm ((HT1.out _))) | (go_at_call 26; with_reducible exact Calls.calm ((HT2.out _))) | (go_at_call 27; with_reducible exact Calls.calm ((HK1.out _))) | (go_at_call 27; with_reducible exact Calls.calm ((HK2.out _)))))
  refine wpQuiet_nil ?_
  rintro w2 ⟨⟨_, hb⟩, rfl⟩
  have A2 : Blk w2 (w.heap.size) 25 (mcs m) := (by repeat (first | (with_reducible assumption) | ((with_reducible refine Blk.new ?_); · first | omega | (simp; done) | (simp; omega)) | (with_reducible apply Blk.set4) | (with_reducible apply Blk.set3) | (with_reducible apply Blk.set2) | ((with_reducible refine Blk.put ?_ ?_); · first | omega | (simp; omega)) | (with_reducible refine Blk.old ?_) | (with_reducible refine Blk.drew ?_) | (with_reducible refine Blk.drewN ?_) | ((with_reducible refine Blk.below hb ?_ ?_); · first | omega | (simp; done) | (simp; omega))))
  have lA2 := A2.lt
  have B2 : Blk w2 (w.heap.size + 1) 25 (mcs n) := (by repeat (first | (with_reducible assumption) | ((with_reducible refine Blk.new ?_); · first | omega | (simp; done) | (simp; omega)) | (with_reducible apply Blk.set4) | (with_reducible apply Blk.set3) | (with_reducible apply Blk.set2) | ((with_reducible refine Blk.put ?_ ?_); · first | omega | (simp; omega)) | (with_reducible refine Blk.old ?_) | (with_reducible refine Blk.drew ?_) | (with_reducible refine Blk.drewN ?_) | ((with_reducible refine Blk.below hb ?_ ?_); · first | omega | (simp; done) | (simp; omega))))
  have lB2 := B2.lt
  have k2 : Below w.heap.size w w2 := (by repeat (first | (with_reducible exact Below.refl _ _) | (with_reducible assumption) | (with_reducible refine Below.drew ?_) | (with_reducible refine Below.drewN ?_) | ((with_reducible refine Below.al ?_ ?_); · first | omega | (simp; done) | (simp; omega)) | ((with_reducible refine Below.sc ?_ ?_); · first | omega | (simp; done) | (simp; omega)) | ((with_reducible refine Below.thru hb ?_ ?_); · first | omega | (simp; done) | (simp; omega))))
  have kw2 : Below w.heap.size w w2 := (by repeat (first | (with_reducible exact Below.refl _ _) | (with_reducible assumption) | (with_reducible refine Below.drew ?_) | (with_reducible refine Below.drewN ?_) | ((with_reducible refine Below.al ?_ ?_); · first | omega | (simp; done) | (simp; omega)) | ((with_reducible refine Below.sc ?_ ?_); · first | omega | (simp; done) | (simp; omega)) | ((with_reducible refine Below.thru hb ?_ ?_); · first | omega | (simp; done) | (simp; omega))))
  have sw2 := kw2.size
  clear hb
  have q2 := A2.m
  have s2 := k2.size
  have lA2 := A2.lt
  have lB2 := B2.lt
  clear A1 B1 a1 b1 lA1 lB1 k1 s1
  go_wp2_with fail
  refine (HK1.out _).mono ?_
  rintro e w3 ⟨rfl, hb⟩
  have k3 : Below w.heap.size w w3 := (by repeat (first | (with_reducible exact Below.refl _ _) | (with_reducible assumption) | (with_reducible refine Below.drew ?_) | (with_reducible refine Below.drewN ?_) | ((with_reducible refine Below.al ?_ ?_); · first | omega | (simp; done) | (simp; omega)) | ((with_reducible refine Below.sc ?_ ?_); · first | omega | (simp; done) | (simp; omega)) | ((with_reducible refine Below.thru hb ?_ ?_); · first | omega | (simp; done) | (simp; omega))))
  have A3 : Blk w3 w.heap.size 25 (mcs m) := (by repeat (first | (with_reducible assumption) | ((with_reducible refine Blk.new ?_); · first | omega | (simp; done) | (simp; omega)) | (with_reducible apply Blk.set4) | (with_reducible apply Blk.set3) | (with_reducible apply Blk.set2) | ((with_reducible refine Blk.put ?_ ?_); · first | omega | (simp; omega)) | (with_reducible refine Blk.old ?_) | (with_reducible refine Blk.drew ?_) | (with_reducible refine Blk.drewN ?_) | ((with_reducible refine Blk.below hb ?_ ?_); · first | omega | (simp; done) | (simp; omega))))
  have B3 : Blk w3 (w.heap.size + 1) 25 (mcs n) := (by repeat (first | (with_reducible assumption) | ((with_reducible refine Blk.new ?_); · first | omega | (simp; done) | (simp; omega)) | (with_reducible apply Blk.set4) | (with_reducible apply Blk.set3) | (with_reducible apply Blk.set2) | ((with_reducible refine Blk.put ?_ ?_); · first | omega | (simp; omega)) | (with_reducible refine Blk.old ?_) | (with_reducible refine Blk.drew ?_) | (with_reducible refine Blk.drewN ?_) | ((with_reducible refine Blk.below hb ?_ ?_); · first | omega | (simp; done) | (simp; omega))))
  have s3 := k3.size
  have a3 := A3.later4
  have b3 := B3.later4
  have q3 := A3.m
  have r3 := B3.m
  have lA3 := A3.lt
  have lB3 := B3.lt
  clear hb A2 B2 q2 k2
  go_wp2_with fail
  refine wp_region_calm (by kernel_rfl) (by kernel_rfl) ?_
  repeat (go_big_quiet_step (first | (go_at_call 29; with_reducible exact Calls.calm ((HN1.out _))) | (go_at_call 29; with_reducible exact Calls.calm ((HN2.out _)))))
  refine wpQuiet_nil ?_
  rintro w4 ⟨⟨_, hb⟩, rfl⟩
  have k4 : Below w.heap.size w w4 := (by repeat (first | (with_reducible exact Below.refl _ _) | (with_reducible assumption) | (with_reducible refine Below.drew ?_) | (with_reducible refine Below.drewN ?_) | ((with_reducible refine Below.al ?_ ?_); · first | omega | (simp; done) | (simp; omega)) | ((with_reducible refine Below.sc ?_ ?_); · first | omega | (simp; done) | (simp; omega)) | ((with_reducible refine Below.thru hb ?_ ?_); · first | omega | (simp; done) | (simp; omega))))
  have kw4 : Below w.heap.size w w4 := (by repeat (first | (with_reducible exact Below.refl _ _) | (with_reducible assumption) | (with_reducible refine Below.drew ?_) | (with_reducible refine Below.drewN ?_) | ((with_reducible refine Below.al ?_ ?_); · first | omega | (simp; done) | (simp; omega)) | ((with_reducible refine Below.sc ?_ ?_); · first | omega | (simp; done) | (simp; omega)) | ((with_reducible refine Below.thru hb ?_ ?_); · first | omega | (simp; done) | (simp; omega))))
  have sw4 := kw4.size
  clear hb
  go_wp2
  exact HX.out _ k4
set_option maxRecDepth 8000 in
set_option maxHeartbeats 2000000 in
theorem implAre_3 (m n : M) (r1 r2 : ByteArray × Int) (hr1 : CycR m r1) (hr2 : CycR n r2) (hm : m.ok = true) (hn : n.ok = true) (km : kindV m = 3) (kn : kindV n = 3) (ht : m.tr = n.tr) (w : World) :
    Calls Tryz.prog 15 #[mv m, mv n] w (GivesS (swR r1 r2) w) := by
  have HN1 := Lib.hid (fun W => sameWords_any m n r1 r2 hr1 hr2 W)
  clear hr1 hr2
  generalize swR r1 r2 = q at *
  obtain ⟨qb, qc⟩ := q
  obtain ⟨⟨e1, e2⟩, e3, e4⟩ := M.ents_true (M.ok_ents hm)
  obtain ⟨⟨g1, g2⟩, g3, g4⟩ := M.ents_true (M.ok_ents hn)
  have HK1 := Lib.hid (fun W => kind_any m W hm)
  have HK2 := Lib.hid (fun W => kind_any n W hn)
  have HT1 := Lib.hid (fun W => trace_any m W e1 e4)
  have HT2 := Lib.hid (fun W => trace_any n W g1 g4)
  have HO := Lib.hid (show [m, n].all M.ok = true by simp [hm, hn])
  rw [km] at HK1
  rw [kn] at HK2
  rw [ht] at HT1
  have HX : Hid (∀ w', Below w.heap.size w w' → GivesS (qb, qc) w (.returned (.tuple #[.bool qb, .int .i64 qc])) w') := Lib.hid (fun w' hb => GivesS.mk hb)
  generalize GivesS (qb, qc) w = GF at *
  clear hm hn e1 e2 e3 e4 g1 g2 g3 g4 km kn ht
  generalize n.tr = tn at *
  go_enter Tryz.func15, Tryz.ntmps15
  go_wp2_with fail
  refine (areMatrices_any (w.heap.size + 1 + 1) 0 2 [m, n] _ (by simp) (MRow.of2 (E := 25) (by repeat (first | (with_reducible assumption) | ((with_reducible refine Blk.new ?_); · first | omega | (simp; done) | (simp; omega)) | (with_reducible apply Blk.set4) | (with_reducible apply Blk.set3) | (with_reducible apply Blk.set2) | ((with_reducible refine Blk.put ?_ ?_); · first | omega | (simp; omega)) | (with_reducible refine Blk.old ?_) | (with_reducible refine Blk.drew ?_) | (with_reducible refine Blk.drewN ?_) | ((with_reducible refine Blk.below hb ?_ ?_); · first | omega | (simp; done) | (simp; omega)))))).mono ?_
  rintro e w1 ⟨rfl, hb⟩
  rw [HO.out]
  have k1 : Below w.heap.size w w1 := (by repeat (first | (with_reducible exact Below.refl _ _) | (with_reducible assumption) | (with_reducible refine Below.drew ?_) | (with_reducible refine Below.drewN ?_) | ((with_reducible refine Below.al ?_ ?_); · first | omega | (simp; done) | (simp; omega)) | ((with_reducible refine Below.sc ?_ ?_); · first | omega | (simp; done) | (simp; omega)) | ((with_reducible refine Below.thru hb ?_ ?_); · first | omega | (simp; done) | (simp; omega))))
  have A1 : Blk w1 w.heap.size 25 (mcs m) := (by repeat (first | (with_reducible assumption) | ((with_reducible refine Blk.new ?_); · first | omega | (simp; done) | (simp; omega)) | (with_reducible apply Blk.set4) | (with_reducible apply Blk.set3) | (with_reducible apply Blk.set2) | ((with_reducible refine Blk.put ?_ ?_); · first | omega | (simp; omega)) | (with_reducible refine Blk.old ?_) | (with_reducible refine Blk.drew ?_) | (with_reducible refine Blk.drewN ?_) | ((with_reducible refine Blk.below hb ?_ ?_); · first | omega | (simp; done) | (simp; omega))))
  have B1 : Blk w1 (w.heap.size + 1) 25 (mcs n) := (by repeat (first | (with_reducible assumption) | ((with_reducible refine Blk.new ?_); · first | omega | (simp; done) | (simp; omega)) | (with_reducible apply Blk.set4) | (with_reducible apply Blk.set3) | (with_reducible apply Blk.set2) | ((with_reducible refine Blk.put ?_ ?_); · first | omega | (simp; omega)) | (with_reducible refine Blk.old ?_) | (with_reducible refine Blk.drew ?_) | (with_reducible refine Blk.drewN ?_) | ((with_reducible refine Blk.below hb ?_ ?_); · first | omega | (simp; done) | (simp; omega))))
  have a1 := A1.later4
  have b1 := B1.later4
  have lA1 := A1.lt
  have lB1 := B1.lt
  have s1 := k1.size
  clear hb HO
  go_wp2_with fail
  refine wp_region_calm (by kernel_rfl) (by kernel_rfl) ?_
  repeat (go_big_quiet_step (first | (go_at_call 26; with_reducible exact Calls.calm ((HT1.out _))) | (go_at_call 26; with_reducible exact Calls.calm ((HT2.out _))) | (go_at_call 27; with_reducible exact Calls.calm ((HK1.out _))) | (go_at_call 27; with_reducible exact Calls.calm ((HK2.out _)))))
  refine wpQuiet_nil ?_
  rintro w2 ⟨⟨_, hb⟩, rfl⟩
  have A2 : Blk w2 (w.heap.size) 25 (mcs m) := (by repeat (first | (with_reducible assumption) | ((with_reducible refine Blk.new ?_); · first | omega | (simp; done) | (simp; omega)) | (with_reducible apply Blk.set4) | (with_reducible apply Blk.set3) | (with_reducible apply Blk.set2) | ((with_reducible refine Blk.put ?_ ?_); · first | omega | (simp; omega)) | (with_reducible refine Blk.old ?_) | (with_reducible refine Blk.drew ?_) | (with_reducible refine Blk.drewN ?_) | ((with_reducible refine Blk.below hb ?_ ?_); · first | omega | (simp; done) | (simp; omega))))
  have lA2 := A2.lt
  have B2 : Blk w2 (w.heap.size + 1) 25 (mcs n) := (by repeat (first | (with_reducible assumption) | ((with_reducible refine Blk.new ?_); · first | omega | (simp; done) | (simp; omega)) | (with_reducible apply Blk.set4) | (with_reducible apply Blk.set3) | (with_reducible apply Blk.set2) | ((with_reducible refine Blk.put ?_ ?_); · first | omega | (simp; omega)) | (with_reducible refine Blk.old ?_) | (with_reducible refine Blk.drew ?_) | (with_reducible refine Blk.drewN ?_) | ((with_reducible refine Blk.below hb ?_ ?_); · first | omega | (simp; done) | (simp; omega))))
  have lB2 := B2.lt
  have k2 : Below w.heap.size w w2 := (by repeat (first | (with_reducible exact Below.refl _ _) | (with_reducible assumption) | (with_reducible refine Below.drew ?_) | (with_reducible refine Below.drewN ?_) | ((with_reducible refine Below.al ?_ ?_); · first | omega | (simp; done) | (simp; omega)) | ((with_reducible refine Below.sc ?_ ?_); · first | omega | (simp; done) | (simp; omega)) | ((with_reducible refine Below.thru hb ?_ ?_); · first | omega | (simp; done) | (simp; omega))))
  have kw2 : Below w.heap.size w w2 := (by repeat (first | (with_reducible exact Below.refl _ _) | (with_reducible assumption) | (with_reducible refine Below.drew ?_) | (with_reducible refine Below.drewN ?_) | ((with_reducible refine Below.al ?_ ?_); · first | omega | (simp; done) | (simp; omega)) | ((with_reducible refine Below.sc ?_ ?_); · first | omega | (simp; done) | (simp; omega)) | ((with_reducible refine Below.thru hb ?_ ?_); · first | omega | (simp; done) | (simp; omega))))
  have sw2 := kw2.size
  clear hb
  have q2 := A2.m
  have s2 := k2.size
  have lA2 := A2.lt
  have lB2 := B2.lt
  clear A1 B1 a1 b1 lA1 lB1 k1 s1
  go_wp2_with fail
  refine (HK1.out _).mono ?_
  rintro e w3 ⟨rfl, hb⟩
  have k3 : Below w.heap.size w w3 := (by repeat (first | (with_reducible exact Below.refl _ _) | (with_reducible assumption) | (with_reducible refine Below.drew ?_) | (with_reducible refine Below.drewN ?_) | ((with_reducible refine Below.al ?_ ?_); · first | omega | (simp; done) | (simp; omega)) | ((with_reducible refine Below.sc ?_ ?_); · first | omega | (simp; done) | (simp; omega)) | ((with_reducible refine Below.thru hb ?_ ?_); · first | omega | (simp; done) | (simp; omega))))
  have A3 : Blk w3 w.heap.size 25 (mcs m) := (by repeat (first | (with_reducible assumption) | ((with_reducible refine Blk.new ?_); · first | omega | (simp; done) | (simp; omega)) | (with_reducible apply Blk.set4) | (with_reducible apply Blk.set3) | (with_reducible apply Blk.set2) | ((with_reducible refine Blk.put ?_ ?_); · first | omega | (simp; omega)) | (with_reducible refine Blk.old ?_) | (with_reducible refine Blk.drew ?_) | (with_reducible refine Blk.drewN ?_) | ((with_reducible refine Blk.below hb ?_ ?_); · first | omega | (simp; done) | (simp; omega))))
  have B3 : Blk w3 (w.heap.size + 1) 25 (mcs n) := (by repeat (first | (with_reducible assumption) | ((with_reducible refine Blk.new ?_); · first | omega | (simp; done) | (simp; omega)) | (with_reducible apply Blk.set4) | (with_reducible apply Blk.set3) | (with_reducible apply Blk.set2) | ((with_reducible refine Blk.put ?_ ?_); · first | omega | (simp; omega)) | (with_reducible refine Blk.old ?_) | (with_reducible refine Blk.drew ?_) | (with_reducible refine Blk.drewN ?_) | ((with_reducible refine Blk.below hb ?_ ?_); · first | omega | (simp; done) | (simp; omega))))
  have s3 := k3.size
  have a3 := A3.later4
  have b3 := B3.later4
  have q3 := A3.m
  have r3 := B3.m
  have lA3 := A3.lt
  have lB3 := B3.lt
  clear hb A2 B2 q2 k2
  go_wp2_with fail
  refine (HN1.out _).mono ?_
  rintro e w4 ⟨rfl, hb⟩
  have k4 : Below w.heap.size w w4 := (by repeat (first | (with_reducible exact Below.refl _ _) | (with_reducible assumption) | (with_reducible refine Below.drew ?_) | (with_reducible refine Below.drewN ?_) | ((with_reducible refine Below.al ?_ ?_); · first | omega | (simp; done) | (simp; omega)) | ((with_reducible refine Below.sc ?_ ?_); · first | omega | (simp; done) | (simp; omega)) | ((with_reducible refine Below.thru hb ?_ ?_); · first | omega | (simp; done) | (simp; omega))))
  clear hb
  go_wp2
  exact HX.out _ k4
/-- What AreConjugate gives, the same from both. -/
structure AcjR (m n : M) (r : Bool × Int) : Prop where
  impl : ∀ w : World, Calls Tryz.prog 15 #[mv m, mv n] w (GivesS r w)
  spec : ∀ w : World, Calls Tryz.prog 14 #[mv m, mv n] w (GivesS r w)
theorem kindV_some (m : M) : kindV m = 0 ∨ kindV m = 1 ∨ kindV m = 2 ∨ kindV m = 3 := by
  unfold kindV
  split
  · exact .inl rfl
  · split
    · exact .inr (.inl rfl)
    · split
      · exact .inr (.inr (.inl rfl))
      · exact .inr (.inr (.inr rfl))
theorem acjR (m n : M) : ∃ r, AcjR m n r := by
  cases hok : (m.ok && n.ok) with
  | false => exact ⟨(false, 1), implAre_no m n hok, specAre_no m n hok⟩
  | true =>
    have h12 : m.ok = true ∧ n.ok = true := by simpa using hok
    obtain ⟨hm, hn⟩ := h12
    by_cases hne : kindV m ≠ kindV n ∨ m.tr ≠ n.tr
    · exact ⟨(false, 0), implAre_ne m n hm hn hne, specAre_ok m n hm hn _ (l04Conj_no m n hm hn hne)⟩
    · have hk : kindV m = kindV n := Classical.byContradiction fun e => hne (.inl e)
      have ht : m.tr = n.tr := Classical.byContradiction fun e => hne (.inr e)
      rcases kindV_some m with e | e | e | e
      · exact ⟨_, implAre_0 m n hm hn e (hk ▸ e) ht, specAre_ok m n hm hn _ (l04Conj_0 m n hm hn e (hk ▸ e) ht)⟩
      · exact ⟨_, implAre_1 m n hm hn e (hk ▸ e) ht, specAre_ok m n hm hn _ (l04Conj_1 m n hm hn e (hk ▸ e) ht)⟩
      · exact ⟨_, implAre_2 m n hm hn e (hk ▸ e) ht, specAre_ok m n hm hn _ (l04Conj_2 m n hm hn e (hk ▸ e) ht)⟩
      · obtain ⟨r1, h1⟩ := cycR m hm e
        obtain ⟨r2, h2⟩ := cycR n hn (hk ▸ e)
        exact ⟨_, implAre_3 m n r1 r2 h1 h2 hm hn e (hk ▸ e) ht, specAre_ok m n hm hn _ (l04Conj3_any m n r1 r2 h1 h2 hm hn e (hk ▸ e) ht.symm)⟩

set_option maxRecDepth 8000 in
set_option maxHeartbeats 2000000 in
theorem FnExactAreConjugate_walk (a0 a1 a2 a3 b0 b1 b2 b3 : Int) (w : World) (_ : (Lit.int .i64 a0).wf = true) (_ : (Lit.int .i64 a1).wf = true) (_ : (Lit.int .i64 a2).wf = true) (_ : (Lit.int .i64 a3).wf = true)
    (_ : (Lit.int .i64 b0).wf = true) (_ : (Lit.int .i64 b1).wf = true) (_ : (Lit.int .i64 b2).wf = true) (_ : (Lit.int .i64 b3).wf = true) :
    Calls Tryz.prog 6 #[.agg #[.int .i64 a0, .int .i64 a1, .int .i64 a2, .int .i64 a3], .agg #[.int .i64 b0, .int .i64 b1, .int .i64 b2, .int .i64 b3]] w fun e w' => e = .returned (.bool true) ∧ Below w.heap.size w w' := by
  obtain ⟨m, hm⟩ : ∃ m : M, m = ⟨a0, a1, a2, a3⟩ := ⟨_, rfl⟩
  obtain ⟨n, hn⟩ : ∃ n : M, n = ⟨b0, b1, b2, b3⟩ := ⟨_, rfl⟩
  obtain ⟨rfl, rfl, rfl, rfl⟩ : a0 = m.a ∧ a1 = m.b ∧ a2 = m.c ∧ a3 = m.d := by subst hm; exact ⟨rfl, rfl, rfl, rfl⟩
  obtain ⟨rfl, rfl, rfl, rfl⟩ : b0 = n.a ∧ b1 = n.b ∧ b2 = n.c ∧ b3 = n.d := by subst hn; exact ⟨rfl, rfl, rfl, rfl⟩
  clear hm hn
  obtain ⟨⟨r, c⟩, hr⟩ := acjR m n
  have HI := Lib.hid hr.impl
  have HS := Lib.hid hr.spec
  clear hr
  unfold GivesS at HI HS
  simp only at HI HS
  go_enter Tryz.func6, Tryz.ntmps6
  go_wp2_with fail
  refine forget (fun W_ => Below w.heap.size w W_ ∧ Blk W_ (w.heap.size) 22 (mcs m) ∧ Blk W_ (w.heap.size + 1) 22 (mcs n)) ⟨(by repeat (first | (with_reducible exact Below.refl _ _) | (with_reducible assumption) | (with_reducible refine Below.drew ?_) | (with_reducible refine Below.drewN ?_) | ((with_reducible refine Below.al ?_ ?_); · first | omega | (simp; done) | (simp; omega)) | ((with_reducible refine Below.sc ?_ ?_); · first | omega | (simp; done) | (simp; omega)) | ((with_reducible refine Below.thru hb ?_ ?_); · first | omega | (simp; done) | (simp; omega)))), (by repeat (first | (with_reducible assumption) | ((with_reducible refine Blk.new ?_); · first | omega | (simp; done) | (simp; omega)) | (with_reducible apply Blk.set4) | (with_reducible apply Blk.set3) | (with_reducible apply Blk.set2) | ((with_reducible refine Blk.put ?_ ?_); · first | omega | (simp; omega)) | (with_reducible refine Blk.old ?_) | (with_reducible refine Blk.drew ?_) | (with_reducible refine Blk.drewN ?_) | ((with_reducible refine Blk.below hb ?_ ?_); · first | omega | (simp; done) | (simp; omega)))), (by repeat (first | (with_reducible assumption) | ((with_reducible refine Blk.new ?_); · first | omega | (simp; done) | (simp; omega)) | (with_reducible apply Blk.set4) | (with_reducible apply Blk.set3) | (with_reducible apply Blk.set2) | ((with_reducible refine Blk.put ?_ ?_); · first | omega | (simp; omega)) | (with_reducible refine Blk.old ?_) | (with_reducible refine Blk.drew ?_) | (with_reducible refine Blk.drewN ?_) | ((with_reducible refine Blk.below hb ?_ ?_); · first | omega | (simp; done) | (simp; omega))))⟩ ?_
  rintro w0 ⟨kw0, B0, B1⟩
  have sw0 := kw0.size
  have lB0 := B0.lt
  have lB1 := B1.lt
  have g0 := B0.later4
  have g1 := B1.later4
  refine wp_region_calm (by kernel_rfl) (by kernel_rfl) ?_
  repeat (go_big_quiet_step (first | (go_at_call 8; with_reducible exact Calls.calm ((toMatrix_any m _))) | (go_at_call 8; with_reducible exact Calls.calm ((toMatrix_any n _))) | (go_at_call 14; with_reducible exact Calls.calm ((HS.out _)))))
  refine wpQuiet_nil ?_
  rintro w1 ⟨⟨_, hb⟩, rfl⟩
  have C0 : Blk w1 (w.heap.size) 22 (mcs m) := (by repeat (first | (with_reducible assumption) | ((with_reducible refine Blk.new ?_); · first | omega | (simp; done) | (simp; omega)) | (with_reducible apply Blk.set4) | (with_reducible apply Blk.set3) | (with_reducible apply Blk.set2) | ((with_reducible refine Blk.put ?_ ?_); · first | omega | (simp; omega)) | (with_reducible refine Blk.old ?_) | (with_reducible refine Blk.drew ?_) | (with_reducible refine Blk.drewN ?_) | ((with_reducible refine Blk.below hb ?_ ?_); · first | omega | (simp; done) | (simp; omega))))
  have lC0 := C0.lt
  have C1 : Blk w1 (w.heap.size + 1) 22 (mcs n) := (by repeat (first | (with_reducible assumption) | ((with_reducible refine Blk.new ?_); · first | omega | (simp; done) | (simp; omega)) | (with_reducible apply Blk.set4) | (with_reducible apply Blk.set3) | (with_reducible apply Blk.set2) | ((with_reducible refine Blk.put ?_ ?_); · first | omega | (simp; omega)) | (with_reducible refine Blk.old ?_) | (with_reducible refine Blk.drew ?_) | (with_reducible refine Blk.drewN ?_) | ((with_reducible refine Blk.below hb ?_ ?_); · first | omega | (simp; done) | (simp; omega))))
  have lC1 := C1.lt
  have kw1 : Below w.heap.size w w1 := (by repeat (first | (with_reducible exact Below.refl _ _) | (with_reducible assumption) | (with_reducible refine Below.drew ?_) | (with_reducible refine Below.drewN ?_) | ((with_reducible refine Below.al ?_ ?_); · first | omega | (simp; done) | (simp; omega)) | ((with_reducible refine Below.sc ?_ ?_); · first | omega | (simp; done) | (simp; omega)) | ((with_reducible refine Below.thru hb ?_ ?_); · first | omega | (simp; done) | (simp; omega))))
  have sw1 := kw1.size
  clear hb
  clear g0 g1
  have g0 := C0.later4
  have g1 := C1.later4
  go_wp2_with fail
  refine wp_region_calm (by kernel_rfl) (by kernel_rfl) ?_
  repeat (go_big_quiet_step (first | (go_at_call 8; with_reducible exact Calls.calm ((toMatrix_any m _))) | (go_at_call 8; with_reducible exact Calls.calm ((toMatrix_any n _))) | (go_at_call 15; with_reducible exact Calls.calm ((HI.out _)))))
  refine wpQuiet_nil ?_
  rintro w2 ⟨⟨_, hb⟩, rfl⟩
  have kw2 : Below w.heap.size w w2 := (by repeat (first | (with_reducible exact Below.refl _ _) | (with_reducible assumption) | (with_reducible refine Below.drew ?_) | (with_reducible refine Below.drewN ?_) | ((with_reducible refine Below.al ?_ ?_); · first | omega | (simp; done) | (simp; omega)) | ((with_reducible refine Below.sc ?_ ?_); · first | omega | (simp; done) | (simp; omega)) | ((with_reducible refine Below.thru hb ?_ ?_); · first | omega | (simp; done) | (simp; omega))))
  have sw2 := kw2.size
  clear hb
  go_wp2
  go_ret
  exact ⟨rfl, (by repeat (first | (with_reducible exact Below.refl _ _) | (with_reducible assumption) | (with_reducible refine Below.drew ?_) | (with_reducible refine Below.drewN ?_) | ((with_reducible refine Below.al ?_ ?_); · first | omega | (simp; done) | (simp; omega)) | ((with_reducible refine Below.sc ?_ ?_); · first | omega | (simp; done) | (simp; omega)) | ((with_reducible refine Below.thru hb ?_ ?_); · first | omega | (simp; done) | (simp; omega))))⟩

end Go.Proofs.YtfjmbpbilfhfbaaGreat
