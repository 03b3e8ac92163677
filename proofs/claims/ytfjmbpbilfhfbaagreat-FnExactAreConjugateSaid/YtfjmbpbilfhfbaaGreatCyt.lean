/- Cyclic words: both tops. -/
import Derived.Test.YtfjmbpbilfhfbaaGreatKnd
namespace Go.Proofs.YtfjmbpbilfhfbaaGreat
open Go.RowKit
set_option linter.unusedSimpArgs false

/-- The code of a matrix that has to be of a kind. -/
def kcV (m : M) (k : Int) : Int := if m.ok = true then (if kindV m = k then 0 else 5) else 1
set_option maxHeartbeats 1000000 in
theorem kindCode_any (m : M) (k : Int) (w : World) :
    Calls Tryz.prog 18 #[mv m, .int .i64 k] w fun e w' => e = .returned (.int .i64 (kcV m k)) ∧ Below w.heap.size w w' := by
  cases h : m.ok with
  | false =>
    have HF := Lib.hid (show kcV m k = 1 by unfold kcV; rw [if_neg (by rw [h]; decide)])
    generalize kcV m k = kc at *
    go_enter Tryz.func18, Tryz.ntmps18
    go_wp2_with fail
    refine (IsMatrix_any m _).mono ?_
    rw [h]
    rintro e w1 ⟨rfl, hb⟩
    have k1 : Below w.heap.size w w1 := (by repeat (first | (with_reducible exact Below.refl _ _) | (with_reducible assumption) | (with_reducible refine Below.drew ?_) | (with_reducible refine Below.drewN ?_) | ((with_reducible refine Below.al ?_ ?_); · first | omega | (simp; done) | (simp; omega)) | ((with_reducible refine Below.sc ?_ ?_); · first | omega | (simp; done) | (simp; omega)) | ((with_reducible refine Below.thru hb ?_ ?_); · first | omega | (simp; done) | (simp; omega))))
    clear hb h
    go_wp2
    go_ret
    exact ⟨ret_int HF.out.symm, k1⟩
  | true =>
    have HK := Lib.hid (fun W => kind_any m W h)
    have HF := Lib.hid (show kcV m k = if kindV m = k then 0 else 5 by unfold kcV; rw [if_pos h])
    generalize kindV m = kv at *
    generalize kcV m k = kc at *
    go_enter Tryz.func18, Tryz.ntmps18
    go_wp2_with fail
    refine (IsMatrix_any m _).mono ?_
    rw [h]
    rintro e w1 ⟨rfl, hb⟩
    have k1 : Below w.heap.size w w1 := (by repeat (first | (with_reducible exact Below.refl _ _) | (with_reducible assumption) | (with_reducible refine Below.drew ?_) | (with_reducible refine Below.drewN ?_) | ((with_reducible refine Below.al ?_ ?_); · first | omega | (simp; done) | (simp; omega)) | ((with_reducible refine Below.sc ?_ ?_); · first | omega | (simp; done) | (simp; omega)) | ((with_reducible refine Below.thru hb ?_ ?_); · first | omega | (simp; done) | (simp; omega))))
    have B1 : Blk w1 w.heap.size 25 (mcs m) := (by repeat (first | (with_reducible assumption) | ((with_reducible refine Blk.new ?_); · first | omega | (simp; done) | (simp; omega)) | (with_reducible apply Blk.set4) | (with_reducible apply Blk.set3) | (with_reducible apply Blk.set2) | ((with_reducible refine Blk.put ?_ ?_); · first | omega | (simp; omega)) | (with_reducible refine Blk.old ?_) | (with_reducible refine Blk.drew ?_) | (with_reducible refine Blk.drewN ?_) | ((with_reducible refine Blk.below hb ?_ ?_); · first | omega | (simp; done) | (simp; omega))))
    have q1 := B1.m
    have s1 := k1.size
    clear hb h
    go_wp2_with fail
    refine (HK.out _).mono ?_
    rintro e w2 ⟨rfl, hb⟩
    have k2 : Below w.heap.size w w2 := (by repeat (first | (with_reducible exact Below.refl _ _) | (with_reducible assumption) | (with_reducible refine Below.drew ?_) | (with_reducible refine Below.drewN ?_) | ((with_reducible refine Below.al ?_ ?_); · first | omega | (simp; done) | (simp; omega)) | ((with_reducible refine Below.sc ?_ ?_); · first | omega | (simp; done) | (simp; omega)) | ((with_reducible refine Below.thru hb ?_ ?_); · first | omega | (simp; done) | (simp; omega))))
    clear hb
    by_cases e : kv = k
    · have HF2 := Lib.hid (show kc = 0 by rw [HF.out, if_pos e])
      have e2 : (kv != k) = false := by simp [e]
      clear HF e
      go_wp2
      go_ret
      exact ⟨ret_int HF2.out.symm, k2⟩
    · have HF2 := Lib.hid (show kc = 5 by rw [HF.out, if_neg e])
      have e2 : (kv != k) = true := by simp [e]
      clear HF e
      go_wp2
      go_ret
      exact ⟨ret_int HF2.out.symm, k2⟩
set_option maxHeartbeats 1000000 in
theorem l04Kind_any (m : M) (k : Int) (w : World) :
    Calls Tryz.prog 16 #[mv m, .int .i64 k] w fun e w' => e = .returned (.int .i64 (kcV m k)) ∧ Below w.heap.size w w' := by
  cases h : m.ok with
  | false =>
    have HF := Lib.hid (show kcV m k = 1 by unfold kcV; rw [if_neg (by rw [h]; decide)])
    generalize kcV m k = kc at *
    go_enter Tryz.func16, Tryz.ntmps16
    go_wp2_with fail
    refine (l01Is_any m _).mono ?_
    rw [h]
    rintro e w1 ⟨rfl, hb⟩
    have k1 : Below w.heap.size w w1 := (by repeat (first | (with_reducible exact Below.refl _ _) | (with_reducible assumption) | (with_reducible refine Below.drew ?_) | (with_reducible refine Below.drewN ?_) | ((with_reducible refine Below.al ?_ ?_); · first | omega | (simp; done) | (simp; omega)) | ((with_reducible refine Below.sc ?_ ?_); · first | omega | (simp; done) | (simp; omega)) | ((with_reducible refine Below.thru hb ?_ ?_); · first | omega | (simp; done) | (simp; omega))))
    clear hb h
    go_wp2
    go_ret
    exact ⟨ret_int HF.out.symm, k1⟩
  | true =>
    have HK := Lib.hid (fun W => l01Kind_any m W h)
    have HF := Lib.hid (show kcV m k = if kindV m = k then 0 else 5 by unfold kcV; rw [if_pos h])
    generalize kindV m = kv at *
    generalize kcV m k = kc at *
    go_enter Tryz.func16, Tryz.ntmps16
    go_wp2_with fail
    refine (l01Is_any m _).mono ?_
    rw [h]
    rintro e w1 ⟨rfl, hb⟩
    have k1 : Below w.heap.size w w1 := (by repeat (first | (with_reducible exact Below.refl _ _) | (with_reducible assumption) | (with_reducible refine Below.drew ?_) | (with_reducible refine Below.drewN ?_) | ((with_reducible refine Below.al ?_ ?_); · first | omega | (simp; done) | (simp; omega)) | ((with_reducible refine Below.sc ?_ ?_); · first | omega | (simp; done) | (simp; omega)) | ((with_reducible refine Below.thru hb ?_ ?_); · first | omega | (simp; done) | (simp; omega))))
    have B1 : Blk w1 w.heap.size 25 (mcs m) := (by repeat (first | (with_reducible assumption) | ((with_reducible refine Blk.new ?_); · first | omega | (simp; done) | (simp; omega)) | (with_reducible apply Blk.set4) | (with_reducible apply Blk.set3) | (with_reducible apply Blk.set2) | ((with_reducible refine Blk.put ?_ ?_); · first | omega | (simp; omega)) | (with_reducible refine Blk.old ?_) | (with_reducible refine Blk.drew ?_) | (with_reducible refine Blk.drewN ?_) | ((with_reducible refine Blk.below hb ?_ ?_); · first | omega | (simp; done) | (simp; omega))))
    have q1 := B1.m
    have s1 := k1.size
    clear hb h
    go_wp2_with fail
    refine (HK.out _).mono ?_
    rintro e w2 ⟨rfl, hb⟩
    have k2 : Below w.heap.size w w2 := (by repeat (first | (with_reducible exact Below.refl _ _) | (with_reducible assumption) | (with_reducible refine Below.drew ?_) | (with_reducible refine Below.drewN ?_) | ((with_reducible refine Below.al ?_ ?_); · first | omega | (simp; done) | (simp; omega)) | ((with_reducible refine Below.sc ?_ ?_); · first | omega | (simp; done) | (simp; omega)) | ((with_reducible refine Below.thru hb ?_ ?_); · first | omega | (simp; done) | (simp; omega))))
    clear hb
    by_cases e : kv = k
    · have HF2 := Lib.hid (show kc = 0 by rw [HF.out, if_pos e])
      have e2 : (kv != k) = false := by simp [e]
      clear HF e
      go_wp2
      go_ret
      exact ⟨ret_int HF2.out.symm, k2⟩
    · have HF2 := Lib.hid (show kc = 5 by rw [HF.out, if_neg e])
      have e2 : (kv != k) = true := by simp [e]
      clear HF e
      go_wp2
      go_ret
      exact ⟨ret_int HF2.out.symm, k2⟩

theorem good_of {m : M} (h : m.ok = true) (hk : kindV m = 3) (k : Nat) (he : ChEnds m k) : Good (freeL (chAll m k)) := by
  refine ⟨freeL_wd _, ?_⟩
  rw [(freeL_sg (M.ok_ch h) he).tr]
  unfold kindV at hk
  split at hk
  · exact absurd hk (by decide)
  · split at hk
    · exact absurd hk (by decide)
    · split at hk
      · exact absurd hk (by decide)
      · omega
theorem l02_ok {qs : List Int} (h : Inner qs) (h0 : 0 < qs.length) : (l02R qs).2 = !decide (200 < (freeL qs).length) := by
  by_cases hs : 600 < sumA qs qs.length
  · rw [l02R_big hs, decide_eq_true (free_long h h0 (.inr hs))]
    rfl
  · rw [l02R_ok hs]
    show decide ((freeL qs).length ≤ 200) = !decide (200 < (freeL qs).length)
    by_cases e : 200 < (freeL qs).length
    · rw [decide_eq_true e, decide_eq_false (by omega)]; rfl
    · rw [decide_eq_false e, decide_eq_true (by omega)]; rfl
/-- What both give for a matrix of the kind 3. -/
structure CycR (m : M) (r : ByteArray × Int) : Prop where
  impl : ∀ w : World, Calls Tryz.prog 19 #[mv m] w fun e w' => e = .returned (.tuple #[.string r.1, .int .i64 r.2]) ∧ Below w.heap.size w w'
  spec : ∀ w : World, Calls Tryz.prog 17 #[mv m] w fun e w' => e = .returned (.tuple #[.string r.1, .bool (decide (r.2 = 0))]) ∧ Below w.heap.size w w'
  code : r.2 = 0 ∨ r = (⟨#[]⟩, 3)
theorem cycR (m : M) (h : m.ok = true) (hk : kindV m = 3) : ∃ r, CycR m r := by
  have hg := good_of h hk
  by_cases hx : ∃ k, ChEnds m k
  · obtain ⟨k, he⟩ := hx
    have h2 := l02_ok (ch_inner (M.ok_ch h) he) (by rw [chAll_len]; omega)
    by_cases hl : 200 < (freeL (chAll m k)).length
    · refine ⟨(⟨#[]⟩, 3), fun w => ?_, fun w => ?_, .inr rfl⟩
      · refine (cyclicWord_any m w h hg).mono ?_
        rintro e w' ⟨⟨k', he', r, h3, -, rfl⟩, hb⟩
        obtain rfl := he.unique he'
        rw [h3 hl]
        exact ⟨rfl, hb⟩
      · refine (l04Cyclic_any m w h hg).mono ?_
        rintro e w' ⟨⟨k', he', r, h3, -, rfl⟩, hb⟩
        obtain rfl := he.unique he'
        rw [h3 (by rw [h2, decide_eq_true hl]; rfl)]
        exact ⟨rfl, hb⟩
    · by_cases hc : ∃ c, CycI (freeL (chAll m k)) c
      · obtain ⟨c, hc⟩ := hc
        refine ⟨(stB c, 0), fun w => ?_, fun w => ?_, .inl rfl⟩
        · refine (cyclicWord_any m w h hg).mono ?_
          rintro e w' ⟨⟨k', he', r, -, h4, rfl⟩, hb⟩
          obtain rfl := he.unique he'
          obtain ⟨c', hc', rfl⟩ := h4 hl
          obtain rfl := hc.unique hc'
          exact ⟨rfl, hb⟩
        · refine (l04Cyclic_any m w h hg).mono ?_
          rintro e w' ⟨⟨k', he', r, -, h4, rfl⟩, hb⟩
          obtain rfl := he.unique he'
          obtain ⟨c', hc', rfl⟩ := h4 (by rw [h2, decide_eq_false hl]; rfl)
          obtain rfl := hc.unique hc'
          exact ⟨rfl, hb⟩
      · refine ⟨(⟨#[]⟩, 0), fun w => ?_, fun w => ?_, .inl rfl⟩
        · refine (cyclicWord_any m w h hg).mono ?_
          rintro e w' ⟨⟨k', he', r, -, h4, rfl⟩, hb⟩
          obtain rfl := he.unique he'
          obtain ⟨c', hc', -⟩ := h4 hl
          exact absurd ⟨c', hc'⟩ hc
        · refine (l04Cyclic_any m w h hg).mono ?_
          rintro e w' ⟨⟨k', he', r, -, h4, rfl⟩, hb⟩
          obtain rfl := he.unique he'
          obtain ⟨c', hc', -⟩ := h4 (by rw [h2, decide_eq_false hl]; rfl)
          exact absurd ⟨c', hc'⟩ hc
  · refine ⟨(⟨#[]⟩, 0), fun w => ?_, fun w => ?_, .inl rfl⟩
    · refine (cyclicWord_any m w h hg).mono ?_
      rintro e w' ⟨⟨k', he', -⟩, -⟩
      exact absurd ⟨k', he'⟩ hx
    · refine (l04Cyclic_any m w h hg).mono ?_
      rintro e w' ⟨⟨k', he', -⟩, -⟩
      exact absurd ⟨k', he'⟩ hx

/-- What CyclicWord gives, the same from both. -/
structure CwR (m : M) (r : ByteArray × Int) : Prop where
  impl : ∀ w : World, Calls Tryz.prog 9 #[mv m] w fun e w' => e = .returned (.tuple #[.string r.1, .int .i64 r.2]) ∧ Below w.heap.size w w'
  spec : ∀ w : World, Calls Tryz.prog 7 #[mv m] w fun e w' => e = .returned (.tuple #[.string r.1, .int .i64 r.2]) ∧ Below w.heap.size w w'
set_option maxHeartbeats 1000000 in
theorem cwR (m : M) : ∃ r, CwR m r := by
  by_cases hz : kcV m 3 = 0
  · have h : m.ok = true := by
      unfold kcV at hz
      split at hz
      · assumption
      · exact absurd hz (by decide)
    have hk : kindV m = 3 := by
      unfold kcV at hz
      rw [if_pos h] at hz
      split at hz
      · assumption
      · exact absurd hz (by decide)
    obtain ⟨⟨rs, rc⟩, HR⟩ := cycR m h hk
    have H1 := Lib.hid HR.impl
    have H2 := Lib.hid HR.spec
    have H3 := Lib.hid HR.code
    have HZ := Lib.hid hz
    simp only at H1 H2 H3
    clear HR hz hk h
    refine ⟨(rs, rc), fun w => ?_, fun w => ?_⟩
    · go_enter Tryz.func9, Tryz.ntmps9
      go_wp2_with fail
      refine (kindCode_any m 3 _).mono ?_
      rw [HZ.out]
      rintro e w1 ⟨rfl, hb⟩
      have k1 : Below w.heap.size w w1 := (by repeat (first | (with_reducible exact Below.refl _ _) | (with_reducible assumption) | (with_reducible refine Below.drew ?_) | (with_reducible refine Below.drewN ?_) | ((with_reducible refine Below.al ?_ ?_); · first | omega | (simp; done) | (simp; omega)) | ((with_reducible refine Below.sc ?_ ?_); · first | omega | (simp; done) | (simp; omega)) | ((with_reducible refine Below.thru hb ?_ ?_); · first | omega | (simp; done) | (simp; omega))))
      have B1 : Blk w1 w.heap.size 25 (mcs m) := (by repeat (first | (with_reducible assumption) | ((with_reducible refine Blk.new ?_); · first | omega | (simp; done) | (simp; omega)) | (with_reducible apply Blk.set4) | (with_reducible apply Blk.set3) | (with_reducible apply Blk.set2) | ((with_reducible refine Blk.put ?_ ?_); · first | omega | (simp; omega)) | (with_reducible refine Blk.old ?_) | (with_reducible refine Blk.drew ?_) | (with_reducible refine Blk.drewN ?_) | ((with_reducible refine Blk.below hb ?_ ?_); · first | omega | (simp; done) | (simp; omega))))
      have q1 := B1.m
      have s1 := k1.size
      clear hb
      go_wp2_with fail
      refine (H1.out _).mono ?_
      rintro e w2 ⟨rfl, hb⟩
      have k2 : Below w.heap.size w w2 := (by repeat (first | (with_reducible exact Below.refl _ _) | (with_reducible assumption) | (with_reducible refine Below.drew ?_) | (with_reducible refine Below.drewN ?_) | ((with_reducible refine Below.al ?_ ?_); · first | omega | (simp; done) | (simp; omega)) | ((with_reducible refine Below.sc ?_ ?_); · first | omega | (simp; done) | (simp; omega)) | ((with_reducible refine Below.thru hb ?_ ?_); · first | omega | (simp; done) | (simp; omega))))
      clear hb
      go_wp2
      go_ret2
      exact ⟨rfl, k2⟩
    · go_enter Tryz.func7, Tryz.ntmps7
      go_wp2_with fail
      refine (l04Kind_any m 3 _).mono ?_
      rw [HZ.out]
      rintro e w1 ⟨rfl, hb⟩
      have k1 : Below w.heap.size w w1 := (by repeat (first | (with_reducible exact Below.refl _ _) | (with_reducible assumption) | (with_reducible refine Below.drew ?_) | (with_reducible refine Below.drewN ?_) | ((with_reducible refine Below.al ?_ ?_); · first | omega | (simp; done) | (simp; omega)) | ((with_reducible refine Below.sc ?_ ?_); · first | omega | (simp; done) | (simp; omega)) | ((with_reducible refine Below.thru hb ?_ ?_); · first | omega | (simp; done) | (simp; omega))))
      have B1 : Blk w1 w.heap.size 25 (mcs m) := (by repeat (first | (with_reducible assumption) | ((with_reducible refine Blk.new ?_); · first | omega | (simp; done) | (simp; omega)) | (with_reducible apply Blk.set4) | (with_reducible apply Blk.set3) | (with_reducible apply Blk.set2) | ((with_reducible refine Blk.put ?_ ?_); · first | omega | (simp; omega)) | (with_reducible refine Blk.old ?_) | (with_reducible refine Blk.drew ?_) | (with_reducible refine Blk.drewN ?_) | ((with_reducible refine Blk.below hb ?_ ?_); · first | omega | (simp; done) | (simp; omega))))
      have q1 := B1.m
      have s1 := k1.size
      clear hb
      go_wp2_with fail
      refine (H2.out _).mono ?_
      rintro e w2 ⟨rfl, hb⟩
      have k2 : Below w.heap.size w w2 := (by repeat (first | (with_reducible exact Below.refl _ _) | (with_reducible assumption) | (with_reducible refine Below.drew ?_) | (with_reducible refine Below.drewN ?_) | ((with_reducible refine Below.al ?_ ?_); · first | omega | (simp; done) | (simp; omega)) | ((with_reducible refine Below.sc ?_ ?_); · first | omega | (simp; done) | (simp; omega)) | ((with_reducible refine Below.thru hb ?_ ?_); · first | omega | (simp; done) | (simp; omega))))
      clear hb
      by_cases hc : rc = 0
      · have HC := Lib.hid hc
        have hd : decide (rc = 0) = true := decide_eq_true hc
        rw [hd]
        clear hc hd
        go_wp2
        go_ret2
        exact ⟨by rw [HC.out]; rfl, k2⟩
      · have HC := Lib.hid (H3.out.resolve_left hc)
        have hd : decide (rc = 0) = false := decide_eq_false hc
        rw [hd]
        clear hc hd
        go_wp2
        go_ret2
        have := HC.out
        simp only [Prod.mk.injEq] at this
        exact ⟨by rw [this.1, this.2]; rfl, k2⟩
  · have HZ := Lib.hid hz
    clear hz
    generalize hkc : kcV m 3 = kc at *
    have HKC := Lib.hid hkc
    clear hkc
    have hne : (kc != 0) = true := bne_iff_ne.2 HZ.out
    refine ⟨(⟨#[]⟩, kc), fun w => ?_, fun w => ?_⟩
    · go_enter Tryz.func9, Tryz.ntmps9
      go_wp2_with fail
      refine (kindCode_any m 3 _).mono ?_
      rw [HKC.out]
      rintro e w1 ⟨rfl, hb⟩
      have k1 : Below w.heap.size w w1 := (by repeat (first | (with_reducible exact Below.refl _ _) | (with_reducible assumption) | (with_reducible refine Below.drew ?_) | (with_reducible refine Below.drewN ?_) | ((with_reducible refine Below.al ?_ ?_); · first | omega | (simp; done) | (simp; omega)) | ((with_reducible refine Below.sc ?_ ?_); · first | omega | (simp; done) | (simp; omega)) | ((with_reducible refine Below.thru hb ?_ ?_); · first | omega | (simp; done) | (simp; omega))))
      clear hb
      go_wp2
      go_ret2
      exact ⟨rfl, k1⟩
    · go_enter Tryz.func7, Tryz.ntmps7
      go_wp2_with fail
      refine (l04Kind_any m 3 _).mono ?_
      rw [HKC.out]
      rintro e w1 ⟨rfl, hb⟩
      have k1 : Below w.heap.size w w1 := (by repeat (first | (with_reducible exact Below.refl _ _) | (with_reducible assumption) | (with_reducible refine Below.drew ?_) | (with_reducible refine Below.drewN ?_) | ((with_reducible refine Below.al ?_ ?_); · first | omega | (simp; done) | (simp; omega)) | ((with_reducible refine Below.sc ?_ ?_); · first | omega | (simp; done) | (simp; omega)) | ((with_reducible refine Below.thru hb ?_ ?_); · first | omega | (simp; done) | (simp; omega))))
      clear hb
      go_wp2
      go_ret2
      exact ⟨rfl, k1⟩

end Go.Proofs.YtfjmbpbilfhfbaaGreat
