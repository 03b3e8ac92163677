/- MatrixOfLetters: both walks. -/
import Derived.Test.YtcijbgfiefmdkaaDoorLet
namespace Go.Proofs.YtcijbgfiefmdkaaDoor
open Go.RowKit Go.Shelf
open Go.Proofs.YtcijbgfiefmdkaaDoorW.PrintWords
set_option linter.unusedSimpArgs false

set_option maxHeartbeats 1000000 in
theorem eqMatrix_same (m : M) (w : World) :
    Calls Tryd.prog 11 #[.agg #[.int .i64 m.a, .int .i64 m.b, .int .i64 m.c, .int .i64 m.d], .agg #[.int .i64 m.a, .int .i64 m.b, .int .i64 m.c, .int .i64 m.d]] w fun e w' => e = .returned (.bool true) ∧ Below w.heap.size w w' := by
  go_enter Tryd.func11, Tryd.ntmps11
  go_wp2
  refine wp_loop_rounds 5 ?_
  rw [rounds_succ]
  go_wp2_with fail
  go_quiet (fail)
  go_wp2
  rw [rounds_succ]
  go_wp2_with fail
  go_quiet (fail)
  go_wp2
  rw [rounds_succ]
  go_wp2_with fail
  go_quiet (fail)
  go_wp2
  rw [rounds_succ]
  go_wp2_with fail
  go_quiet (fail)
  go_wp2
  rw [rounds_succ]
  go_wp2
  go_ret
  exact ⟨rfl, (by repeat (first | (with_reducible exact Below.refl _ _) | (with_reducible assumption) | (with_reducible refine Below.drew ?_) | (with_reducible refine Below.drewN ?_) | ((with_reducible refine Below.al ?_ ?_); · first | omega | (simp; done) | (simp; omega)) | ((with_reducible refine Below.sc ?_ ?_); · first | omega | (simp; done) | (simp; omega)) | ((with_reducible refine Below.thru hb ?_ ?_); · first | omega | (simp; done) | (simp; omega))))⟩

/-- What MatrixOfLetters gives. -/
def molV (s : ByteArray) : Value := if s.size > 400 ∨ allIn s [97, 98] = false then .tuple #[mv ⟨0, 0, 0, 0⟩, .int .i64 2] else prodRes (matR s)
theorem molV_bad {s : ByteArray} (h : s.size > 400 ∨ allIn s [97, 98] = false) : molV s = .tuple #[mv ⟨0, 0, 0, 0⟩, .int .i64 2] := by unfold molV; rw [if_pos h]
theorem molV_ok {s : ByteArray} (h : s.size ≤ 400) (ha : allIn s [97, 98] = true) : molV s = prodRes (matR s) := by
  unfold molV
  rw [if_neg]
  rintro (h1 | h1)
  · omega
  · rw [ha] at h1; cases h1
theorem molV_form (s : ByteArray) : ∃ (r : M) (c : Int), molV s = .tuple #[mv r, .int .i64 c] := by
  by_cases h : s.size > 400 ∨ allIn s [97, 98] = false
  · exact ⟨_, _, molV_bad h⟩
  · rw [not_or] at h
    rw [molV_ok (by omega) (by simpa using h.2)]
    exact prodRes_form _

set_option maxRecDepth 8000 in
set_option maxHeartbeats 2000000 in
theorem MatrixOfLetters_any (s : ByteArray) (w : World) (hs : s.size ≤ 1048576) :
    Calls Tryd.prog 10 #[.string s] w fun e w' => e = .returned (molV s) ∧ Below w.heap.size w w' := by
  obtain ⟨r, cd, hrc⟩ := molV_form s
  by_cases h4 : s.size > 400
  · have h5 : (400 : Int) < (s.size : Int) := by omega
    rw [molV_bad (.inl h4)]
    clear hrc
    go_enter Tryd.func10, Tryd.ntmps10
    go_wp2
    refine ret_at (v := .tuple #[mv ⟨0, 0, 0, 0⟩, .int .i64 2]) (fun w' => Blk w' (w.heap.size) 26 (mcs ⟨0, 0, 0, 0⟩)) (by repeat (first | (with_reducible assumption) | ((with_reducible refine Blk.new ?_); · first | omega | (simp; done) | (simp; omega)) | (with_reducible apply Blk.set4) | (with_reducible apply Blk.set3) | (with_reducible apply Blk.set2) | ((with_reducible refine Blk.put ?_ ?_); · first | omega | (simp; omega)) | (with_reducible refine Blk.old ?_) | (with_reducible refine Blk.drew ?_) | (with_reducible refine Blk.drewN ?_) | ((with_reducible refine Blk.below hb ?_ ?_); · first | omega | (simp; done) | (simp; omega)))) (fun w' hB => by have q := hB.m; simp [results, Tryd.results10, go_sem, q]) rfl ?_
    exact ⟨rfl, (by repeat (first | (with_reducible exact Below.refl _ _) | (with_reducible assumption) | (with_reducible refine Below.drew ?_) | (with_reducible refine Below.drewN ?_) | ((with_reducible refine Below.al ?_ ?_); · first | omega | (simp; done) | (simp; omega)) | ((with_reducible refine Below.sc ?_ ?_); · first | omega | (simp; done) | (simp; omega)) | ((with_reducible refine Below.thru hb ?_ ?_); · first | omega | (simp; done) | (simp; omega))))⟩
  · have h5 : ¬ (400 : Int) < (s.size : Int) := by omega
    have hcon := Lib.hid (fun w' : World => Any.strings_Trim_laid Tryd.lays160 (by kernel_rfl) s ⟨#[97, 98]⟩ w' (by omega) (by decide) (ascii_of_all (by decide)))
    cases ha : allIn s [97, 98] with
    | false =>
      rw [molV_bad (.inr ha)]
      have hne0 := trim_left s [97, 98] ha
      have hcon2 : Hid (∀ w' : World, Calls Tryd.prog 21 #[.string s, .string ⟨#[97, 98]⟩] w' (fun e w'' => e = .returned (.string ⟨(Lib.trimS s.data.toList [97, 98]).toArray⟩) ∧ Below w'.heap.size w' w'')) := hcon
      clear hcon ha hrc
      generalize (⟨(Lib.trimS s.data.toList [97, 98]).toArray⟩ : ByteArray) = r at *
      have hne := str_ne hne0
      clear hne0
      go_enter Tryd.func10, Tryd.ntmps10
      go_wp2_with fail
      refine (hcon2.out _).mono ?_
      rintro e w1 ⟨rfl, hb⟩
      have k1 : Below w.heap.size w w1 := (by repeat (first | (with_reducible exact Below.refl _ _) | (with_reducible assumption) | (with_reducible refine Below.drew ?_) | (with_reducible refine Below.drewN ?_) | ((with_reducible refine Below.al ?_ ?_); · first | omega | (simp; done) | (simp; omega)) | ((with_reducible refine Below.sc ?_ ?_); · first | omega | (simp; done) | (simp; omega)) | ((with_reducible refine Below.thru hb ?_ ?_); · first | omega | (simp; done) | (simp; omega))))
      have B0 : Blk w1 w.heap.size 26 (mcs ⟨0, 0, 0, 0⟩) := (by repeat (first | (with_reducible assumption) | ((with_reducible refine Blk.new ?_); · first | omega | (simp; done) | (simp; omega)) | (with_reducible apply Blk.set4) | (with_reducible apply Blk.set3) | (with_reducible apply Blk.set2) | ((with_reducible refine Blk.put ?_ ?_); · first | omega | (simp; omega)) | (with_reducible refine Blk.old ?_) | (with_reducible refine Blk.drew ?_) | (with_reducible refine Blk.drewN ?_) | ((with_reducible refine Blk.below hb ?_ ?_); · first | omega | (simp; done) | (simp; omega))))
      have b0 := B0.m
      have g0 := B0.m4
      have l0 := B0.lt
      clear hb
      go_wp2
      refine ret_at (v := .tuple #[mv ⟨0, 0, 0, 0⟩, .int .i64 2]) (fun w' => Blk w' (w.heap.size) 26 (mcs ⟨0, 0, 0, 0⟩)) (by repeat (first | (with_reducible assumption) | ((with_reducible refine Blk.new ?_); · first | omega | (simp; done) | (simp; omega)) | (with_reducible apply Blk.set4) | (with_reducible apply Blk.set3) | (with_reducible apply Blk.set2) | ((with_reducible refine Blk.put ?_ ?_); · first | omega | (simp; omega)) | (with_reducible refine Blk.old ?_) | (with_reducible refine Blk.drew ?_) | (with_reducible refine Blk.drewN ?_) | ((with_reducible refine Blk.below hb ?_ ?_); · first | omega | (simp; done) | (simp; omega)))) (fun w' hB => by have q := hB.m; simp [results, Tryd.results10, go_sem, q]) rfl ?_
      exact ⟨rfl, (by repeat (first | (with_reducible exact Below.refl _ _) | (with_reducible assumption) | (with_reducible refine Below.drew ?_) | (with_reducible refine Below.drewN ?_) | ((with_reducible refine Below.al ?_ ?_); · first | omega | (simp; done) | (simp; omega)) | ((with_reducible refine Below.sc ?_ ?_); · first | omega | (simp; done) | (simp; omega)) | ((with_reducible refine Below.thru hb ?_ ?_); · first | omega | (simp; done) | (simp; omega))))⟩
    | true =>
      have hcon2 : Hid (∀ w' : World, Calls Tryd.prog 21 #[.string s, .string ⟨#[97, 98]⟩] w' (fun e w'' => e = .returned (.string ⟨#[]⟩) ∧ Below w'.heap.size w' w'')) := by
        rw [← trim_empty s [97, 98] ha]
        exact hcon
      have HO := Lib.hid (fun w' : World => ofLetters_any s w' (by omega) ha)
      rw [← molV_ok (by omega) ha, hrc] at HO
      rw [hrc]
      clear hcon ha hrc
      go_enter Tryd.func10, Tryd.ntmps10
      go_wp2_with fail
      refine (hcon2.out _).mono ?_
      rintro e w1 ⟨rfl, hb⟩
      have k1 : Below w.heap.size w w1 := (by repeat (first | (with_reducible exact Below.refl _ _) | (with_reducible assumption) | (with_reducible refine Below.drew ?_) | (with_reducible refine Below.drewN ?_) | ((with_reducible refine Below.al ?_ ?_); · first | omega | (simp; done) | (simp; omega)) | ((with_reducible refine Below.sc ?_ ?_); · first | omega | (simp; done) | (simp; omega)) | ((with_reducible refine Below.thru hb ?_ ?_); · first | omega | (simp; done) | (simp; omega))))
      have B0 : Blk w1 w.heap.size 26 (mcs ⟨0, 0, 0, 0⟩) := (by repeat (first | (with_reducible assumption) | ((with_reducible refine Blk.new ?_); · first | omega | (simp; done) | (simp; omega)) | (with_reducible apply Blk.set4) | (with_reducible apply Blk.set3) | (with_reducible apply Blk.set2) | ((with_reducible refine Blk.put ?_ ?_); · first | omega | (simp; omega)) | (with_reducible refine Blk.old ?_) | (with_reducible refine Blk.drew ?_) | (with_reducible refine Blk.drewN ?_) | ((with_reducible refine Blk.below hb ?_ ?_); · first | omega | (simp; done) | (simp; omega))))
      have l0 := B0.lt
      have s1 := k1.size
      clear hb
      go_wp2_with fail
      refine (HO.out _).mono ?_
      rintro e w2 ⟨rfl, hb⟩
      have k2 : Below w.heap.size w w2 := (by repeat (first | (with_reducible exact Below.refl _ _) | (with_reducible assumption) | (with_reducible refine Below.drew ?_) | (with_reducible refine Below.drewN ?_) | ((with_reducible refine Below.al ?_ ?_); · first | omega | (simp; done) | (simp; omega)) | ((with_reducible refine Below.sc ?_ ?_); · first | omega | (simp; done) | (simp; omega)) | ((with_reducible refine Below.thru hb ?_ ?_); · first | omega | (simp; done) | (simp; omega))))
      have B2 : Blk w2 w.heap.size 26 (mcs ⟨0, 0, 0, 0⟩) := (by repeat (first | (with_reducible assumption) | ((with_reducible refine Blk.new ?_); · first | omega | (simp; done) | (simp; omega)) | (with_reducible apply Blk.set4) | (with_reducible apply Blk.set3) | (with_reducible apply Blk.set2) | ((with_reducible refine Blk.put ?_ ?_); · first | omega | (simp; omega)) | (with_reducible refine Blk.old ?_) | (with_reducible refine Blk.drew ?_) | (with_reducible refine Blk.drewN ?_) | ((with_reducible refine Blk.below hb ?_ ?_); · first | omega | (simp; done) | (simp; omega))))
      have b2 := B2.m
      have g2 := B2.m4
      have l2 := B2.lt
      clear hb
      go_wp2
      refine ret_at (v := .tuple #[mv r, .int .i64 cd]) (fun w' => Blk w' (w.heap.size) 26 (mcs r)) (by repeat (first | (with_reducible assumption) | ((with_reducible refine Blk.new ?_); · first | omega | (simp; done) | (simp; omega)) | (with_reducible apply Blk.set4) | (with_reducible apply Blk.set3) | (with_reducible apply Blk.set2) | ((with_reducible refine Blk.put ?_ ?_); · first | omega | (simp; omega)) | (with_reducible refine Blk.old ?_) | (with_reducible refine Blk.drew ?_) | (with_reducible refine Blk.drewN ?_) | ((with_reducible refine Blk.below hb ?_ ?_); · first | omega | (simp; done) | (simp; omega)))) (fun w' hB => by have q := hB.m; simp [results, Tryd.results10, go_sem, q]) rfl ?_
      exact ⟨rfl, (by repeat (first | (with_reducible exact Below.refl _ _) | (with_reducible assumption) | (with_reducible refine Below.drew ?_) | (with_reducible refine Below.drewN ?_) | ((with_reducible refine Below.al ?_ ?_); · first | omega | (simp; done) | (simp; omega)) | ((with_reducible refine Below.sc ?_ ?_); · first | omega | (simp; done) | (simp; omega)) | ((with_reducible refine Below.thru hb ?_ ?_); · first | omega | (simp; done) | (simp; omega))))⟩

set_option maxRecDepth 8000 in
set_option maxHeartbeats 2000000 in
theorem specMatrixOfLetters_any (s : ByteArray) (w : World) (hs : s.size ≤ 1048576) :
    Calls Tryd.prog 9 #[.string s] w fun e w' => e = .returned (molV s) ∧ Below w.heap.size w w' := by
  obtain ⟨r, cd, hrc⟩ := molV_form s
  by_cases h4 : s.size > 400
  · have h5 : (400 : Int) < (s.size : Int) := by omega
    rw [molV_bad (.inl h4)]
    clear hrc
    go_enter Tryd.func9, Tryd.ntmps9
    go_wp2
    refine ret_at (v := .tuple #[mv ⟨0, 0, 0, 0⟩, .int .i64 2]) (fun w' => Blk w' (w.heap.size) 26 (mcs ⟨0, 0, 0, 0⟩)) (by repeat (first | (with_reducible assumption) | ((with_reducible refine Blk.new ?_); · first | omega | (simp; done) | (simp; omega)) | (with_reducible apply Blk.set4) | (with_reducible apply Blk.set3) | (with_reducible apply Blk.set2) | ((with_reducible refine Blk.put ?_ ?_); · first | omega | (simp; omega)) | (with_reducible refine Blk.old ?_) | (with_reducible refine Blk.drew ?_) | (with_reducible refine Blk.drewN ?_) | ((with_reducible refine Blk.below hb ?_ ?_); · first | omega | (simp; done) | (simp; omega)))) (fun w' hB => by have q := hB.m; simp [results, Tryd.results9, go_sem, q]) rfl ?_
    exact ⟨rfl, (by repeat (first | (with_reducible exact Below.refl _ _) | (with_reducible assumption) | (with_reducible refine Below.drew ?_) | (with_reducible refine Below.drewN ?_) | ((with_reducible refine Below.al ?_ ?_); · first | omega | (simp; done) | (simp; omega)) | ((with_reducible refine Below.sc ?_ ?_); · first | omega | (simp; done) | (simp; omega)) | ((with_reducible refine Below.thru hb ?_ ?_); · first | omega | (simp; done) | (simp; omega))))⟩
  · have h5 : ¬ (400 : Int) < (s.size : Int) := by omega
    have HB := Lib.hid (fun h => molV_bad (s := s) (.inr h))
    have HK := Lib.hid (fun h => molV_ok (s := s) (by omega) h)
    have HI := Lib.hid (allIn_iff (s := s) (a := 97) (b := 98))
    have HG := Lib.hid (fun w' : World => l09Matrix_any s w' (by omega))
    rw [hrc]
    have HRC := Lib.hid hrc
    clear hrc
    go_enter Tryd.func9, Tryd.ntmps9
    go_wp2_with fail
    refine forget (fun W_ => Blk W_ w.heap.size 26 (mcs ⟨0, 0, 0, 0⟩) ∧ Below w.heap.size w W_) ⟨(by repeat (first | (with_reducible assumption) | ((with_reducible refine Blk.new ?_); · first | omega | (simp; done) | (simp; omega)) | (with_reducible apply Blk.set4) | (with_reducible apply Blk.set3) | (with_reducible apply Blk.set2) | ((with_reducible refine Blk.put ?_ ?_); · first | omega | (simp; omega)) | (with_reducible refine Blk.old ?_) | (with_reducible refine Blk.drew ?_) | (with_reducible refine Blk.drewN ?_) | ((with_reducible refine Blk.below hb ?_ ?_); · first | omega | (simp; done) | (simp; omega)))), (by repeat (first | (with_reducible exact Below.refl _ _) | (with_reducible assumption) | (with_reducible refine Below.drew ?_) | (with_reducible refine Below.drewN ?_) | ((with_reducible refine Below.al ?_ ?_); · first | omega | (simp; done) | (simp; omega)) | ((with_reducible refine Below.sc ?_ ?_); · first | omega | (simp; done) | (simp; omega)) | ((with_reducible refine Below.thru hb ?_ ?_); · first | omega | (simp; done) | (simp; omega))))⟩ ?_
    rintro w0 ⟨B0, k0⟩
    go_loopw [4] (fun kk wr => ∃ (k : Nat), k ≤ s.size ∧ kk = .int .i64 k ∧ Hid (∀ j : Nat, j < k → bt s (j : Int) = 97 ∨ bt s (j : Int) = 98) ∧ w0 = wr) (fun kk _ => s.size - (intOf kk).toNat)
    case atStart => exact ⟨0, Nat.zero_le _, rfl, Lib.hid (fun j h => absurd h (by omega)), rfl⟩
    case round =>
      obtain ⟨k, hk, rfl, hp, rfl⟩ := hrel
      have sw := k0.size
      have lB := B0.lt
      have b0 := B0.m
      have g0 := B0.m4
      by_cases hlt : k < s.size
      · have i0 : (0 : Int) ≤ (k : Int) := by omega
        have i1 : (k : Int) < (s.size : Int) := by omega
        have hbt := bt_get hlt
        have HS := Lib.hid (show (bt s (k : Int) = 97 ∨ bt s (k : Int) = 98) → ∀ j : Nat, j < k + 1 → bt s (j : Int) = 97 ∨ bt s (j : Int) = 98 from fun h j hj => if e : j < k then hp.out j e else by
          obtain rfl : j = k := by omega
          exact h)
        have HNo := Lib.hid (show ¬ (bt s (k : Int) = 97 ∨ bt s (k : Int) = 98) → allIn s [97, 98] = false from fun h => by
          cases ha : allIn s [97, 98] with
          | false => rfl
          | true => exact absurd (HI.out.1 ha k hlt) h)
        rw [hbt] at HS HNo
        clear hbt
        by_cases h97 : (s[k].toNat : Int) = 97
        · have HF := Lib.hid (HS.out (.inl h97))
          go_wp2
          go_roundw
          case rel => exact ⟨k + 1, by omega, by go_num, HF, trivial⟩
          case measure => simp [intOf]; omega
        · by_cases h98 : (s[k].toNat : Int) = 98
          · have HF := Lib.hid (HS.out (.inr h98))
            go_wp2
            go_roundw
            case rel => exact ⟨k + 1, by omega, by go_num, HF, trivial⟩
            case measure => simp [intOf]; omega
          · have n97 := bne_iff_ne.2 h97
            have n98 := bne_iff_ne.2 h98
            have HF := Lib.hid (HB.out (HNo.out (fun h => by rcases h with h | h; exact h97 h; exact h98 h)))
            go_wp2
            refine ret_at (v := .tuple #[mv ⟨0, 0, 0, 0⟩, .int .i64 2]) (fun w' => Blk w' (w.heap.size) 26 (mcs ⟨0, 0, 0, 0⟩)) (by repeat (first | (with_reducible assumption) | ((with_reducible refine Blk.new ?_); · first | omega | (simp; done) | (simp; omega)) | (with_reducible apply Blk.set4) | (with_reducible apply Blk.set3) | (with_reducible apply Blk.set2) | ((with_reducible refine Blk.put ?_ ?_); · first | omega | (simp; omega)) | (with_reducible refine Blk.old ?_) | (with_reducible refine Blk.drew ?_) | (with_reducible refine Blk.drewN ?_) | ((with_reducible refine Blk.below hb ?_ ?_); · first | omega | (simp; done) | (simp; omega)))) (fun w' hB => by have q := hB.m; simp [results, Tryd.results9, go_sem, q]) rfl ?_
            exact ⟨by rw [← HRC.out, HF.out], (by repeat (first | (with_reducible exact Below.refl _ _) | (with_reducible assumption) | (with_reducible refine Below.drew ?_) | (with_reducible refine Below.drewN ?_) | ((with_reducible refine Below.al ?_ ?_); · first | omega | (simp; done) | (simp; omega)) | ((with_reducible refine Below.sc ?_ ?_); · first | omega | (simp; done) | (simp; omega)) | ((with_reducible refine Below.thru hb ?_ ?_); · first | omega | (simp; done) | (simp; omega))))⟩
      · obtain rfl : k = s.size := by omega
        have HF := Lib.hid (HK.out (HI.out.2 hp.out))
        have HC := Lib.hid (show prodRes (matR s) = .tuple #[mv r, .int .i64 cd] by rw [← HF.out, HRC.out])
        rw [HC.out] at HG
        go_wp2_with fail
        refine (HG.out _).mono ?_
        rintro e w2 ⟨rfl, hb⟩
        have k2 : Below w.heap.size w w2 := (by repeat (first | (with_reducible exact Below.refl _ _) | (with_reducible assumption) | (with_reducible refine Below.drew ?_) | (with_reducible refine Below.drewN ?_) | ((with_reducible refine Below.al ?_ ?_); · first | omega | (simp; done) | (simp; omega)) | ((with_reducible refine Below.sc ?_ ?_); · first | omega | (simp; done) | (simp; omega)) | ((with_reducible refine Below.thru hb ?_ ?_); · first | omega | (simp; done) | (simp; omega))))
        have B2 : Blk w2 w.heap.size 26 (mcs ⟨0, 0, 0, 0⟩) := (by repeat (first | (with_reducible assumption) | ((with_reducible refine Blk.new ?_); · first | omega | (simp; done) | (simp; omega)) | (with_reducible apply Blk.set4) | (with_reducible apply Blk.set3) | (with_reducible apply Blk.set2) | ((with_reducible refine Blk.put ?_ ?_); · first | omega | (simp; omega)) | (with_reducible refine Blk.old ?_) | (with_reducible refine Blk.drew ?_) | (with_reducible refine Blk.drewN ?_) | ((with_reducible refine Blk.below hb ?_ ?_); · first | omega | (simp; done) | (simp; omega))))
        have b2 := B2.m
        have g2 := B2.m4
        have l2 := B2.lt
        clear hb b0 g0 B0 k0
        go_wp2
        refine ret_at (v := .tuple #[mv r, .int .i64 cd]) (fun w' => Blk w' (w.heap.size) 26 (mcs r)) (by repeat (first | (with_reducible assumption) | ((with_reducible refine Blk.new ?_); · first | omega | (simp; done) | (simp; omega)) | (with_reducible apply Blk.set4) | (with_reducible apply Blk.set3) | (with_reducible apply Blk.set2) | ((with_reducible refine Blk.put ?_ ?_); · first | omega | (simp; omega)) | (with_reducible refine Blk.old ?_) | (with_reducible refine Blk.drew ?_) | (with_reducible refine Blk.drewN ?_) | ((with_reducible refine Blk.below hb ?_ ?_); · first | omega | (simp; done) | (simp; omega)))) (fun w' hB => by have q := hB.m; simp [results, Tryd.results9, go_sem, q]) rfl ?_
        exact ⟨rfl, (by repeat (first | (with_reducible exact Below.refl _ _) | (with_reducible assumption) | (with_reducible refine Below.drew ?_) | (with_reducible refine Below.drewN ?_) | ((with_reducible refine Below.al ?_ ?_); · first | omega | (simp; done) | (simp; omega)) | ((with_reducible refine Below.sc ?_ ?_); · first | omega | (simp; done) | (simp; omega)) | ((with_reducible refine Below.thru hb ?_ ?_); · first | omega | (simp; done) | (simp; omega))))⟩

end Go.Proofs.YtcijbgfiefmdkaaDoor
