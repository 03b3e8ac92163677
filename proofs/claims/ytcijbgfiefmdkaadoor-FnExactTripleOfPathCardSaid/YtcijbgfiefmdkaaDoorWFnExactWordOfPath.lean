/- WordOfPath: the program's walk, and the law's. -/
import Derived.Test.YtcijbgfiefmdkaaDoorTrim
namespace Go.Proofs.YtcijbgfiefmdkaaDoor
open Go.RowKit Go.Shelf Go.Lib
open Go.Proofs.YtcijbgfiefmdkaaDoor.PFnExactWordOfPath Go.Proofs.YtcijbgfiefmdkaaDoorW.PrintWords

theorem pairR_code (s : ByteArray) : ((pairR s).2.2 = 0 ∧ s.size ≤ 12 ∧ (pairR s).1 = (wrds s s.size).1 ∧ (pairR s).2.1 = (wrds s s.size).2) ∨ (¬ (pairR s).2.2 = 0 ∧ (pairR s).1 ++ (pairR s).2.1 = ⟨#[]⟩) := by
  unfold pairR
  split
  · exact .inr ⟨by decide, rfl⟩
  · split
    · exact .inr ⟨by decide, rfl⟩
    · split
      · exact .inr ⟨by decide, rfl⟩
      · exact .inl ⟨rfl, by omega, rfl, rfl⟩
/-- The word of a path. -/
def wordR (s : ByteArray) : ByteArray := (pairR s).1 ++ (pairR s).2.1

set_option maxRecDepth 8000 in
set_option maxHeartbeats 1000000 in
theorem WordOfPath_any (s : ByteArray) (w : World) (hs : s.size ≤ 1048576) : Calls Tryd.prog 8 #[.string s] w fun e w' => e = .returned (.tuple #[.string (wordR s), .int .i64 (pairR s).2.2]) ∧ Below w.heap.size w w' := by
  have HP := Lib.hid (fun w' : World => pathCode_any s w' hs)
  have hsz := pairR_size s
  rcases pairR_code s with ⟨h0, h12, h1, h2⟩ | ⟨h0, h1⟩
  · have HW := Lib.hid (fun w' : World => impl_wordsOf.calls 64 s _ _ w' (wordsOf_f s h12))
    have HF := Lib.hid (show wordR s = (wrds s s.size).1 ++ (wrds s s.size).2 by unfold wordR; rw [h1, h2])
    rw [h1, h2] at hsz
    clear h1 h2
    generalize wrds s s.size = p at *
    obtain ⟨u, v⟩ := p
    simp only at HW HF hsz
    rw [h0] at HP
    have HZ := Lib.hid h0
    clear h0
    have hlt : ¬ 9223372036854775807 < u.size + v.size := by omega
    go_enter Tryd.func8, Tryd.ntmps8
    go_wp2_with fail
    refine (HP.out _).mono ?_
    rintro e w1 ⟨rfl, hb⟩
    have k1 : Below w.heap.size w w1 := (by repeat (first | (with_reducible exact Below.refl _ _) | (with_reducible assumption) | (with_reducible refine Below.drew ?_) | (with_reducible refine Below.drewN ?_) | ((with_reducible refine Below.al ?_ ?_); · first | omega | (simp; done) | (simp; omega)) | ((with_reducible refine Below.sc ?_ ?_); · first | omega | (simp; done) | (simp; omega)) | ((with_reducible refine Below.thru hb ?_ ?_); · first | omega | (simp; done) | (simp; omega))))
    have s1 := k1.size
    clear hb
    go_wp2_with fail
    refine (HW.out _).mono ?_
    rintro e w2 ⟨rfl, hd⟩
    have hb := hd.below
    have k2 : Below w.heap.size w w2 := (by repeat (first | (with_reducible exact Below.refl _ _) | (with_reducible assumption) | (with_reducible refine Below.drew ?_) | (with_reducible refine Below.drewN ?_) | ((with_reducible refine Below.al ?_ ?_); · first | omega | (simp; done) | (simp; omega)) | ((with_reducible refine Below.sc ?_ ?_); · first | omega | (simp; done) | (simp; omega)) | ((with_reducible refine Below.thru hb ?_ ?_); · first | omega | (simp; done) | (simp; omega))))
    clear hb hd
    go_wp2
    go_ret2
    exact ⟨by rw [HF.out, HZ.out]; rfl, k2⟩
  · have HF := Lib.hid (show wordR s = ⟨#[]⟩ from h1)
    obtain ⟨c, hc⟩ : ∃ c, (pairR s).2.2 = c := ⟨_, rfl⟩
    rw [hc] at h0 HP
    have HC := Lib.hid hc
    clear h1 hc
    go_enter Tryd.func8, Tryd.ntmps8
    go_wp2_with fail
    refine (HP.out _).mono ?_
    rintro e w1 ⟨rfl, hb⟩
    have k1 : Below w.heap.size w w1 := (by repeat (first | (with_reducible exact Below.refl _ _) | (with_reducible assumption) | (with_reducible refine Below.drew ?_) | (with_reducible refine Below.drewN ?_) | ((with_reducible refine Below.al ?_ ?_); · first | omega | (simp; done) | (simp; omega)) | ((with_reducible refine Below.sc ?_ ?_); · first | omega | (simp; done) | (simp; omega)) | ((with_reducible refine Below.thru hb ?_ ?_); · first | omega | (simp; done) | (simp; omega))))
    clear hb
    go_wp2
    go_ret2
    exact ⟨by rw [HF.out, HC.out]; rfl, k1⟩

set_option maxRecDepth 8000 in
set_option maxHeartbeats 1000000 in
theorem FnExactWordOfPath_walk (s : ByteArray) (w : World) (hs : s.size ≤ 140737488351232) : Calls Tryd.prog 3 #[.string s] w fun e w' => e = .returned (.bool true) ∧ Below w.heap.size w w' := by
  by_cases h20 : s.size > 1048576
  · have h21 : (1048576 : Int) < (s.size : Int) := by omega
    go_enter Tryd.func3, Tryd.ntmps3
    go_wp2
    go_ret
    exact ⟨rfl, (by repeat (first | (with_reducible exact Below.refl _ _) | (with_reducible assumption) | (with_reducible refine Below.drew ?_) | (with_reducible refine Below.drewN ?_) | ((with_reducible refine Below.al ?_ ?_); · first | omega | (simp; done) | (simp; omega)) | ((with_reducible refine Below.sc ?_ ?_); · first | omega | (simp; done) | (simp; omega)) | ((with_reducible refine Below.thru hb ?_ ?_); · first | omega | (simp; done) | (simp; omega))))⟩
  · have h21 : ¬ (1048576 : Int) < (s.size : Int) := by omega
    have HS := Lib.hid (fun w' : World => spec_WordOfPath.calls 64 s _ _ w' (word_f s))
    have HI := Lib.hid (fun w' : World => WordOfPath_any s w' (by omega))
    have HE : (pairR s).1 ++ (pairR s).2.1 = wordR s := rfl
    rw [HE] at HS
    clear HE
    generalize wordR s = r at *
    generalize (pairR s).2.2 = c at *
    go_enter Tryd.func3, Tryd.ntmps3
    go_wp2_with fail
    refine (HS.out _).mono ?_
    rintro e w1 ⟨rfl, hd⟩
    have hb := hd.below
    have k1 : Below w.heap.size w w1 := (by repeat (first | (with_reducible exact Below.refl _ _) | (with_reducible assumption) | (with_reducible refine Below.drew ?_) | (with_reducible refine Below.drewN ?_) | ((with_reducible refine Below.al ?_ ?_); · first | omega | (simp; done) | (simp; omega)) | ((with_reducible refine Below.sc ?_ ?_); · first | omega | (simp; done) | (simp; omega)) | ((with_reducible refine Below.thru hb ?_ ?_); · first | omega | (simp; done) | (simp; omega))))
    have s1 := k1.size
    clear hb hd
    go_wp2_with fail
    refine (HI.out _).mono ?_
    rintro e w2 ⟨rfl, hb⟩
    have k2 : Below w.heap.size w w2 := (by repeat (first | (with_reducible exact Below.refl _ _) | (with_reducible assumption) | (with_reducible refine Below.drew ?_) | (with_reducible refine Below.drewN ?_) | ((with_reducible refine Below.al ?_ ?_); · first | omega | (simp; done) | (simp; omega)) | ((with_reducible refine Below.sc ?_ ?_); · first | omega | (simp; done) | (simp; omega)) | ((with_reducible refine Below.thru hb ?_ ?_); · first | omega | (simp; done) | (simp; omega))))
    clear hb
    go_wp2
    go_ret
    exact ⟨rfl, k2⟩

end Go.Proofs.YtcijbgfiefmdkaaDoor
