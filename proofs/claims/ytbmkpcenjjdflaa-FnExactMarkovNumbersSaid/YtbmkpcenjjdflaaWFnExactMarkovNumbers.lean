/- The walk of the law FnExactMarkovNumbers. -/
import Derived.Test.YtbmkpcenjjdflaaMkw
namespace Go.Proofs.Ytbmkpcenjjdflaa
open Go.RowKit
set_option linter.unusedSimpArgs false

theorem mk_len (n : Int) : (mkL n).length ≤ 40 := by
  unfold mkL
  split
  · rw [zs_len]
    exact tr_len n
  · simp
set_option maxRecDepth 8000 in
set_option maxHeartbeats 1000000 in
theorem FnExactMarkovNumbers_walk (n : Int) (w : World) (_ : (Lit.int .i64 n).wf = true) :
    Calls Try.prog 4 #[.int .i64 n] w fun e w' => e = .returned (.bool true) ∧ Below w.heap.size w w' := by
  have S1 : ∀ W, Calls Try.prog 11 #[.int .i64 n] W fun e w' => ∃ v, e = .returned (.tuple #[v, .int .i64 (tbC n)]) ∧ Own w' W.heap.size v (mkL n) ∧ Below W.heap.size W w' := fun W => specMarkovNumbers_any n W
  have T2 : ∀ W, Calls Try.prog 12 #[.int .i64 n] W fun e w' => ∃ v, e = .returned (.tuple #[v, .int .i64 (tbC n)]) ∧ Own w' W.heap.size v (mkL n) ∧ Below W.heap.size W w' := fun W => MarkovNumbers_any n W
  have hl := mk_len n
  have hqq : ∀ ys : List Int, (ys == ys) = true := fun ys => beq_self_eq_true ys
  generalize mkL n = xs at *
  generalize tbC n = c at *
  go_enter Try.func4, Try.ntmps4
  go_wp2_with fail
  refine (S1 _).mono ?_
  rintro e w1 ⟨v1, rfl, o1, k1⟩
  have s1 := k1.size
  go_wp2_with fail
  refine (T2 _).mono ?_
  rintro e w4 ⟨v2, rfl, og, hb⟩
  have o4 : Own w4 w.heap.size v1 xs := (by repeat (first | (with_reducible assumption) | (with_reducible refine Own.drew ?_) | (with_reducible refine Own.drewN ?_) | (with_reducible refine Own.alloc ?_) | (with_reducible refine OwnK.drew ?_) | (with_reducible refine OwnK.drewN ?_) | (with_reducible refine OwnK.alloc ?_) | ((with_reducible refine OwnK.put ?_ ?_); · first | omega | (simp; done) | (simp; omega)) | ((with_reducible refine Own.below hb ?_)) | ((with_reducible refine OwnK.below hb ?_))))
  have kw4 : Below w.heap.size w w4 := (by repeat (first | (with_reducible exact Below.refl _ _) | (with_reducible assumption) | (with_reducible refine Below.drew ?_) | (with_reducible refine Below.drewN ?_) | ((with_reducible refine Below.al ?_ ?_); · first | omega | (simp; done) | (simp; omega)) | ((with_reducible refine Below.sc ?_ ?_); · first | omega | (simp; done) | (simp; omega)) | ((with_reducible refine Below.thru hb ?_ ?_); · first | omega | (simp; done) | (simp; omega))))
  have sw4 := kw4.size
  have sx := hb.size
  clear hb
  go_wp2_with fail
  refine (eqInt64S_any v2 v1 xs xs _ og.slIn o4.slIn (by unfold maxLen; omega) (by unfold maxLen; omega)).mono ?_
  rintro e w5 ⟨rfl, hb⟩
  rw [hqq]
  have o5 : Own w5 w.heap.size v1 xs := (by repeat (first | (with_reducible assumption) | (with_reducible refine Own.drew ?_) | (with_reducible refine Own.drewN ?_) | (with_reducible refine Own.alloc ?_) | (with_reducible refine OwnK.drew ?_) | (with_reducible refine OwnK.drewN ?_) | (with_reducible refine OwnK.alloc ?_) | ((with_reducible refine OwnK.put ?_ ?_); · first | omega | (simp; done) | (simp; omega)) | ((with_reducible refine Own.below hb ?_)) | ((with_reducible refine OwnK.below hb ?_))))
  have g5 : Own w5 w1.heap.size v2 xs := (by repeat (first | (with_reducible assumption) | (with_reducible refine Own.drew ?_) | (with_reducible refine Own.drewN ?_) | (with_reducible refine Own.alloc ?_) | (with_reducible refine OwnK.drew ?_) | (with_reducible refine OwnK.drewN ?_) | (with_reducible refine OwnK.alloc ?_) | ((with_reducible refine OwnK.put ?_ ?_); · first | omega | (simp; done) | (simp; omega)) | ((with_reducible refine Own.below hb ?_)) | ((with_reducible refine OwnK.below hb ?_))))
  have kw5 : Below w.heap.size w w5 := (by repeat (first | (with_reducible exact Below.refl _ _) | (with_reducible assumption) | (with_reducible refine Below.drew ?_) | (with_reducible refine Below.drewN ?_) | ((with_reducible refine Below.al ?_ ?_); · first | omega | (simp; done) | (simp; omega)) | ((with_reducible refine Below.sc ?_ ?_); · first | omega | (simp; done) | (simp; omega)) | ((with_reducible refine Below.thru hb ?_ ?_); · first | omega | (simp; done) | (simp; omega))))
  have sw5 := kw5.size
  have sy := hb.size
  clear hb og o4 kw4
  go_wp2_with fail
  refine (markInt64S_any v2 xs _ 1 _ g5 (by omega) (by omega) (by omega)).mono ?_
  rintro e w6 ⟨rfl, g6, hg, hs⟩
  have o6 : Own w6 w.heap.size v1 xs := Own.apart hg g5 o1 (by omega) o5
  have kw6 : Below w.heap.size w w6 := Below.grownO hg g5 (by omega) (by omega) kw5
  have sw6 := kw6.size
  clear hg o5 g5 kw5
  go_wp2_with fail
  refine (heldInt64S_any v2 xs.length 1 _ g6.slIn (by omega) (by omega) (by omega)).mono ?_
  rintro e w' ⟨rfl, rfl⟩
  go_wp2_with fail
  refine (T2 _).mono ?_
  rintro e w8 ⟨v3, rfl, oh, hb⟩
  have o8 : Own w8 w.heap.size v1 xs := (by repeat (first | (with_reducible assumption) | (with_reducible refine Own.drew ?_) | (with_reducible refine Own.drewN ?_) | (with_reducible refine Own.alloc ?_) | (with_reducible refine OwnK.drew ?_) | (with_reducible refine OwnK.drewN ?_) | (with_reducible refine OwnK.alloc ?_) | ((with_reducible refine OwnK.put ?_ ?_); · first | omega | (simp; done) | (simp; omega)) | ((with_reducible refine Own.below hb ?_)) | ((with_reducible refine OwnK.below hb ?_))))
  have g8 : Own w8 w1.heap.size v2 (runOf 1 xs.length) := (by repeat (first | (with_reducible assumption) | (with_reducible refine Own.drew ?_) | (with_reducible refine Own.drewN ?_) | (with_reducible refine Own.alloc ?_) | (with_reducible refine OwnK.drew ?_) | (with_reducible refine OwnK.drewN ?_) | (with_reducible refine OwnK.alloc ?_) | ((with_reducible refine OwnK.put ?_ ?_); · first | omega | (simp; done) | (simp; omega)) | ((with_reducible refine Own.below hb ?_)) | ((with_reducible refine OwnK.below hb ?_))))
  have kw8 : Below w.heap.size w w8 := (by repeat (first | (with_reducible exact Below.refl _ _) | (with_reducible assumption) | (with_reducible refine Below.drew ?_) | (with_reducible refine Below.drewN ?_) | ((with_reducible refine Below.al ?_ ?_); · first | omega | (simp; done) | (simp; omega)) | ((with_reducible refine Below.sc ?_ ?_); · first | omega | (simp; done) | (simp; omega)) | ((with_reducible refine Below.thru hb ?_ ?_); · first | omega | (simp; done) | (simp; omega))))
  have sw8 := kw8.size
  clear hb kw6 g6 o6
  go_wp2_with fail
  refine (eqInt64S_any v3 v1 xs xs _ oh.slIn o8.slIn (by unfold maxLen; omega) (by unfold maxLen; omega)).mono ?_
  rintro e w9 ⟨rfl, hb⟩
  rw [hqq]
  have g9 : Own w9 w1.heap.size v2 (runOf 1 xs.length) := (by repeat (first | (with_reducible assumption) | (with_reducible refine Own.drew ?_) | (with_reducible refine Own.drewN ?_) | (with_reducible refine Own.alloc ?_) | (with_reducible refine OwnK.drew ?_) | (with_reducible refine OwnK.drewN ?_) | (with_reducible refine OwnK.alloc ?_) | ((with_reducible refine OwnK.put ?_ ?_); · first | omega | (simp; done) | (simp; omega)) | ((with_reducible refine Own.below hb ?_)) | ((with_reducible refine OwnK.below hb ?_))))
  have kw9 : Below w.heap.size w w9 := (by repeat (first | (with_reducible exact Below.refl _ _) | (with_reducible assumption) | (with_reducible refine Below.drew ?_) | (with_reducible refine Below.drewN ?_) | ((with_reducible refine Below.al ?_ ?_); · first | omega | (simp; done) | (simp; omega)) | ((with_reducible refine Below.sc ?_ ?_); · first | omega | (simp; done) | (simp; omega)) | ((with_reducible refine Below.thru hb ?_ ?_); · first | omega | (simp; done) | (simp; omega))))
  clear hb
  go_wp2_with fail
  refine (heldInt64S_any v2 xs.length 1 _ g9.slIn (by omega) (by omega) (by omega)).mono ?_
  rintro e w' ⟨rfl, rfl⟩
  go_wp2
  go_ret
  exact ⟨rfl, (by repeat (first | (with_reducible exact Below.refl _ _) | (with_reducible assumption) | (with_reducible refine Below.drew ?_) | (with_reducible refine Below.drewN ?_) | ((with_reducible refine Below.al ?_ ?_); · first | omega | (simp; done) | (simp; omega)) | ((with_reducible refine Below.sc ?_ ?_); · first | omega | (simp; done) | (simp; omega)) | ((with_reducible refine Below.thru hb ?_ ?_); · first | omega | (simp; done) | (simp; omega))))⟩

end Go.Proofs.Ytbmkpcenjjdflaa
