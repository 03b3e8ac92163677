/- The walk of the law FnExactTriplesBelow. -/
import Derived.Test.YtbmkpcenjjdflaaTbI
import Derived.Test.YtbmkpcenjjdflaaTbT
import Derived.Test.YtbmkpcenjjdflaaTrS
namespace Go.Proofs.Ytbmkpcenjjdflaa
open Go.RowKit
set_option linter.unusedSimpArgs false

def tbL (n : Int) : List T3 := if inB n 0 1000000 = true then trB n else []
def tbC (n : Int) : Int := if inB n 0 1000000 = true then 0 else 2
theorem tb_yes {n : Int} (h : inB n 0 1000000 = true) : tbL n = trB n ∧ tbC n = 0 := by unfold tbL tbC; rw [if_pos h, if_pos h]; exact ⟨rfl, rfl⟩
theorem tb_no {n : Int} (h : inB n 0 1000000 = false) : tbL n = [] ∧ tbC n = 2 := by unfold tbL tbC; rw [h]; exact ⟨rfl, rfl⟩
theorem tb_len (n : Int) : (tbL n).length ≤ 40 := by
  unfold tbL
  split
  · exact List.length_filter_le _ _
  · simp
def GivesTT (n : Int) (w : World) (e : Ending) (w' : World) : Prop := ∃ v, e = .returned (.tuple #[v, .int .i64 (tbC n)]) ∧ OwnT w' w.heap.size v (tbL n) ∧ Below w.heap.size w w'
set_option maxHeartbeats 1000000 in
theorem specTriplesBelow_any (n : Int) (w : World) : Calls Try.prog 6 #[.int .i64 n] w (GivesTT n w) := by
  obtain ⟨GF, hGF⟩ : ∃ GF, GivesTT n w = GF := ⟨_, rfl⟩
  rw [hGF]
  have HGF := Lib.hid hGF
  have HI := Lib.hid (fun w' => l01In_any n 0 1000000 w')
  have hM : trM = 1000000 := rfl
  clear hGF
  cases hb : inB n 0 1000000 with
  | false =>
    have HE := Lib.hid (tb_no hb)
    rw [hb] at HI
    clear hb
    go_enter Try.func6, Try.ntmps6
    go_wp2_with fail
    refine (HI.out _).mono ?_
    rintro e w1 ⟨rfl, rfl⟩
    go_wp2
    rw [← HGF.out]
    exact ⟨_, by rw [HE.out.2]; rfl, by rw [HE.out.1]; exact OwnK.nil _ _, Below.refl _ _⟩
  | true =>
    have HE := Lib.hid (tb_yes hb)
    have hbd := inB_true hb
    have HT := Lib.hid (fun w' => l09Triples_any n w' hbd.1 (by rw [hM]; exact hbd.2))
    rw [hb] at HI
    clear hb hbd
    generalize trB n = L at *
    go_enter Try.func6, Try.ntmps6
    go_wp2_with fail
    refine (HI.out _).mono ?_
    rintro e w1 ⟨rfl, rfl⟩
    go_wp2_with fail
    refine (HT.out _).mono ?_
    rintro e w2 ⟨v, rfl, O, -, k2⟩
    have HO := Lib.hid O
    clear O
    go_wp2
    rw [← HGF.out]
    exact ⟨_, by rw [HE.out.2]; rfl, by rw [HE.out.1]; exact HO.out, k2⟩
set_option maxHeartbeats 1000000 in
theorem TriplesBelow_any (n : Int) (w : World) : Calls Try.prog 7 #[.int .i64 n] w (GivesTT n w) := by
  obtain ⟨GF, hGF⟩ : ∃ GF, GivesTT n w = GF := ⟨_, rfl⟩
  rw [hGF]
  have HGF := Lib.hid hGF
  have HI := Lib.hid (fun w' => within_any n 0 1000000 w')
  have hM : trM = 1000000 := rfl
  clear hGF
  cases hb : inB n 0 1000000 with
  | false =>
    have HE := Lib.hid (tb_no hb)
    rw [hb] at HI
    clear hb
    go_enter Try.func7, Try.ntmps7
    go_wp2_with fail
    refine (HI.out _).mono ?_
    rintro e w1 ⟨rfl, rfl⟩
    go_wp2
    rw [← HGF.out]
    exact ⟨_, by rw [HE.out.2]; rfl, by rw [HE.out.1]; exact OwnK.nil _ _, Below.refl _ _⟩
  | true =>
    have HE := Lib.hid (tb_yes hb)
    have hbd := inB_true hb
    have HT := Lib.hid (fun w' => triplesBelow_any n w' (by rw [hM]; exact hbd.2))
    rw [hb] at HI
    clear hb hbd
    generalize trB n = L at *
    go_enter Try.func7, Try.ntmps7
    go_wp2_with fail
    refine (HI.out _).mono ?_
    rintro e w1 ⟨rfl, rfl⟩
    go_wp2_with fail
    refine (HT.out _).mono ?_
    rintro e w2 ⟨v, rfl, O, -, k2⟩
    have HO := Lib.hid O
    clear O
    go_wp2
    rw [← HGF.out]
    exact ⟨_, by rw [HE.out.2]; rfl, by rw [HE.out.1]; exact HO.out, k2⟩

set_option maxRecDepth 8000 in
set_option maxHeartbeats 1000000 in
theorem FnExactTriplesBelow_walk (n : Int) (w : World) (_ : (Lit.int .i64 n).wf = true) :
    Calls Try.prog 3 #[.int .i64 n] w fun e w' => e = .returned (.bool true) ∧ Below w.heap.size w w' := by
  have S1 : ∀ W, Calls Try.prog 6 #[.int .i64 n] W fun e w' => ∃ v, e = .returned (.tuple #[v, .int .i64 (tbC n)]) ∧ OwnT w' W.heap.size v (tbL n) ∧ Below W.heap.size W w' := fun W => specTriplesBelow_any n W
  have T2 : ∀ W, Calls Try.prog 7 #[.int .i64 n] W fun e w' => ∃ v, e = .returned (.tuple #[v, .int .i64 (tbC n)]) ∧ OwnT w' W.heap.size v (tbL n) ∧ Below W.heap.size W w' := fun W => TriplesBelow_any n W
  have hl := tb_len n
  generalize tbL n = xs at *
  generalize tbC n = c at *
  go_enter Try.func3, Try.ntmps3
  go_wp2_with fail
  refine (S1 _).mono ?_
  rintro e w1 ⟨v1, rfl, o1, k1⟩
  have s1 := k1.size
  go_wp2_with fail
  refine (T2 _).mono ?_
  rintro e w4 ⟨v2, rfl, og, hb⟩
  have o4 : OwnT w4 w.heap.size v1 xs := (by repeat (first | (with_reducible assumption) | (with_reducible refine Own.drew ?_) | (with_reducible refine Own.drewN ?_) | (with_reducible refine Own.alloc ?_) | (with_reducible refine OwnK.drew ?_) | (with_reducible refine OwnK.drewN ?_) | (with_reducible refine OwnK.alloc ?_) | ((with_reducible refine OwnK.put ?_ ?_); · first | omega | (simp; done) | (simp; omega)) | ((with_reducible refine Own.below hb ?_)) | ((with_reducible refine OwnK.below hb ?_))))
  have kw4 : Below w.heap.size w w4 := (by repeat (first | (with_reducible exact Below.refl _ _) | (with_reducible assumption) | (with_reducible refine Below.drew ?_) | (with_reducible refine Below.drewN ?_) | ((with_reducible refine Below.al ?_ ?_); · first | omega | (simp; done) | (simp; omega)) | ((with_reducible refine Below.sc ?_ ?_); · first | omega | (simp; done) | (simp; omega)) | ((with_reducible refine Below.thru hb ?_ ?_); · first | omega | (simp; done) | (simp; omega))))
  have sw4 := kw4.size
  have sx := hb.size
  clear hb
  go_wp2_with fail
  refine (eqTripleS_same v2 v1 xs _ _ _ og o4 (by omega)).mono ?_
  rintro e w5 ⟨rfl, hb⟩
  have o5 : OwnT w5 w.heap.size v1 xs := (by repeat (first | (with_reducible assumption) | (with_reducible refine Own.drew ?_) | (with_reducible refine Own.drewN ?_) | (with_reducible refine Own.alloc ?_) | (with_reducible refine OwnK.drew ?_) | (with_reducible refine OwnK.drewN ?_) | (with_reducible refine OwnK.alloc ?_) | ((with_reducible refine OwnK.put ?_ ?_); · first | omega | (simp; done) | (simp; omega)) | ((with_reducible refine Own.below hb ?_)) | ((with_reducible refine OwnK.below hb ?_))))
  have g5 : OwnT w5 w1.heap.size v2 xs := (by repeat (first | (with_reducible assumption) | (with_reducible refine Own.drew ?_) | (with_reducible refine Own.drewN ?_) | (with_reducible refine Own.alloc ?_) | (with_reducible refine OwnK.drew ?_) | (with_reducible refine OwnK.drewN ?_) | (with_reducible refine OwnK.alloc ?_) | ((with_reducible refine OwnK.put ?_ ?_); · first | omega | (simp; done) | (simp; omega)) | ((with_reducible refine Own.below hb ?_)) | ((with_reducible refine OwnK.below hb ?_))))
  have kw5 : Below w.heap.size w w5 := (by repeat (first | (with_reducible exact Below.refl _ _) | (with_reducible assumption) | (with_reducible refine Below.drew ?_) | (with_reducible refine Below.drewN ?_) | ((with_reducible refine Below.al ?_ ?_); · first | omega | (simp; done) | (simp; omega)) | ((with_reducible refine Below.sc ?_ ?_); · first | omega | (simp; done) | (simp; omega)) | ((with_reducible refine Below.thru hb ?_ ?_); · first | omega | (simp; done) | (simp; omega))))
  have sw5 := kw5.size
  have sy := hb.size
  clear hb og o4 kw4
  go_wp2_with fail
  refine (markTripleS_any v2 xs _ 1 _ g5 (by omega) (by omega) (by omega)).mono ?_
  rintro e w6 ⟨rfl, g6, hg, hs⟩
  have o6 : OwnT w6 w.heap.size v1 xs := OwnK.apart hg g5 o1 (by omega) o5
  have kw6 : Below w.heap.size w w6 := Below.grownK hg g5 (by omega) (by omega) kw5
  have sw6 := kw6.size
  clear hg o5 g5 kw5
  go_wp2_with fail
  refine (heldTripleS_any v2 xs.length _ 1 _ g6 (by omega) (by omega) (by omega)).mono ?_
  rintro e w' ⟨rfl, rfl⟩
  go_wp2_with fail
  refine (T2 _).mono ?_
  rintro e w8 ⟨v3, rfl, oh, hb⟩
  have o8 : OwnT w8 w.heap.size v1 xs := (by repeat (first | (with_reducible assumption) | (with_reducible refine Own.drew ?_) | (with_reducible refine Own.drewN ?_) | (with_reducible refine Own.alloc ?_) | (with_reducible refine OwnK.drew ?_) | (with_reducible refine OwnK.drewN ?_) | (with_reducible refine OwnK.alloc ?_) | ((with_reducible refine OwnK.put ?_ ?_); · first | omega | (simp; done) | (simp; omega)) | ((with_reducible refine Own.below hb ?_)) | ((with_reducible refine OwnK.below hb ?_))))
  have g8 : OwnT w8 w1.heap.size v2 (runT 1 xs.length) := (by repeat (first | (with_reducible assumption) | (with_reducible refine Own.drew ?_) | (with_reducible refine Own.drewN ?_) | (with_reducible refine Own.alloc ?_) | (with_reducible refine OwnK.drew ?_) | (with_reducible refine OwnK.drewN ?_) | (with_reducible refine OwnK.alloc ?_) | ((with_reducible refine OwnK.put ?_ ?_); · first | omega | (simp; done) | (simp; omega)) | ((with_reducible refine Own.below hb ?_)) | ((with_reducible refine OwnK.below hb ?_))))
  have kw8 : Below w.heap.size w w8 := (by repeat (first | (with_reducible exact Below.refl _ _) | (with_reducible assumption) | (with_reducible refine Below.drew ?_) | (with_reducible refine Below.drewN ?_) | ((with_reducible refine Below.al ?_ ?_); · first | omega | (simp; done) | (simp; omega)) | ((with_reducible refine Below.sc ?_ ?_); · first | omega | (simp; done) | (simp; omega)) | ((with_reducible refine Below.thru hb ?_ ?_); · first | omega | (simp; done) | (simp; omega))))
  have sw8 := kw8.size
  clear hb kw6 g6 o6
  go_wp2_with fail
  refine (eqTripleS_same v3 v1 xs _ _ _ oh o8 (by omega)).mono ?_
  rintro e w9 ⟨rfl, hb⟩
  have g9 : OwnT w9 w1.heap.size v2 (runT 1 xs.length) := (by repeat (first | (with_reducible assumption) | (with_reducible refine Own.drew ?_) | (with_reducible refine Own.drewN ?_) | (with_reducible refine Own.alloc ?_) | (with_reducible refine OwnK.drew ?_) | (with_reducible refine OwnK.drewN ?_) | (with_reducible refine OwnK.alloc ?_) | ((with_reducible refine OwnK.put ?_ ?_); · first | omega | (simp; done) | (simp; omega)) | ((with_reducible refine Own.below hb ?_)) | ((with_reducible refine OwnK.below hb ?_))))
  have kw9 : Below w.heap.size w w9 := (by repeat (first | (with_reducible exact Below.refl _ _) | (with_reducible assumption) | (with_reducible refine Below.drew ?_) | (with_reducible refine Below.drewN ?_) | ((with_reducible refine Below.al ?_ ?_); · first | omega | (simp; done) | (simp; omega)) | ((with_reducible refine Below.sc ?_ ?_); · first | omega | (simp; done) | (simp; omega)) | ((with_reducible refine Below.thru hb ?_ ?_); · first | omega | (simp; done) | (simp; omega))))
  clear hb
  go_wp2_with fail
  refine (heldTripleS_any v2 xs.length _ 1 _ g9 (by omega) (by omega) (by omega)).mono ?_
  rintro e w' ⟨rfl, rfl⟩
  go_wp2
  go_ret
  exact ⟨rfl, (by repeat (first | (with_reducible exact Below.refl _ _) | (with_reducible assumption) | (with_reducible refine Below.drew ?_) | (with_reducible refine Below.drewN ?_) | ((with_reducible refine Below.al ?_ ?_); · first | omega | (simp; done) | (simp; omega)) | ((with_reducible refine Below.sc ?_ ?_); · first | omega | (simp; done) | (simp; omega)) | ((with_reducible refine Below.thru hb ?_ ?_); · first | omega | (simp; done) | (simp; omega))))⟩

end Go.Proofs.Ytbmkpcenjjdflaa
