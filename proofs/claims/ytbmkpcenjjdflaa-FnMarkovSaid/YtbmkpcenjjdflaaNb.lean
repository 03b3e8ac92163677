/- Neighbours of triples: three numbers in order, a number replaced. -/
import Derived.Test.YtbmkpcenjjdflaaTail
import Derived.Test.YtbmkpcenjjdflaaTr
import Derived.Test.Ytbmkpcenjjdflaa09a
namespace Go.Proofs.Ytbmkpcenjjdflaa
open Go.RowKit

/-- Three numbers in order. -/
def sort3 (x y z : Int) : T3 := ⟨min x (min y z), x + y + z - min x (min y z) - max x (max y z), max x (max y z)⟩
theorem ms3 (x y z : Int) : [x, y, z].mergeSort (fun a b => decide (a ≤ b)) = [(sort3 x y z).x, (sort3 x y z).y, (sort3 x y z).z] := by
  have e : [x, y, z].mergeSort (fun a b => decide (a ≤ b)) = (if x ≤ y then (if x ≤ z then x :: (if y ≤ z then [y, z] else [z, y]) else [z, x, y]) else (if y ≤ z then y :: (if x ≤ z then [x, z] else [z, x]) else [z, y, x])) := by
    simp only [List.mergeSort, List.MergeSort.Internal.splitInTwo, List.length_cons, List.length_nil, List.splitAt_eq, List.take_succ_cons, List.take_zero, List.drop_succ_cons, List.drop_zero, List.merge]
    by_cases h1 : x ≤ y <;> by_cases h2 : x ≤ z <;> by_cases h3 : y ≤ z <;> simp [h1, h2, h3]
  rw [e]
  unfold sort3
  have a1 : min x (min y z) = if x ≤ y then (if x ≤ z then x else z) else (if y ≤ z then y else z) := by split <;> split <;> omega
  have a2 : max x (max y z) = if x ≤ y then (if y ≤ z then z else y) else (if x ≤ z then z else x) := by split <;> split <;> omega
  rw [a1, a2]
  by_cases h1 : x ≤ y <;> by_cases h2 : x ≤ z <;> by_cases h3 : y ≤ z <;> simp only [h1, h2, h3, if_true, if_false] <;> first | (exfalso; omega) | (simp; omega) | (simp; done)

theorem Blk.new3 {w : World} {E : TypeId} {a b c a' b' c' : Int} {k : Nat} (hk : k = w.heap.size) (h1 : a = a') (h2 : b = b') (h3 : c = c') :
    Blk (w.alloc (.cells #[.int .i64 a, .int .i64 b, .int .i64 c] E)) k E #[.int .i64 a', .int .i64 b', .int .i64 c'] := by subst h1; subst h2; subst h3; exact Blk.new hk

set_option maxHeartbeats 1000000 in
theorem l09Sorted_any (x y z : Int) (w : World) (hx : -1000000000 ≤ x ∧ x ≤ 1000000000) (hy : -1000000000 ≤ y ∧ y ≤ 1000000000) (hz : -4000000000000000000 ≤ z ∧ z ≤ 4000000000000000000) :
    Calls Try.prog 56 #[.int .i64 x, .int .i64 y, .int .i64 z] w fun e w' => e = .returned (tv (sort3 x y z)) ∧ Below w.heap.size w w' := by
  have m1 : (if y < x then y else x) = min x y := by split <;> omega
  have m2 : (if x < y then y else x) = max x y := by split <;> omega
  go_enter Try.func56, Try.ntmps56
  go_wp2
  all_goals
    simp only [m1, m2] at *
    refine ret_at (v := tv (sort3 x y z)) (fun w' => Blk w' w.heap.size 36 (tcs (sort3 x y z))) (Blk.new3 rfl (by simp only [sort3]; omega) (by simp only [sort3]; omega) (by simp only [sort3]; omega)) (fun w' hB => by have q := hB.t; simp [results, Try.results56, go_sem, q]) rfl ?_
    exact ⟨rfl, (by repeat (first | (with_reducible exact Below.refl _ _) | (with_reducible assumption) | (with_reducible refine Below.drew ?_) | (with_reducible refine Below.drewN ?_) | ((with_reducible refine Below.al ?_ ?_); · first | omega | (simp; done) | (simp; omega)) | ((with_reducible refine Below.sc ?_ ?_); · first | omega | (simp; done) | (simp; omega)) | ((with_reducible refine Below.thru hb ?_ ?_); · first | omega | (simp; done) | (simp; omega))))⟩

/-- The neighbour in which number i is replaced. -/
def T3.nb (t : T3) (i : Int) : T3 :=
  if i = 0 then sort3 t.y t.z (3 * t.y * t.z - t.x) else if i = 1 then sort3 t.z t.x (3 * t.z * t.x - t.y) else sort3 t.x t.y (3 * t.x * t.y - t.z)
theorem sort3_perm (x y z : Int) : sort3 z x y = sort3 x y z := by
  simp only [sort3, T3.mk.injEq]
  refine ⟨?_, ?_, ?_⟩ <;> omega
/-- Small numbers. -/
def T3.small (t : T3) : Prop := (-1000000000 ≤ t.x ∧ t.x ≤ 1000000000) ∧ (-1000000000 ≤ t.y ∧ t.y ≤ 1000000000) ∧ (-1000000000 ≤ t.z ∧ t.z ≤ 1000000000)
theorem mul3_bd {a b : Int} (h : -1000000000 ≤ a ∧ a ≤ 1000000000) (k : -1000000000 ≤ b ∧ b ≤ 1000000000) : (-3000000000000000000 ≤ 3 * a * b ∧ 3 * a * b ≤ 3000000000000000000) := by
  have := mul_bd (a := 3 * a) (b := b) (A := 3000000000) (B := 1000000000) (by omega) (by omega) k.1 k.2
  omega

set_option maxHeartbeats 1000000 in
theorem l09Neighbour_any (t : T3) (i : Int) (w : World) (h : t.small) (hi : i = 0 ∨ i = 1 ∨ i = 2) :
    Calls Try.prog 42 #[.agg #[.int .i64 t.x, .int .i64 t.y, .int .i64 t.z], .int .i64 i] w fun e w' => e = .returned (tv (t.nb i)) ∧ Below w.heap.size w w' := by
  obtain ⟨h1, h2, h3⟩ := h
  have b1 := mul3_bd h1 h2
  have b2 := mul3_bd h2 h3
  have b3 := mul3_bd h3 h1
  have b4 : -3000000000 ≤ 3 * t.x ∧ 3 * t.x ≤ 3000000000 := by omega
  have b5 : -3000000000 ≤ 3 * t.y ∧ 3 * t.y ≤ 3000000000 := by omega
  have b6 : -3000000000 ≤ 3 * t.z ∧ 3 * t.z ≤ 3000000000 := by omega
  rcases hi with rfl | rfl | rfl
  · have HF := Lib.hid (show t.nb 0 = sort3 t.y t.z (3 * t.y * t.z - t.x) by simp [T3.nb])
    go_enter Try.func42, Try.ntmps42
    go_wp2_with fail
    go_quiet (fail)
    go_wp2_with fail
    refine (l09Sorted_any t.y t.z (3 * t.y * t.z - t.x) _ (by omega) (by omega) (by omega)).mono ?_
    rw [← HF.out]
    clear HF h1 h2 h3 b1 b2 b3 b4 b5 b6
    rintro e w1 ⟨rfl, hb⟩
    have hbs := hb.size
    simp at hbs
    have B1 : Blk w1 (w.heap.size + 1) 36 (tcs ⟨0, 0, 0⟩) := (by repeat (first | (with_reducible assumption) | ((with_reducible refine Blk.new ?_); · first | omega | (simp; done) | (simp; omega)) | (with_reducible apply Blk.set4) | (with_reducible apply Blk.set3) | (with_reducible apply Blk.set2) | ((with_reducible refine Blk.put ?_ ?_); · first | omega | (simp; omega)) | (with_reducible refine Blk.old ?_) | (with_reducible refine Blk.drew ?_) | (with_reducible refine Blk.drewN ?_) | ((with_reducible refine Blk.below hb ?_ ?_); · first | omega | (simp; done) | (simp; omega))))
    have kw1 : Below w.heap.size w w1 := (by repeat (first | (with_reducible exact Below.refl _ _) | (with_reducible assumption) | (with_reducible refine Below.drew ?_) | (with_reducible refine Below.drewN ?_) | ((with_reducible refine Below.al ?_ ?_); · first | omega | (simp; done) | (simp; omega)) | ((with_reducible refine Below.sc ?_ ?_); · first | omega | (simp; done) | (simp; omega)) | ((with_reducible refine Below.thru hb ?_ ?_); · first | omega | (simp; done) | (simp; omega))))
    have q1 := B1.t
    have f1 := B1.tf
    clear hb
    go_wp2
    refine ret_at (v := tv (t.nb 0)) (fun w' => Blk w' (w.heap.size + 1) 36 (tcs (t.nb 0))) (by repeat (first | (with_reducible assumption) | ((with_reducible refine Blk.new ?_); · first | omega | (simp; done) | (simp; omega)) | (with_reducible apply Blk.set4) | (with_reducible apply Blk.set3) | (with_reducible apply Blk.set2) | ((with_reducible refine Blk.put ?_ ?_); · first | omega | (simp; omega)) | (with_reducible refine Blk.old ?_) | (with_reducible refine Blk.drew ?_) | (with_reducible refine Blk.drewN ?_) | ((with_reducible refine Blk.below hb ?_ ?_); · first | omega | (simp; done) | (simp; omega)))) (fun w' hB => by have q := hB.t; simp [results, Try.results42, go_sem, q]) rfl ?_
    exact ⟨rfl, (by repeat (first | (with_reducible exact Below.refl _ _) | (with_reducible assumption) | (with_reducible refine Below.drew ?_) | (with_reducible refine Below.drewN ?_) | ((with_reducible refine Below.al ?_ ?_); · first | omega | (simp; done) | (simp; omega)) | ((with_reducible refine Below.sc ?_ ?_); · first | omega | (simp; done) | (simp; omega)) | ((with_reducible refine Below.thru hb ?_ ?_); · first | omega | (simp; done) | (simp; omega))))⟩
  · have HF := Lib.hid (show t.nb 1 = sort3 t.z t.x (3 * t.z * t.x - t.y) by simp [T3.nb])
    go_enter Try.func42, Try.ntmps42
    go_wp2_with fail
    go_quiet (fail)
    go_wp2_with fail
    refine (l09Sorted_any t.z t.x (3 * t.z * t.x - t.y) _ (by omega) (by omega) (by omega)).mono ?_
    rw [← HF.out]
    clear HF h1 h2 h3 b1 b2 b3 b4 b5 b6
    rintro e w1 ⟨rfl, hb⟩
    have hbs := hb.size
    simp at hbs
    have B1 : Blk w1 (w.heap.size + 1) 36 (tcs ⟨0, 0, 0⟩) := (by repeat (first | (with_reducible assumption) | ((with_reducible refine Blk.new ?_); · first | omega | (simp; done) | (simp; omega)) | (with_reducible apply Blk.set4) | (with_reducible apply Blk.set3) | (with_reducible apply Blk.set2) | ((with_reducible refine Blk.put ?_ ?_); · first | omega | (simp; omega)) | (with_reducible refine Blk.old ?_) | (with_reducible refine Blk.drew ?_) | (with_reducible refine Blk.drewN ?_) | ((with_reducible refine Blk.below hb ?_ ?_); · first | omega | (simp; done) | (simp; omega))))
    have kw1 : Below w.heap.size w w1 := (by repeat (first | (with_reducible exact Below.refl _ _) | (with_reducible assumption) | (with_reducible refine Below.drew ?_) | (with_reducible refine Below.drewN ?_) | ((with_reducible refine Below.al ?_ ?_); · first | omega | (simp; done) | (simp; omega)) | ((with_reducible refine Below.sc ?_ ?_); · first | omega | (simp; done) | (simp; omega)) | ((with_reducible refine Below.thru hb ?_ ?_); · first | omega | (simp; done) | (simp; omega))))
    have q1 := B1.t
    have f1 := B1.tf
    clear hb
    go_wp2
    refine ret_at (v := tv (t.nb 1)) (fun w' => Blk w' (w.heap.size + 1) 36 (tcs (t.nb 1))) (by repeat (first | (with_reducible assumption) | ((with_reducible refine Blk.new ?_); · first | omega | (simp; done) | (simp; omega)) | (with_reducible apply Blk.set4) | (with_reducible apply Blk.set3) | (with_reducible apply Blk.set2) | ((with_reducible refine Blk.put ?_ ?_); · first | omega | (simp; omega)) | (with_reducible refine Blk.old ?_) | (with_reducible refine Blk.drew ?_) | (with_reducible refine Blk.drewN ?_) | ((with_reducible refine Blk.below hb ?_ ?_); · first | omega | (simp; done) | (simp; omega)))) (fun w' hB => by have q := hB.t; simp [results, Try.results42, go_sem, q]) rfl ?_
    exact ⟨rfl, (by repeat (first | (with_reducible exact Below.refl _ _) | (with_reducible assumption) | (with_reducible refine Below.drew ?_) | (with_reducible refine Below.drewN ?_) | ((with_reducible refine Below.al ?_ ?_); · first | omega | (simp; done) | (simp; omega)) | ((with_reducible refine Below.sc ?_ ?_); · first | omega | (simp; done) | (simp; omega)) | ((with_reducible refine Below.thru hb ?_ ?_); · first | omega | (simp; done) | (simp; omega))))⟩
  · have HF := Lib.hid (show t.nb 2 = sort3 t.x t.y (3 * t.x * t.y - t.z) by simp [T3.nb])
    go_enter Try.func42, Try.ntmps42
    go_wp2_with fail
    go_quiet (fail)
    go_wp2_with fail
    refine (l09Sorted_any t.x t.y (3 * t.x * t.y - t.z) _ (by omega) (by omega) (by omega)).mono ?_
    rw [← HF.out]
    clear HF h1 h2 h3 b1 b2 b3 b4 b5 b6
    rintro e w1 ⟨rfl, hb⟩
    have hbs := hb.size
    simp at hbs
    have B1 : Blk w1 (w.heap.size + 1) 36 (tcs ⟨0, 0, 0⟩) := (by repeat (first | (with_reducible assumption) | ((with_reducible refine Blk.new ?_); · first | omega | (simp; done) | (simp; omega)) | (with_reducible apply Blk.set4) | (with_reducible apply Blk.set3) | (with_reducible apply Blk.set2) | ((with_reducible refine Blk.put ?_ ?_); · first | omega | (simp; omega)) | (with_reducible refine Blk.old ?_) | (with_reducible refine Blk.drew ?_) | (with_reducible refine Blk.drewN ?_) | ((with_reducible refine Blk.below hb ?_ ?_); · first | omega | (simp; done) | (simp; omega))))
    have kw1 : Below w.heap.size w w1 := (by repeat (first | (with_reducible exact Below.refl _ _) | (with_reducible assumption) | (with_reducible refine Below.drew ?_) | (with_reducible refine Below.drewN ?_) | ((with_reducible refine Below.al ?_ ?_); · first | omega | (simp; done) | (simp; omega)) | ((with_reducible refine Below.sc ?_ ?_); · first | omega | (simp; done) | (simp; omega)) | ((with_reducible refine Below.thru hb ?_ ?_); · first | omega | (simp; done) | (simp; omega))))
    have q1 := B1.t
    have f1 := B1.tf
    clear hb
    go_wp2
    refine ret_at (v := tv (t.nb 2)) (fun w' => Blk w' (w.heap.size + 1) 36 (tcs (t.nb 2))) (by repeat (first | (with_reducible assumption) | ((with_reducible refine Blk.new ?_); · first | omega | (simp; done) | (simp; omega)) | (with_reducible apply Blk.set4) | (with_reducible apply Blk.set3) | (with_reducible apply Blk.set2) | ((with_reducible refine Blk.put ?_ ?_); · first | omega | (simp; omega)) | (with_reducible refine Blk.old ?_) | (with_reducible refine Blk.drew ?_) | (with_reducible refine Blk.drewN ?_) | ((with_reducible refine Blk.below hb ?_ ?_); · first | omega | (simp; done) | (simp; omega)))) (fun w' hB => by have q := hB.t; simp [results, Try.results42, go_sem, q]) rfl ?_
    exact ⟨rfl, (by repeat (first | (with_reducible exact Below.refl _ _) | (with_reducible assumption) | (with_reducible refine Below.drew ?_) | (with_reducible refine Below.drewN ?_) | ((with_reducible refine Below.al ?_ ?_); · first | omega | (simp; done) | (simp; omega)) | ((with_reducible refine Below.sc ?_ ?_); · first | omega | (simp; done) | (simp; omega)) | ((with_reducible refine Below.thru hb ?_ ?_); · first | omega | (simp; done) | (simp; omega))))⟩

end Go.Proofs.Ytbmkpcenjjdflaa
