/- Three numbers in order by the library's sort; neighbours of triples. -/
import Derived.Test.YtbmkpcenjjdflaaShelfTrs
import Derived.Test.YtbmkpcenjjdflaaNb
import Derived.Shelf.SortM.SortNone
import Derived.Sort.OwnSortedInts
import Derived.Laws.Cover3
namespace Go.Proofs.Ytbmkpcenjjdflaa
open Go.RowKit Go.Sort

/-- The library's sort over whole numbers of the call's own. -/
theorem sort_any (v : Value) (xs : List Int) (B : Nat) (w : World) (h : Own w B v xs) (hne : xs ≠ []) (hl : xs.length ≤ 1000000000000000000) :
    Calls Try.prog 34 #[v] w fun e w' => e = .returned (.tuple #[]) ∧ (Own w' B v (xs.mergeSort fun x y => decide (x ≤ y)) ∧ w.grownBy w' v.ownBlock) := by
  obtain ⟨h1, h2⟩ := h
  rcases h2 with ⟨rfl, h2⟩ | ⟨g, cap, cur, rfl, hg, hh, hn, hc, hs, ht⟩
  · exact absurd (List.eq_nil_of_length_eq_zero h2) hne
  · have e := AnyM.slices_Sort_int Try.sort64 g 0 cap xs w (holds_of_blockI hh (by rw [Nat.mul_one] at ht; exact ht)) (lt_of_block hh) (by omega)
    refine e.mono ?_
    rintro e w' ⟨rfl, n, os, rfl⟩
    refine ⟨rfl, ?_, grownBy_sortedI _⟩
    have hl' : (xs.mergeSort fun x y => decide (x ≤ y)).length = xs.length := List.length_mergeSort _
    have o := ownsRow_sortedI (os := os) (n := n) (ts := xs.mergeSort fun x y => decide (x ≤ y)) hl' hg hh hn hc hs
    unfold Own
    rw [hl']
    exact o

theorem ordered_any (x y z : Int) (w : World) :
    Calls Try.prog 55 #[.int .i64 x, .int .i64 y, .int .i64 z] w fun e w' => e = .returned (tv (sort3 x y z)) ∧ Below w.heap.size w w' := by
  go_enter Try.func55, Try.ntmps55
  go_wp2_with fail
  have O : Own ((w.alloc (.cells #[.int .i64 0, .int .i64 0, .int .i64 0] 36)).alloc (.cells #[.int .i64 x, .int .i64 y, .int .i64 z] 2)) (w.heap.size + 1) (.slice (some ⟨w.heap.size + 1, 0, none⟩) 3 3) [x, y, z] :=
    Own.of_blk (xs := [x, y, z]) (Blk.new (by simp)) (Nat.le_refl _) rfl (by simp [maxLen])
  refine (sort_any _ [x, y, z] (w.heap.size + 1) _ O (by simp) (by simp)).mono ?_
  rw [ms3]
  rintro e w1 ⟨rfl, O1, hg⟩
  have B1 : Blk w1 w.heap.size 36 (tcs ⟨0, 0, 0⟩) := Blk.grown hg O (by omega) (by repeat (first | (with_reducible assumption) | ((with_reducible refine Blk.new ?_); · first | omega | (simp; done) | (simp; omega)) | (with_reducible apply Blk.set4) | (with_reducible apply Blk.set3) | (with_reducible apply Blk.set2) | ((with_reducible refine Blk.put ?_ ?_); · first | omega | (simp; omega)) | (with_reducible refine Blk.old ?_) | (with_reducible refine Blk.drew ?_) | (with_reducible refine Blk.drewN ?_) | ((with_reducible refine Blk.below hb ?_ ?_); · first | omega | (simp; done) | (simp; omega))))
  have k1 : Below w.heap.size w w1 := Below.grownO hg O (by omega) (by simp; omega) (by repeat (first | (with_reducible exact Below.refl _ _) | (with_reducible assumption) | (with_reducible refine Below.drew ?_) | (with_reducible refine Below.drewN ?_) | ((with_reducible refine Below.al ?_ ?_); · first | omega | (simp; done) | (simp; omega)) | ((with_reducible refine Below.sc ?_ ?_); · first | omega | (simp; done) | (simp; omega)) | ((with_reducible refine Below.thru hb ?_ ?_); · first | omega | (simp; done) | (simp; omega))))
  have s1 := k1.size
  have f1 := B1.tf
  have q1 := B1.t
  have c0 := O1.at (j := 0) rfl rfl
  have c1 := O1.at (j := 1) rfl rfl
  have c2 := O1.at (j := 2) rfl rfl
  clear hg O O1
  have hat : ∀ W, (Instr.arrayAt 36 (.slice (some ⟨w.heap.size + 1, 0, none⟩) 3 3)).run Try.prog W = .ok (.pointer (some ⟨w.heap.size + 1, 0, none⟩)) W := fun W => run_arrayAt W 36 _ 3 _ 3 3 Try.underlying36 (by omega)
  go_wp2
  refine ret_at (v := tv (sort3 x y z)) (fun w' => Blk w' (w.heap.size) 36 (tcs (sort3 x y z))) (by repeat (first | (with_reducible assumption) | ((with_reducible refine Blk.new ?_); · first | omega | (simp; done) | (simp; omega)) | (with_reducible apply Blk.set4) | (with_reducible apply Blk.set3) | (with_reducible apply Blk.set2) | ((with_reducible refine Blk.put ?_ ?_); · first | omega | (simp; omega)) | (with_reducible refine Blk.old ?_) | (with_reducible refine Blk.drew ?_) | (with_reducible refine Blk.drewN ?_) | ((with_reducible refine Blk.below hb ?_ ?_); · first | omega | (simp; done) | (simp; omega)))) (fun w' hB => by have q := hB.t; simp [results, Try.results55, go_sem, q]) rfl ?_
  exact ⟨rfl, (by repeat (first | (with_reducible exact Below.refl _ _) | (with_reducible assumption) | (with_reducible refine Below.drew ?_) | (with_reducible refine Below.drewN ?_) | ((with_reducible refine Below.al ?_ ?_); · first | omega | (simp; done) | (simp; omega)) | ((with_reducible refine Below.sc ?_ ?_); · first | omega | (simp; done) | (simp; omega)) | ((with_reducible refine Below.thru hb ?_ ?_); · first | omega | (simp; done) | (simp; omega))))⟩

set_option maxHeartbeats 1000000 in
theorem neighbour_any (t : T3) (i : Int) (w : World) (h : t.small) (hi : i = 0 ∨ i = 1 ∨ i = 2) :
    Calls Try.prog 40 #[.agg #[.int .i64 t.x, .int .i64 t.y, .int .i64 t.z], .int .i64 i] w fun e w' => e = .returned (tv (t.nb i)) ∧ Below w.heap.size w w' := by
  obtain ⟨h1, h2, h3⟩ := h
  have b1 := mul3_bd h1 h2
  have b2 := mul3_bd h2 h3
  have b3 := mul3_bd h3 h1
  have b4 : -3000000000 ≤ 3 * t.x ∧ 3 * t.x ≤ 3000000000 := by omega
  have b5 : -3000000000 ≤ 3 * t.y ∧ 3 * t.y ≤ 3000000000 := by omega
  have b6 : -3000000000 ≤ 3 * t.z ∧ 3 * t.z ≤ 3000000000 := by omega
  rcases hi with rfl | rfl | rfl
  · have HF := Lib.hid (show t.nb 0 = sort3 (3 * t.y * t.z - t.x) t.y t.z by rw [sort3_perm]; simp [T3.nb])
    go_enter Try.func40, Try.ntmps40
    go_wp2_with fail
    go_quiet (fail)
    go_wp2_with fail
    refine (ordered_any (3 * t.y * t.z - t.x) t.y t.z _).mono ?_
    rw [← HF.out]
    clear HF h1 h2 h3 b1 b2 b3 b4 b5 b6
    rintro e w1 ⟨rfl, hb⟩
    have hbs := hb.size
    simp at hbs
    have B1 : Blk w1 (w.heap.size + 1) 36 (tcs ⟨0, 0, 0⟩) := (by repeat (first | (with_reducible assumption) | ((with_reducible refine Blk.new ?_); · first | omega | (simp; done) | (simp; omega)) | (with_reducible apply Blk.set4) | (with_reducible apply Blk.set3) | (with_reducible apply Blk.set2) | ((with_reducible refine Blk.put ?_ ?_); · first | omega | (simp; omega)) | (with_reducible refine Blk.old ?_) | (with_reducible refine Blk.drew ?_) | (with_reducible refine Blk.drewN ?_) | ((with_reducible refine Blk.below hb ?_ ?_); · first | omega | (simp; done) | (simp; omega))))
    have kw1 : Below w.heap.size w w1 := (by repeat (first | (with_reducible exact Below.refl _ _) | (with_reducible assumption) | (with_reducible refine Below.drew ?_) | (with_reducible refine Below.drewN ?_) | ((with_reducible refine Below.al ?_ ?_); · first | omega | (simp; done) | (simp; omega)) | ((with_reducible refine Below.sc ?_ ?_); · first | omega | (simp; done) | (simp; omega)) | ((with_reducible refine Below.thru hb ?_ ?_); · first | omega | (simp; done) | (simp; omega))))
    have q1 := B1.t
    have f1 := B1.tf
    clear hb
    go_wp2
    refine ret_at (v := tv (t.nb 0)) (fun w' => Blk w' (w.heap.size + 1) 36 (tcs (t.nb 0))) (by repeat (first | (with_reducible assumption) | ((with_reducible refine Blk.new ?_); · first | omega | (simp; done) | (simp; omega)) | (with_reducible apply Blk.set4) | (with_reducible apply Blk.set3) | (with_reducible apply Blk.set2) | ((with_reducible refine Blk.put ?_ ?_); · first | omega | (simp; omega)) | (with_reducible refine Blk.old ?_) | (with_reducible refine Blk.drew ?_) | (with_reducible refine Blk.drewN ?_) | ((with_reducible refine Blk.below hb ?_ ?_); · first | omega | (simp; done) | (simp; omega)))) (fun w' hB => by have q := hB.t; simp [results, Try.results40, go_sem, q]) rfl ?_
    exact ⟨rfl, (by repeat (first | (with_reducible exact Below.refl _ _) | (with_reducible assumption) | (with_reducible refine Below.drew ?_) | (with_reducible refine Below.drewN ?_) | ((with_reducible refine Below.al ?_ ?_); · first | omega | (simp; done) | (simp; omega)) | ((with_reducible refine Below.sc ?_ ?_); · first | omega | (simp; done) | (simp; omega)) | ((with_reducible refine Below.thru hb ?_ ?_); · first | omega | (simp; done) | (simp; omega))))⟩
  · have HF := Lib.hid (show t.nb 1 = sort3 (3 * t.z * t.x - t.y) t.z t.x by rw [sort3_perm]; simp [T3.nb])
    go_enter Try.func40, Try.ntmps40
    go_wp2_with fail
    go_quiet (fail)
    go_wp2_with fail
    refine (ordered_any (3 * t.z * t.x - t.y) t.z t.x _).mono ?_
    rw [← HF.out]
    clear HF h1 h2 h3 b1 b2 b3 b4 b5 b6
    rintro e w1 ⟨rfl, hb⟩
    have hbs := hb.size
    simp at hbs
    have B1 : Blk w1 (w.heap.size + 1) 36 (tcs ⟨0, 0, 0⟩) := (by repeat (first | (with_reducible assumption) | ((with_reducible refine Blk.new ?_); · first | omega | (simp; done) | (simp; omega)) | (with_reducible apply Blk.set4) | (with_reducible apply Blk.set3) | (with_reducible apply Blk.set2) | ((with_reducible refine Blk.put ?_ ?_); · first | omega | (simp; omega)) | (with_reducible refine Blk.old ?_) | (with_reducible refine Blk.drew ?_) | (with_reducible refine Blk.drewN ?_) | ((with_reducible refine Blk.below hb ?_ ?_); · first | omega | (simp; done) | (simp; omega))))
    have kw1 : Below w.heap.size w w1 := (by repeat (first | (with_reducible exact Below.refl _ _) | (with_reducible assumption) | (with_reducible refine Below.drew ?_) | (with_reducible refine Below.drewN ?_) | ((with_reducible refine Below.al ?_ ?_); · first | omega | (simp; done) | (simp; omega)) | ((with_reducible refine Below.sc ?_ ?_); · first | omega | (simp; done) | (simp; omega)) | ((with_reducible refine Below.thru hb ?_ ?_); · first | omega | (simp; done) | (simp; omega))))
    have q1 := B1.t
    have f1 := B1.tf
    clear hb
    go_wp2
    refine ret_at (v := tv (t.nb 1)) (fun w' => Blk w' (w.heap.size + 1) 36 (tcs (t.nb 1))) (by repeat (first | (with_reducible assumption) | ((with_reducible refine Blk.new ?_); · first | omega | (simp; done) | (simp; omega)) | (with_reducible apply Blk.set4) | (with_reducible apply Blk.set3) | (with_reducible apply Blk.set2) | ((with_reducible refine Blk.put ?_ ?_); · first | omega | (simp; omega)) | (with_reducible refine Blk.old ?_) | (with_reducible refine Blk.drew ?_) | (with_reducible refine Blk.drewN ?_) | ((with_reducible refine Blk.below hb ?_ ?_); · first | omega | (simp; done) | (simp; omega)))) (fun w' hB => by have q := hB.t; simp [results, Try.results40, go_sem, q]) rfl ?_
    exact ⟨rfl, (by repeat (first | (with_reducible exact Below.refl _ _) | (with_reducible assumption) | (with_reducible refine Below.drew ?_) | (with_reducible refine Below.drewN ?_) | ((with_reducible refine Below.al ?_ ?_); · first | omega | (simp; done) | (simp; omega)) | ((with_reducible refine Below.sc ?_ ?_); · first | omega | (simp; done) | (simp; omega)) | ((with_reducible refine Below.thru hb ?_ ?_); · first | omega | (simp; done) | (simp; omega))))⟩
  · have HF := Lib.hid (show t.nb 2 = sort3 (3 * t.x * t.y - t.z) t.x t.y by rw [sort3_perm]; simp [T3.nb])
    go_enter Try.func40, Try.ntmps40
    go_wp2_with fail
    go_quiet (fail)
    go_wp2_with fail
    refine (ordered_any (3 * t.x * t.y - t.z) t.x t.y _).mono ?_
    rw [← HF.out]
    clear HF h1 h2 h3 b1 b2 b3 b4 b5 b6
    rintro e w1 ⟨rfl, hb⟩
    have hbs := hb.size
    simp at hbs
    have B1 : Blk w1 (w.heap.size + 1) 36 (tcs ⟨0, 0, 0⟩) := (by repeat (first | (with_reducible assumption) | ((with_reducible refine Blk.new ?_); · first | omega | (simp; done) | (simp; omega)) | (with_reducible apply Blk.set4) | (with_reducible apply Blk.set3) | (with_reducible apply Blk.set2) | ((with_reducible refine Blk.put ?_ ?_); · first | omega | (simp; omega)) | (with_reducible refine Blk.old ?_) | (with_reducible refine Blk.drew ?_) | (with_reducible refine Blk.drewN ?_) | ((with_reducible refine Blk.below hb ?_ ?_); · first | omega | (simp; done) | (simp; omega))))
    have kw1 : Below w.heap.size w w1 := (by repeat (first | (with_reducible exact Below.refl _ _) | (with_reducible assumption) | (with_reducible refine Below.drew ?_) | (with_reducible refine Below.drewN ?_) | ((with_reducible refine Below.al ?_ ?_); · first | omega | (simp; done) | (simp; omega)) | ((with_reducible refine Below.sc ?_ ?_); · first | omega | (simp; done) | (simp; omega)) | ((with_reducible refine Below.thru hb ?_ ?_); · first | omega | (simp; done) | (simp; omega))))
    have q1 := B1.t
    have f1 := B1.tf
    clear hb
    go_wp2
    refine ret_at (v := tv (t.nb 2)) (fun w' => Blk w' (w.heap.size + 1) 36 (tcs (t.nb 2))) (by repeat (first | (with_reducible assumption) | ((with_reducible refine Blk.new ?_); · first | omega | (simp; done) | (simp; omega)) | (with_reducible apply Blk.set4) | (with_reducible apply Blk.set3) | (with_reducible apply Blk.set2) | ((with_reducible refine Blk.put ?_ ?_); · first | omega | (simp; omega)) | (with_reducible refine Blk.old ?_) | (with_reducible refine Blk.drew ?_) | (with_reducible refine Blk.drewN ?_) | ((with_reducible refine Blk.below hb ?_ ?_); · first | omega | (simp; done) | (simp; omega)))) (fun w' hB => by have q := hB.t; simp [results, Try.results40, go_sem, q]) rfl ?_
    exact ⟨rfl, (by repeat (first | (with_reducible exact Below.refl _ _) | (with_reducible assumption) | (with_reducible refine Below.drew ?_) | (with_reducible refine Below.drewN ?_) | ((with_reducible refine Below.al ?_ ?_); · first | omega | (simp; done) | (simp; omega)) | ((with_reducible refine Below.sc ?_ ?_); · first | omega | (simp; done) | (simp; omega)) | ((with_reducible refine Below.thru hb ?_ ?_); · first | omega | (simp; done) | (simp; omega))))⟩

end Go.Proofs.Ytbmkpcenjjdflaa
