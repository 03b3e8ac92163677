/- The walk of the law FnExactEndsOf. -/
import Derived.Test.YtjjbaebddkejnaaEns
import Derived.Test.YtjjbaebddkejnaaT64
namespace Go.Proofs.Ytjjbaebddkejnaa
open Go.RowKit
set_option linter.unusedSimpArgs false

theorem endR_len (n : Int) (x : List Int) : (endR n x).length ≤ 72 := by
  unfold endR
  split
  · rename_i h
    have hlv : lvCode n = 0 := by
      unfold sumC at h
      split at h
      · assumption
      · exact h
    obtain ⟨-, hl⟩ := lv_zero hlv
    unfold endL
    rw [endTo_len]
    exact Nat.le_trans (numTo_cnt _ _ _) hl
  · simp
theorem Own.newer {w w' W : World} {B Bn : Nat} {v u : Value} {xs zs : List Int} (hg : w.grownBy w' u.ownBlock) (hu : Own W B u zs) (hB : W.heap.size ≤ Bn) (h : Own w Bn v xs) : Own w' Bn v xs :=
  h.same fun g hk => hg.block g (h.lt hk).2 fun e => by
    have := (hu.lt e.symm).2
    have := (h.lt hk).1
    omega
set_option maxRecDepth 8000 in
set_option maxHeartbeats 1000000 in
theorem FnExactEndsOf_walk (n : Int) (v : Value) (xs : List Int) (w : World) (_ : (Lit.int .i64 n).wf = true) (hv : SlIn w .i64 v xs) (_ : ∀ n ∈ xs, (Lit.int .i64 n).wf = true) (_ : xs.length * 8 ≤ 140737488351232) :
    Calls Try.prog 7 #[.int .i64 n, v] w fun e w' => e = .returned (.bool true) ∧ Below w.heap.size w w' := by
  obtain ⟨ao, c, rfl, -⟩ := hv.form
  have HV := Lib.hid hv
  clear hv
  by_cases hl : xs.length ≤ 1048576
  · have HT := Lib.hid (fun w' h => toInt64S_any (.slice ao xs.length c) xs w' h hl)
    have HS : Hid (∀ v w', SlIn w' .i64 v xs → Calls Try.prog 18 #[.int .i64 n, v] w' fun e w'' => ∃ u, e = .returned (.tuple #[u, .int .i64 (sumC n [xs])]) ∧ Own w'' w'.heap.size u (endR n xs) ∧ Below w'.heap.size w' w'') := Lib.hid (fun v w' h => specEndsOf_any n v xs w' h)
    have HI : Hid (∀ v w', SlIn w' .i64 v xs → Calls Try.prog 19 #[.int .i64 n, v] w' fun e w'' => ∃ u, e = .returned (.tuple #[u, .int .i64 (sumC n [xs])]) ∧ Own w'' w'.heap.size u (endR n xs) ∧ Below w'.heap.size w' w'') := Lib.hid (fun v w' h => EndsOf_any n v xs w' h)
    have hyl := endR_len n xs
    have hqq : ∀ ys : List Int, (ys == ys) = true := fun ys => beq_self_eq_true ys
    generalize endR n xs = ys at *
    generalize sumC n [xs] = d at *
    go_enter Try.func7, Try.ntmps7
    go_wp2_with fail
    refine (HT.out _ HV.out).mono ?_
    rintro e w1 ⟨v1, rfl, o1, k1⟩
    have s1 := k1.size
    go_wp2_with fail
    refine (HS.out v1 _ o1.slIn).mono ?_
    rintro e w2 ⟨u, rfl, ou, k2⟩
    have kw2 : Below w.heap.size w w2 := k1.trans (k2.mono s1)
    have s2 := k2.size
    have t2 := kw2.size
    clear o1 k1 k2
    go_wp2_with fail
    refine (HT.out _ (SlIn.below kw2 HV.out)).mono ?_
    rintro e w3 ⟨x1, rfl, ox, k3⟩
    have kw3 : Below w.heap.size w w3 := kw2.trans (k3.mono t2)
    have s3 := k3.size
    have ou3 := ou.below k3
    clear k3
    go_wp2_with fail
    refine (HI.out x1 _ ox.slIn).mono ?_
    rintro e w4 ⟨g, rfl, og, k4⟩
    have kw4 : Below w.heap.size w w4 := kw3.trans (k4.mono (by omega))
    have s4 := k4.size
    have ou4 := ou3.below k4
    have ox4 := ox.below k4
    clear k4 ou3
    go_wp2_with fail
    refine (eqInt64S_any g u ys ys _ og.slIn ou4.slIn (by unfold maxLen; omega) (by unfold maxLen; omega)).mono ?_
    rintro e w5 ⟨rfl, k5⟩
    rw [hqq]
    have kw5 : Below w.heap.size w w5 := kw4.trans (k5.mono (by omega))
    have s5 := k5.size
    have ou5 := ou4.below k5
    have ox5 := ox4.below k5
    have og5 := og.below k5
    clear k5 ou4 ox4 og
    go_wp2_with fail
    refine (HT.out _ (SlIn.below kw5 HV.out)).mono ?_
    rintro e w6 ⟨v6, rfl, o6, k6⟩
    have kw6 : Below w.heap.size w w6 := kw5.trans (k6.mono (by omega))
    have s6 := k6.size
    have ou6 := ou5.below k6
    have ox6 := ox5.below k6
    have og6 := og5.below k6
    clear k6 ou5 ox5 og5
    go_wp2_with fail
    refine (eqInt64S_any x1 v6 xs xs _ ox6.slIn o6.slIn (by unfold maxLen; omega) (by unfold maxLen; omega)).mono ?_
    rintro e w7 ⟨rfl, k7⟩
    rw [hqq]
    have kw7 : Below w.heap.size w w7 := kw6.trans (k7.mono (by omega))
    have s7 := k7.size
    have ou7 := ou6.below k7
    have ox7 := ox6.below k7
    have og7 := og6.below k7
    clear k7 ou6 ox6 og6 o6
    go_wp2_with fail
    refine (markInt64S_any x1 xs _ 1 _ ox7 (by omega) (by omega) (by omega)).mono ?_
    rintro e w8 ⟨rfl, -, hg, hs⟩
    have ou8 : Own w8 w1.heap.size u ys := Own.apart hg ox7 ou (Nat.le_refl _) ou7
    have og8 : Own w8 w3.heap.size g ys := Own.newer hg ox (Nat.le_refl _) og7
    have kw8 : Below w.heap.size w w8 := Below.grownO hg ox7 (by omega) (by omega) kw7
    have s8 := kw8.size
    clear hg ou7 og7 ox7 kw7
    go_wp2_with fail
    refine (eqInt64S_any g u ys ys _ og8.slIn ou8.slIn (by unfold maxLen; omega) (by unfold maxLen; omega)).mono ?_
    rintro e w9 ⟨rfl, k9⟩
    rw [hqq]
    have kw9 : Below w.heap.size w w9 := kw8.trans (k9.mono (by omega))
    have s9 := k9.size
    have ou9 := ou8.below k9
    have og9 := og8.below k9
    clear k9 ou8 og8
    go_wp2_with fail
    refine (markInt64S_any g ys _ 1 _ og9 (by omega) (by omega) (by omega)).mono ?_
    rintro e w10 ⟨rfl, og10, hg, hs2⟩
    have ou10 : Own w10 w1.heap.size u ys := Own.apart hg og9 ou s3 ou9
    have kw10 : Below w.heap.size w w10 := Below.grownO hg og9 (by omega) (by omega) kw9
    have s10 := kw10.size
    clear hg ou9 og9 kw9
    go_wp2_with fail
    refine (heldInt64S_any g ys.length 1 _ og10.slIn (by omega) (by omega) (by omega)).mono ?_
    rintro e w' ⟨rfl, rfl⟩
    go_wp2_with fail
    refine (HT.out _ (SlIn.below kw10 HV.out)).mono ?_
    rintro e w12 ⟨v12, rfl, o12, k12⟩
    have kw12 : Below w.heap.size w w12 := kw10.trans (k12.mono (by omega))
    have s12 := k12.size
    have ou12 := ou10.below k12
    have og12 := og10.below k12
    clear k12 ou10 og10
    go_wp2_with fail
    refine (HI.out v12 _ o12.slIn).mono ?_
    rintro e w13 ⟨h, rfl, oh, k13⟩
    have kw13 : Below w.heap.size w w13 := kw12.trans (k13.mono (by omega))
    have s13 := k13.size
    have ou13 := ou12.below k13
    have og13 := og12.below k13
    clear k13 ou12 og12 o12
    go_wp2_with fail
    refine (eqInt64S_any h u ys ys _ oh.slIn ou13.slIn (by unfold maxLen; omega) (by unfold maxLen; omega)).mono ?_
    rintro e w14 ⟨rfl, k14⟩
    rw [hqq]
    have kw14 : Below w.heap.size w w14 := kw13.trans (k14.mono (by omega))
    have og14 := og13.below k14
    clear k14 ou13 og13 oh
    go_wp2_with fail
    refine (heldInt64S_any g ys.length 1 _ og14.slIn (by omega) (by omega) (by omega)).mono ?_
    rintro e w' ⟨rfl, rfl⟩
    go_wp2
    go_ret
    exact ⟨rfl, kw14⟩
  · go_enter Try.func7, Try.ntmps7
    go_wp2
    go_ret
    exact ⟨rfl, (by repeat (first | (with_reducible exact Below.refl _ _) | (with_reducible assumption) | (with_reducible refine Below.drew ?_) | (with_reducible refine Below.drewN ?_) | ((with_reducible refine Below.al ?_ ?_); · first | omega | (simp; done) | (simp; omega)) | ((with_reducible refine Below.sc ?_ ?_); · first | omega | (simp; done) | (simp; omega)) | ((with_reducible refine Below.thru hb ?_ ?_); · first | omega | (simp; done) | (simp; omega))))⟩

end Go.Proofs.Ytjjbaebddkejnaa
