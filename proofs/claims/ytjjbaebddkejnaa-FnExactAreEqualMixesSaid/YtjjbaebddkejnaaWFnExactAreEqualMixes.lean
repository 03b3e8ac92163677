/- The walk of the law FnExactAreEqualMixes. -/
import Derived.Test.YtjjbaebddkejnaaEqI
import Derived.Test.YtjjbaebddkejnaaT64
namespace Go.Proofs.Ytjjbaebddkejnaa
open Go.RowKit
set_option linter.unusedSimpArgs false

set_option maxHeartbeats 1000000 in
theorem FnExactAreEqualMixes_walk (n p : Int) (v : Value) (xs : List Int) (u : Value) (ys : List Int) (w : World) (_ : (Lit.int .i64 n).wf = true) (_ : (Lit.int .i64 p).wf = true) (hv : SlIn w .i64 v xs) (_ : ∀ n ∈ xs, (Lit.int .i64 n).wf = true) (_ : xs.length * 8 ≤ 140737488351232) (hu : SlIn w .i64 u ys) (_ : ∀ n ∈ ys, (Lit.int .i64 n).wf = true) (_ : ys.length * 8 ≤ 140737488351232) :
    Calls Try.prog 6 #[.int .i64 n, .int .i64 p, v, u] w fun e w' => e = .returned (.bool true) ∧ Below w.heap.size w w' := by
  obtain ⟨ao, c, rfl, -⟩ := hv.form
  obtain ⟨bo, d, rfl, -⟩ := hu.form
  have HV := Lib.hid hv
  have HU := Lib.hid hu
  have hq : (xs == xs) = true := beq_self_eq_true xs
  have hr : (ys == ys) = true := beq_self_eq_true ys
  clear hv hu
  by_cases hl : xs.length ≤ 1048576
  · by_cases hl2 : ys.length ≤ 1048576
    · have HT := Lib.hid (fun w' h => toInt64S_any (.slice ao xs.length c) xs w' h hl)
      have HR := Lib.hid (fun w' h => toInt64S_any (.slice bo ys.length d) ys w' h hl2)
      have HS := Lib.hid (fun v u w' h h2 => specAreEqualMixes_any n p v u xs ys w' h h2)
      have HI := Lib.hid (fun v u w' h h2 => AreEqualMixes_any n p v u xs ys w' h h2)
      have HQ := Lib.hid (fun v u w' hv hu => eqInt64S_any v u xs xs w' hv hu (by unfold maxLen; omega) (by unfold maxLen; omega))
      have HQ2 := Lib.hid (fun v u w' hv hu => eqInt64S_any v u ys ys w' hv hu (by unfold maxLen; omega) (by unfold maxLen; omega))
      go_enter Try.func6, Try.ntmps6
      go_wp2_with fail
      refine (HT.out _ HV.out).mono ?_
      rintro e w1 ⟨v1, rfl, O1, k1⟩
      have s1 := k1.size
      go_wp2_with fail
      refine (HR.out _ (SlIn.below k1 HU.out)).mono ?_
      rintro e w1' ⟨u1, rfl, P1, k1'⟩
      have O1' := O1.below k1'
      have kw1 : Below w.heap.size w w1' := k1.trans (k1'.mono s1)
      have s1' := kw1.size
      clear k1 k1' O1
      go_wp2_with fail
      refine (HS.out v1 u1 _ O1'.slIn P1.slIn).mono ?_
      rintro e w2 ⟨k2, h2⟩
      have kw2 : Below w.heap.size w w2 := kw1.trans (k2.mono s1')
      have s2 := kw2.size
      clear O1' P1 k2 s1 kw1
      obtain ⟨b, d, hbd, rfl⟩ : ∃ (b : Bool) (d : Int), (∀ e w' w'', GivesEq n p xs ys w' e w'' → e = .returned (.tuple #[.bool b, .int .i64 d])) ∧ e = .returned (.tuple #[.bool b, .int .i64 d]) := by
        rcases h2 with ⟨h0, rfl⟩ | ⟨h0, b, hb, rfl⟩
        · refine ⟨false, goC n p [xs, ys], ?_, rfl⟩
          rintro e w' w'' ⟨-, h3 | h3⟩
          · exact h3.2
          · exact absurd h3.1 h0
        · refine ⟨b, 0, ?_, rfl⟩
          rintro e w' w'' ⟨-, h3 | ⟨-, b2, hb2, rfl⟩⟩
          · exact absurd h0 h3.1
          · have : b2 = b := Bool.eq_iff_iff.2 (hb2.trans hb.symm)
            rw [this]
      have HBD := Lib.hid hbd
      clear h2 hbd
      go_wp2_with fail
      refine (HT.out _ (SlIn.below kw2 HV.out)).mono ?_
      rintro e w3 ⟨v3, rfl, O3, k3⟩
      have kw3 : Below w.heap.size w w3 := kw2.trans (k3.mono s2)
      have s3 := kw3.size
      clear k3
      go_wp2_with fail
      refine (HR.out _ (SlIn.below kw3 HU.out)).mono ?_
      rintro e w4 ⟨u3, rfl, P3, k4⟩
      have kw4 : Below w.heap.size w w4 := kw3.trans (k4.mono s3)
      have s4 := kw4.size
      have O4 := O3.below k4
      clear k4 O3
      go_wp2_with fail
      refine (HI.out v3 u3 _ O4.slIn P3.slIn).mono ?_
      rintro e w5 h5
      have k5 := h5.1
      obtain rfl := HBD.out _ _ _ h5
      have kw5 : Below w.heap.size w w5 := kw4.trans (k5.mono s4)
      have O5 := O4.below k5
      have P5 := P3.below k5
      have s5 := kw5.size
      clear h5 O4 P3 k5
      go_wp2_with fail
      refine (HT.out _ (SlIn.below kw5 HV.out)).mono ?_
      rintro e w6 ⟨v6, rfl, O6, k6⟩
      have kw6 : Below w.heap.size w w6 := kw5.trans (k6.mono s5)
      have O56 := O5.below k6
      have P56 := P5.below k6
      have s6 := kw6.size
      clear O5 P5 k6
      go_wp2_with fail
      refine (HQ.out v3 v6 _ O56.slIn O6.slIn).mono ?_
      rintro e w7 ⟨rfl, k7⟩
      rw [hq]
      have kw7 : Below w.heap.size w w7 := kw6.trans (k7.mono s6)
      have P7 := P56.below k7
      have s7 := kw7.size
      clear k7 O56 O6 P56
      go_wp2_with fail
      refine (HR.out _ (SlIn.below kw7 HU.out)).mono ?_
      rintro e w8 ⟨u8, rfl, P8, k8⟩
      have kw8 : Below w.heap.size w w8 := kw7.trans (k8.mono s7)
      have P78 := P7.below k8
      have s8 := kw8.size
      clear P7 k8
      go_wp2_with fail
      refine (HQ2.out u3 u8 _ P78.slIn P8.slIn).mono ?_
      rintro e w9 ⟨rfl, k9⟩
      rw [hr]
      have kw9 : Below w.heap.size w w9 := kw8.trans (k9.mono s8)
      clear k9 P78 P8
      go_wp2
      go_ret
      exact ⟨rfl, kw9⟩
    · go_enter Try.func6, Try.ntmps6
      go_wp2
      go_ret
      exact ⟨rfl, (by repeat (first | (with_reducible exact Below.refl _ _) | (with_reducible assumption) | (with_reducible refine Below.drew ?_) | (with_reducible refine Below.drewN ?_) | ((with_reducible refine Below.al ?_ ?_); · first | omega | (simp; done) | (simp; omega)) | ((with_reducible refine Below.sc ?_ ?_); · first | omega | (simp; done) | (simp; omega)) | ((with_reducible refine Below.thru hb ?_ ?_); · first | omega | (simp; done) | (simp; omega))))⟩
  · go_enter Try.func6, Try.ntmps6
    go_wp2
    go_ret
    exact ⟨rfl, (by repeat (first | (with_reducible exact Below.refl _ _) | (with_reducible assumption) | (with_reducible refine Below.drew ?_) | (with_reducible refine Below.drewN ?_) | ((with_reducible refine Below.al ?_ ?_); · first | omega | (simp; done) | (simp; omega)) | ((with_reducible refine Below.sc ?_ ?_); · first | omega | (simp; done) | (simp; omega)) | ((with_reducible refine Below.thru hb ?_ ?_); · first | omega | (simp; done) | (simp; omega))))⟩

end Go.Proofs.Ytjjbaebddkejnaa
