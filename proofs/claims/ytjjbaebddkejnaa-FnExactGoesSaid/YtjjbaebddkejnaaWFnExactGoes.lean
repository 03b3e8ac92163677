/- The walk of the law FnExactGoes. -/
import Derived.Test.YtjjbaebddkejnaaGo
import Derived.Test.YtjjbaebddkejnaaSum
import Derived.Test.YtjjbaebddkejnaaRk
import Derived.Test.YtjjbaebddkejnaaT64
namespace Go.Proofs.Ytjjbaebddkejnaa
open Go.RowKit
set_option linter.unusedSimpArgs false

set_option maxRecDepth 8000 in
set_option maxHeartbeats 1000000 in
theorem Goes_any (n p : Int) (v : Value) (x : List Int) (w : World) (hv : SlIn w .i64 v x) : Calls Try.prog 14 #[.int .i64 n, .int .i64 p, v] w (GivesGoes n p x w) := by
  obtain ⟨GF, hGF⟩ : ∃ GF, GivesGoes n p x w = GF := ⟨_, rfl⟩
  rw [hGF]
  have HGF := Lib.hid hGF
  have HLV := Lib.hid (fun g c w' h => levelCode_any g c n p w' h)
  have HE := Lib.hid (goC_eq n p [x])
  have HV := Lib.hid hv
  have HZ := Lib.hid (fun h => rk_zero (n := n) (p := p) h)
  obtain ⟨xo, xc, rfl, -⟩ := hv.form
  clear hGF hv
  go_enter Try.func14, Try.ntmps14
  go_wp2_with fail
  refine (HLV.out _ _ _ (Blk.new rfl)).mono ?_
  rintro e w1 ⟨rfl, k1⟩
  have kw1 : Below w.heap.size w w1 := ((Below.refl w.heap.size w).alloc (Nat.le_refl _) _).trans (k1.mono (by simp))
  have s1 := kw1.size
  clear k1
  by_cases h0 : rkCode n p = 0
  · obtain ⟨hp, hn, hl⟩ := HZ.out h0
    obtain ⟨m, rfl⟩ := Int.eq_ofNat_of_zero_le (by omega : 0 ≤ n)
    rw [Int.toNat_natCast] at hl
    have HBO := Lib.hid (fun w' => basisOf_any m p w' (by omega) hl hp)
    have HMX := Lib.hid (fun w' h => isMix_any m (.slice xo x.length xc) x w' (by omega) (by omega) h)
    have HC := Lib.hid (show goC (m : Int) p [x] = if okX (lineL m).length x = true then 0 else 2 by
      rw [HE.out, if_pos h0, Int.toNat_natCast]
      simp)
    have HFIN := Lib.hid (show ∀ (S : Prop) (b : Bool) w' e, okX (lineL m).length x = true → (b = true ↔ Sp p (lineL m).length (fun r => ∃ y ∈ rowsI (relL m), r = vec y) (vec x)) → Below w.heap.size w w' → e = .returned (.tuple #[.bool b, .int .i64 0]) → GivesGoes m p x w e w' from fun S b w' e h1 h2 h3 h4 => ⟨h3, .inr ⟨by rw [HC.out, if_pos h1], b, by rw [Int.toNat_natCast]; exact h2, h4⟩⟩)
    have HLE := Lib.hid (show x.length = (lineL m).length → ∀ w' (T : List (Nat × List Int)) (S : List (Nat × Value)) mb k B, SlIn w' .i64 (.slice xo x.length xc) x → BasW p (lineL m).length (rowsI (relL m)) w' B mb k S T → Calls Try.prog 32 #[.agg #[.int .i64 p, .map (some mb)], .slice xo x.length xc] w' (GivesL p (lineL m).length T x w') from
      fun hx w' T S mb k B h1 h2 => left_any p (lineL m).length S T x _ mb k B w' hp (by omega) hx h1 h2.map h2.at_ h2.red.dif h2.red.good)
    have HIF := Lib.hid (fun (T : List (Nat × List Int)) (ys : List Int) (r : Int) (h : Red p (lineL m).length (rowsI (relL m)) T) (g : LeftR p (lineL m).length T x ys r) => (LeftR.iff h g).trans ⟨fun q => q.mono h.s1, fun q => q.mono h.s2⟩)
    rw [h0]
    clear h0 hn HZ HE
    generalize rowsI (relL m) = RI at *
    obtain ⟨N, hN⟩ : ∃ N, (lineL m).length = N := ⟨_, rfl⟩
    rw [hN] at HBO HMX HC HFIN HLE HIF hl
    clear hN
    go_wp2_with fail
    refine (HMX.out _ (SlIn.below kw1 HV.out)).mono ?_
    rintro e w2 ⟨rfl, k2⟩
    have kw2 : Below w.heap.size w w2 := kw1.trans (k2.mono s1)
    have s2 := k2.size
    clear k2
    obtain ⟨b, hb⟩ : ∃ b, okX N x = b := ⟨_, rfl⟩
    rw [hb]
    have HB := Lib.hid hb
    clear hb
    cases b with
    | false =>
      go_wp2
      rw [← HGF.out]
      exact ⟨kw2, .inl ⟨by rw [HC.out, HB.out]; decide, by rw [HC.out, HB.out]; rfl⟩⟩
    | true =>
      have HXL := Lib.hid (okX_len HB.out)
      go_wp2_with fail
      refine (HBO.out w2).mono ?_
      rintro e w3 ⟨mb, k, S, T, rfl, hB, hk, hmb, k3⟩
      have HBW := Lib.hid hB
      have kw3 : Below w.heap.size w w3 := kw2.trans (k3.mono (by omega))
      have s3 := k3.size
      clear hB k3
      go_wp2_with fail
      refine (HLE.out HXL.out w3 T S mb k w2.heap.size (SlIn.below kw3 HV.out) HBW.out).mono ?_
      rintro e w4 ⟨v4, ys, r, rfl, O4, hL, k4⟩
      have HL := Lib.hid (HIF.out T ys r HBW.out.red hL)
      have kw4 : Below w.heap.size w w4 := kw3.trans (k4.mono (by omega))
      clear O4 hL k4
      go_wp2
      rw [← HGF.out]
      exact HFIN.out True (decide (r < 0)) _ _ HB.out (by rw [decide_eq_true_iff]; exact HL.out) kw4 rfl
  · have H0 := Lib.hid h0
    go_wp2
    rw [← HGF.out]
    exact ⟨kw1, .inl ⟨by rw [HE.out, if_neg H0.out]; exact H0.out, by rw [HE.out, if_neg H0.out]; rfl⟩⟩

set_option maxHeartbeats 1000000 in
theorem FnExactGoes_walk (n p : Int) (v : Value) (xs : List Int) (w : World) (_ : (Lit.int .i64 n).wf = true) (_ : (Lit.int .i64 p).wf = true) (hv : SlIn w .i64 v xs) (_ : ∀ n ∈ xs, (Lit.int .i64 n).wf = true) (_ : xs.length * 8 ≤ 140737488351232) :
    Calls Try.prog 5 #[.int .i64 n, .int .i64 p, v] w fun e w' => e = .returned (.bool true) ∧ Below w.heap.size w w' := by
  obtain ⟨ao, c, rfl, -⟩ := hv.form
  have HV := Lib.hid hv
  have hq : (xs == xs) = true := beq_self_eq_true xs
  clear hv
  by_cases hl : xs.length ≤ 1048576
  · have HT := Lib.hid (fun w' h => toInt64S_any (.slice ao xs.length c) xs w' h hl)
    have HS := Lib.hid (fun v w' h => specGoes_any n p v xs w' h)
    have HI := Lib.hid (fun v w' h => Goes_any n p v xs w' h)
    have HQ := Lib.hid (fun v u w' hv hu => eqInt64S_any v u xs xs w' hv hu (by unfold maxLen; omega) (by unfold maxLen; omega))
    go_enter Try.func5, Try.ntmps5
    go_wp2_with fail
    refine (HT.out _ HV.out).mono ?_
    rintro e w1 ⟨v1, rfl, O1, k1⟩
    have s1 := k1.size
    go_wp2_with fail
    refine (HS.out v1 _ O1.slIn).mono ?_
    rintro e w2 ⟨k2, h2⟩
    have kw2 : Below w.heap.size w w2 := k1.trans (k2.mono s1)
    have s2 := kw2.size
    clear O1 k1 k2 s1
    obtain ⟨b, d, hbd, rfl⟩ : ∃ (b : Bool) (d : Int), (∀ e w' w'', GivesGoes n p xs w' e w'' → e = .returned (.tuple #[.bool b, .int .i64 d])) ∧ e = .returned (.tuple #[.bool b, .int .i64 d]) := by
      rcases h2 with ⟨h0, rfl⟩ | ⟨h0, b, hb, rfl⟩
      · refine ⟨false, goC n p [xs], ?_, rfl⟩
        rintro e w' w'' ⟨-, h3 | h3⟩
        · exact h3.2
        · exact absurd h3.1 h0
      · refine ⟨b, 0, ?_, rfl⟩
        rintro e w' w'' ⟨-, h3 | ⟨-, b2, hb2, rfl⟩⟩
        · exact absurd h0 h3.1
        · have : b2 = b := Bool.eq_iff_iff.2 (hb2.trans hb.symm)
          rw [this]
    have HBD := Lib.hid hbd
    clear h2 hbd
    go_wp2_with fail
    refine (HT.out _ (SlIn.below kw2 HV.out)).mono ?_
    rintro e w3 ⟨v3, rfl, O3, k3⟩
    have kw3 : Below w.heap.size w w3 := kw2.trans (k3.mono s2)
    have s3 := kw3.size
    have s23 := k3.size
    clear k3
    go_wp2_with fail
    refine (HI.out v3 _ O3.slIn).mono ?_
    rintro e w4 h4
    have k4 := h4.1
    obtain rfl := HBD.out _ _ _ h4
    have kw4 : Below w.heap.size w w4 := kw3.trans (k4.mono s3)
    have O4 := O3.below k4
    have s4 := kw4.size
    clear h4 O3 k4
    go_wp2_with fail
    refine (HT.out _ (SlIn.below kw4 HV.out)).mono ?_
    rintro e w5 ⟨v5, rfl, O5, k5⟩
    have kw5 : Below w.heap.size w w5 := kw4.trans (k5.mono s4)
    have O45 := O4.below k5
    have s5 := kw5.size
    clear O4 k5
    go_wp2_with fail
    refine (HQ.out v3 v5 _ O45.slIn O5.slIn).mono ?_
    rintro e w6 ⟨rfl, k6⟩
    rw [hq]
    have kw6 : Below w.heap.size w w6 := kw5.trans (k6.mono s5)
    clear k6 O45 O5
    go_wp2
    go_ret
    exact ⟨rfl, kw6⟩
  · go_enter Try.func5, Try.ntmps5
    go_wp2
    go_ret
    exact ⟨rfl, (by repeat (first | (with_reducible exact Below.refl _ _) | (with_reducible assumption) | (with_reducible refine Below.drew ?_) | (with_reducible refine Below.drewN ?_) | ((with_reducible refine Below.al ?_ ?_); · first | omega | (simp; done) | (simp; omega)) | ((with_reducible refine Below.sc ?_ ?_); · first | omega | (simp; done) | (simp; omega)) | ((with_reducible refine Below.thru hb ?_ ?_); · first | omega | (simp; done) | (simp; omega))))⟩

end Go.Proofs.Ytjjbaebddkejnaa
