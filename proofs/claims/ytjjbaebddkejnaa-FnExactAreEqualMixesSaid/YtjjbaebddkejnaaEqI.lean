/- The program's AreEqualMixes. -/
import Derived.Test.YtjjbaebddkejnaaEqS
import Derived.Test.YtjjbaebddkejnaaSum
import Derived.Test.YtjjbaebddkejnaaRk
namespace Go.Proofs.Ytjjbaebddkejnaa
open Go.RowKit
set_option linter.unusedSimpArgs false

set_option maxRecDepth 8000 in
set_option maxHeartbeats 2000000 in
theorem AreEqualMixes_any (n p : Int) (v u : Value) (x y : List Int) (w : World) (hv : SlIn w .i64 v x) (hu : SlIn w .i64 u y) : Calls Try.prog 17 #[.int .i64 n, .int .i64 p, v, u] w (GivesEq n p x y w) := by
  obtain ⟨GF, hGF⟩ : ∃ GF, GivesEq n p x y w = GF := ⟨_, rfl⟩
  rw [hGF]
  have HGF := Lib.hid hGF
  have HLV := Lib.hid (fun g c w' h => levelCode_any g c n p w' h)
  have HE := Lib.hid (goC_eq n p [x, y])
  have HV := Lib.hid hv
  have HU := Lib.hid hu
  have HZ := Lib.hid (fun h => rk_zero (n := n) (p := p) h)
  obtain ⟨xo, xc, rfl, hxc⟩ := hv.form
  obtain ⟨yo, yc, rfl, hyc⟩ := hu.form
  have HXC := Lib.hid hxc
  have HYC := Lib.hid hyc
  have HINF := Lib.hid (info_parts infoI)
  clear hGF hv hu hxc hyc
  go_enter Try.func17, Try.ntmps17
  go_wp2_with fail
  refine (HLV.out _ _ _ (Blk.new rfl)).mono ?_
  rintro e w1 ⟨rfl, k1⟩
  have kw1 : Below w.heap.size w w1 := ((Below.refl w.heap.size w).alloc (Nat.le_refl _) _).trans (k1.mono (by simp))
  have s1 := kw1.size
  clear k1
  by_cases h0 : rkCode n p = 0
  · obtain ⟨hp, hn, hl⟩ := HZ.out h0
    obtain ⟨m, rfl⟩ := Int.eq_ofNat_of_zero_le (by omega : 0 ≤ n)
    rw [Int.toNat_natCast] at hl
    have HBO := Lib.hid (fun w' => basisOf_any m p w' (by omega) hl hp)
    have HMX := Lib.hid (fun w' h => isMix_any m (.slice xo x.length xc) x w' (by omega) (by omega) h)
    have HMY := Lib.hid (fun w' h => isMix_any m (.slice yo y.length yc) y w' (by omega) (by omega) h)
    have HC := Lib.hid (show goC (m : Int) p [x, y] = if (okX (lineL m).length x && okX (lineL m).length y) = true then 0 else 2 by
      rw [HE.out, if_pos h0, Int.toNat_natCast]
      simp)
    have HXA := Lib.hid (fun h k hk => okX_at (N := (lineL m).length) (x := x) h (k := k) hk)
    have HYA := Lib.hid (fun h k hk => okX_at (N := (lineL m).length) (x := y) h (k := k) hk)
    have HTS := Lib.hid (fun k h1 h2 => subL_take (x := x) (y := y) (k := k) h1 h2)
    have HSL := Lib.hid (fun h1 h2 => subL_len (x := x) (y := y) (N := (lineL m).length) h1 h2)
    have HFIN := Lib.hid (show ∀ (b : Bool) w' e, okX (lineL m).length x = true → okX (lineL m).length y = true → (b = true ↔ Sp p (lineL m).length (fun r => ∃ y ∈ rowsI (relL m), r = vec y) (vec (subL x y))) → Below w.heap.size w w' → e = .returned (.tuple #[.bool b, .int .i64 0]) → GivesEq m p x y w e w' from fun b w' e h1 h1' h2 h3 h4 => ⟨h3, .inr ⟨by rw [HC.out, h1, h1']; rfl, b, by rw [Int.toNat_natCast]; exact h2, h4⟩⟩)
    generalize subL x y = D at *
    have HLE := Lib.hid (show ∀ v, D.length = (lineL m).length → ∀ w' (T : List (Nat × List Int)) (S : List (Nat × Value)) mb k B, SlIn w' .i64 v D → BasW p (lineL m).length (rowsI (relL m)) w' B mb k S T → Calls Try.prog 32 #[.agg #[.int .i64 p, .map (some mb)], v] w' (GivesL p (lineL m).length T D w') from
      fun v hx w' T S mb k B h1 h2 => left_any p (lineL m).length S T D v mb k B w' hp (by omega) hx h1 h2.map h2.at_ h2.red.dif h2.red.good)
    have HIF := Lib.hid (fun (T : List (Nat × List Int)) (ys : List Int) (r : Int) (h : Red p (lineL m).length (rowsI (relL m)) T) (g : LeftR p (lineL m).length T D ys r) => (LeftR.iff h g).trans ⟨fun q => q.mono h.s1, fun q => q.mono h.s2⟩)
    rw [h0]
    clear h0 hn HZ HE
    generalize rowsI (relL m) = RI at *
    obtain ⟨N, hN⟩ : ∃ N, (lineL m).length = N := ⟨_, rfl⟩
    rw [hN] at HBO HMX HMY HC HFIN HLE HIF hl HXA HYA HSL
    clear hN
    go_wp2_with fail
    refine (HMX.out _ (SlIn.below kw1 HV.out)).mono ?_
    rintro e w2 ⟨rfl, k2⟩
    have kw2 : Below w.heap.size w w2 := kw1.trans (k2.mono s1)
    have s2 := kw2.size
    clear k2
    obtain ⟨b, hb⟩ : ∃ b, okX N x = b := ⟨_, rfl⟩
    rw [hb]
    have HB := Lib.hid hb
    clear hb
    cases b with
    | false =>
      go_wp2
      rw [← HGF.out]
      exact ⟨kw2, .inl ⟨by rw [HC.out, HB.out]; simp, by rw [HC.out, HB.out]; rfl⟩⟩
    | true =>
      have HXL := Lib.hid (okX_len HB.out)
      go_wp2_with fail
      refine (HMY.out _ (SlIn.below kw2 HU.out)).mono ?_
      rintro e w3 ⟨rfl, k3⟩
      have kw3 : Below w.heap.size w w3 := kw2.trans (k3.mono s2)
      have s3 := kw3.size
      clear k3
      obtain ⟨b2, hb⟩ : ∃ b, okX N y = b := ⟨_, rfl⟩
      rw [hb]
      have HB2 := Lib.hid hb
      clear hb
      cases b2 with
      | false =>
        go_wp2
        rw [← HGF.out]
        exact ⟨kw3, .inl ⟨by rw [HC.out, HB.out, HB2.out]; simp, by rw [HC.out, HB.out, HB2.out]; rfl⟩⟩
      | true =>
        have HYL := Lib.hid (okX_len HB2.out)
        have HXB := Lib.hid (fun k hk => HXA.out HB.out k hk)
        have HYB := Lib.hid (fun k hk => HYA.out HB2.out k hk)
        have HDL := Lib.hid (HSL.out HXL.out HYL.out)
        have e1 := HXL.out
        have e2 := HYL.out
        rw [e1, e2]
        clear e1 e2
        go_wp2_with fail
        refine forget (fun W_ => Own W_ w3.heap.size (.slice (some ⟨w3.heap.size, 0, none⟩) 0 0) [] ∧ Below w3.heap.size w3 W_ ∧ w3.heap.size ≤ W_.heap.size) ⟨Own.of_blk (xs := []) (by repeat (first | (with_reducible assumption) | ((with_reducible refine Blk.new ?_); · first | omega | (simp; done) | (simp; omega)) | (with_reducible apply Blk.set4) | (with_reducible apply Blk.set3) | (with_reducible apply Blk.set2) | ((with_reducible refine Blk.put ?_ ?_); · first | omega | (simp; omega)) | (with_reducible refine Blk.old ?_) | (with_reducible refine Blk.drew ?_) | (with_reducible refine Blk.drewN ?_) | ((with_reducible refine Blk.below hb ?_ ?_); · first | omega | (simp; done) | (simp; omega)))) (by omega) rfl (by simp [maxLen]), (by repeat (first | (with_reducible exact Below.refl _ _) | (with_reducible assumption) | (with_reducible refine Below.drew ?_) | (with_reducible refine Below.drewN ?_) | ((with_reducible refine Below.al ?_ ?_); · first | omega | (simp; done) | (simp; omega)) | ((with_reducible refine Below.sc ?_ ?_); · first | omega | (simp; done) | (simp; omega)) | ((with_reducible refine Below.thru hb ?_ ?_); · first | omega | (simp; done) | (simp; omega)))), by simp⟩ ?_
        rintro w0 ⟨O0, k0, s0⟩
        go_loopw [11, 36] (fun v i wr => ∃ k : Nat, k ≤ N ∧ i = .int .i64 k ∧ Own wr w3.heap.size v (D.take k) ∧ Below w3.heap.size w3 wr ∧ w3.heap.size ≤ wr.heap.size) (fun _ i _ => N - (intOf i).toNat)
        case atStart => exact ⟨0, Nat.zero_le _, rfl, O0, k0, s0⟩
        case round =>
          clear O0 k0 s0
          obtain ⟨k, hk, rfl, O, kwr, swr⟩ := hrel
          obtain ⟨vo, vc, rfl⟩ := O.toK.len
          have hlen : (D.take k).length = k := by rw [List.length_take, HDL.out]; omega
          rw [hlen]
          rw [hlen] at O
          have HLEN := Lib.hid hlen
          clear hlen
          by_cases hlt : k < N
          · have hlx : k < x.length := by rw [HXL.out]; exact hlt
            have hly : k < y.length := by rw [HYL.out]; exact hlt
            obtain ⟨a, rfl, hcx⟩ := HXC.out (by omega)
            obtain ⟨b, rfl, hcy⟩ := HYC.out (by omega)
            have kwf : Below w.heap.size w wr := kw3.trans (kwr.mono s3)
            have cx : wr.cell? (a.add k) = some (.int .i64 x[k]) := by
              have e := hcx k hlx
              rw [kwf.cell (block_lt_of_cell e :)]
              exact e
            have cy : wr.cell? (b.add k) = some (.int .i64 y[k]) := by
              have e := hcy k hly
              rw [kwf.cell (block_lt_of_cell e :)]
              exact e
            have i0 : (0 : Int) ≤ (k : Int) := by omega
            have i1 : (k : Int) < (N : Int) := by omega
            have HTK := Lib.hid (HTS.out k hlx hly)
            have hbx := HXB.out k hlx
            have hby := HYB.out k hly
            generalize x[k] = xk at *
            generalize y[k] = yk at *
            have e1 : IntKind.i64.wrap (xk - yk) = xk - yk := by rw [IntKind.wrap_i64]; omega
            have H := Lib.hid (And.intro O kwr)
            clear O kwr kwf hcx hcy hlx hly
            obtain ⟨jI, hinf⟩ := HINF.out
            replace hinf := Lib.hid hinf
            have hvl : (D.take k).length = k := HLEN.out
            go_wp2_with (at_builtin; refine wpList_app encI rfl _ _ 25 2 8 rfl Try.underlying25 jI _ hinf.out.1 hinf.out.2.1 hinf.out.2.2.1 hinf.out.2.2.2 rfl (.slice vo k vc) (D.take k) w3.heap.size wr.heap.size 1 #[.int .i64 (xk - yk)] [xk - yk] rfl ?o1 rfl ?b1 rfl ?l1 ?l2 (by first | omega | (simp; done) | (simp; omega)) ?_)
            case o1 =>
              have O1 := H.out.1.toK
              exact (by repeat (first | (with_reducible assumption) | (with_reducible refine Own.drew ?_) | (with_reducible refine Own.drewN ?_) | (with_reducible refine Own.alloc ?_) | (with_reducible refine OwnK.drew ?_) | (with_reducible refine OwnK.drewN ?_) | (with_reducible refine OwnK.alloc ?_) | ((with_reducible refine OwnK.put ?_ ?_); · first | omega | (simp; done) | (simp; omega)) | ((with_reducible refine Own.below hb ?_)) | ((with_reducible refine OwnK.below hb ?_))))
            case b1 => exact Blk.new (by simp)
            case l1 => rw [hvl]; simp only [List.length_cons, List.length_nil]; unfold maxLen; omega
            case l2 => rw [hvl]; simp only [List.length_cons, List.length_nil]; omega
            intro v' w4 O4 hg
            have O1 := H.out.1
            have kk := H.out.2
            have k4 : Below w3.heap.size w3 w4 := Below.grownO hg (B2 := w3.heap.size) (ys := D.take k) (by rw [← hvl] at O1 ⊢; exact (by repeat (first | (with_reducible assumption) | (with_reducible refine Own.drew ?_) | (with_reducible refine Own.drewN ?_) | (with_reducible refine Own.alloc ?_) | (with_reducible refine OwnK.drew ?_) | (with_reducible refine OwnK.drewN ?_) | (with_reducible refine OwnK.alloc ?_) | ((with_reducible refine OwnK.put ?_ ?_); · first | omega | (simp; done) | (simp; omega)) | ((with_reducible refine Own.below hb ?_)) | ((with_reducible refine OwnK.below hb ?_))))) (by omega) (by simp; omega) (by repeat (first | (with_reducible exact Below.refl _ _) | (with_reducible assumption) | (with_reducible refine Below.drew ?_) | (with_reducible refine Below.drewN ?_) | ((with_reducible refine Below.al ?_ ?_); · first | omega | (simp; done) | (simp; omega)) | ((with_reducible refine Below.sc ?_ ?_); · first | omega | (simp; done) | (simp; omega)) | ((with_reducible refine Below.thru hb ?_ ?_); · first | omega | (simp; done) | (simp; omega))))
            have s4 : w3.heap.size ≤ w4.heap.size := k4.size
            have len4 := O4.lenOf
            have O5 : Own w4 w3.heap.size v' (D.take (k + 1)) := by
              rw [HTK.out]
              exact OwnK.toOwn O4
            rw [List.length_append, hvl] at len4
            simp only [List.length_cons, List.length_nil] at len4
            have H2 := Lib.hid (And.intro O5 k4)
            clear hg O1 O4 O5 k4 kk hvl H
            go_wp2
            go_roundw
            case rel => exact ⟨k + 1, by omega, by go_num, H2.out.1, H2.out.2, s4⟩
            case measure => first | (simp [intOf]; done) | (simp [intOf]; omega)
          · obtain rfl : N = k := by omega
            have HTK := Lib.hid (show D.take N = D from List.take_of_length_le (by rw [HDL.out]; exact Nat.le_refl _))
            rw [HTK.out] at O
            have HSI := Lib.hid O.slIn
            have kwf : Below w.heap.size w wr := kw3.trans (kwr.mono s3)
            have sf := kwf.size
            clear hlt O HXC HYC
            go_wp2_with fail
            refine (HBO.out wr).mono ?_
            rintro e w5 ⟨mb, k, S, T, rfl, hB, hk, hmb, k5⟩
            have HBW := Lib.hid hB
            have kw5 : Below w.heap.size w w5 := kwf.trans (k5.mono sf)
            have HSJ := Lib.hid (SlIn.below k5 HSI.out)
            have s5 := kw5.size
            clear hB k5
            go_wp2_with fail
            refine (HLE.out _ HDL.out w5 T S mb k wr.heap.size HSJ.out HBW.out).mono ?_
            rintro e w6 ⟨v6, ys, r, rfl, O6, hL, k6⟩
            have HL := Lib.hid (HIF.out T ys r HBW.out.red hL)
            have kw6 : Below w.heap.size w w6 := kw5.trans (k6.mono s5)
            clear O6 hL k6
            go_wp2
            rw [← HGF.out]
            exact HFIN.out (decide (r < 0)) _ _ HB.out HB2.out (by rw [decide_eq_true_iff]; exact HL.out) kw6 rfl
  · have H0 := Lib.hid h0
    go_wp2
    rw [← HGF.out]
    exact ⟨kw1, .inl ⟨by rw [HE.out, if_neg H0.out]; exact H0.out, by rw [HE.out, if_neg H0.out]; rfl⟩⟩

end Go.Proofs.Ytjjbaebddkejnaa
