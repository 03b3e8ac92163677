/- The reference's AreEqualMixes. -/
import Derived.Test.YtjjbaebddkejnaaGo
namespace Go.Proofs.Ytjjbaebddkejnaa
open Go.RowKit Go.Proofs.Ytjjbaebddkejnaa.Pl08Prime Go.Proofs.YtjjbaebddkejnaaW.PrintWords
set_option linter.unusedSimpArgs false

/-- The difference of two mixes. -/
def subL (x y : List Int) : List Int := List.zipWith (· - ·) x y
theorem subL_len {x y : List Int} {N : Nat} (hx : x.length = N) (hy : y.length = N) : (subL x y).length = N := by simp [subL, hx, hy]
theorem subL_take {x y : List Int} {k : Nat} (hx : k < x.length) (hy : k < y.length) : (subL x y).take (k + 1) = (subL x y).take k ++ [x[k] - y[k]] := by
  have h : k < (subL x y).length := by simp [subL]; omega
  rw [List.take_succ_eq_append_getElem h]
  congr 2
  simp [subL]
theorem okX_at {N : Nat} {x : List Int} (h : okX N x = true) {k : Nat} (hk : k < x.length) : -1000000 ≤ x[k] ∧ x[k] ≤ 1000000 := by
  unfold okX at h
  rw [Bool.and_eq_true] at h
  have := List.all_eq_true.1 h.2 _ (List.getElem_mem hk)
  simpa [entM] using this
def GivesEq (n p : Int) (x y : List Int) (w : World) (e : Ending) (w' : World) : Prop :=
  Below w.heap.size w w' ∧ ((goC n p [x, y] ≠ 0 ∧ e = .returned (.tuple #[.bool false, .int .i64 (goC n p [x, y])])) ∨ (goC n p [x, y] = 0 ∧ ∃ b : Bool, (b = true ↔ SpR n.toNat p (subL x y)) ∧ e = .returned (.tuple #[.bool b, .int .i64 0])))
/-- A block of two slices, as the printed functions read it. -/
theorem kd_two {w : World} {g : Nat} {v u : Value} {x y : List Int} (hv : SlIn w .i64 v x) (hu : SlIn w .i64 u y) (hb : Blk w g 25 #[v, u]) : Kd.C (Kd.slice 2 (Kd.int .i64)) w (some ⟨g, 0, none⟩) [x, y].length [x, y] := by
  obtain ⟨xo, xc, rfl, -⟩ := hv.form
  obtain ⟨yo, yc, rfl, -⟩ := hu.form
  refine ⟨rfl, by simp, fun _ => ⟨⟨g, 0, none⟩, rfl, fun j q hq => ?_⟩⟩
  match j, hq with
  | 0, hq =>
    simp only [List.getElem?_cons_zero, Option.some.injEq] at hq
    subst hq
    have h := kd_slIn hv
    refine ⟨[.slice xo x.length xc], rfl, ⟨xo, xc, rfl, h.1, h.2⟩, fun i u hu => ?_⟩
    match i, hu with
    | 0, hu =>
      simp only [List.getElem?_cons_zero, Option.some.injEq] at hu
      subst hu
      exact hb.at (i := 0) rfl
  | 1, hq =>
    simp only [List.getElem?_cons_succ, List.getElem?_cons_zero, Option.some.injEq] at hq
    subst hq
    have h := kd_slIn hu
    refine ⟨[.slice yo y.length yc], rfl, ⟨yo, yc, rfl, h.1, h.2⟩, fun i u hu => ?_⟩
    match i, hu with
    | 0, hu =>
      simp only [List.getElem?_cons_zero, Option.some.injEq] at hu
      subst hu
      exact hb.at (i := 1) rfl

set_option maxRecDepth 8000 in
set_option maxHeartbeats 2000000 in
theorem specAreEqualMixes_any (n p : Int) (v u : Value) (x y : List Int) (w : World) (hv : SlIn w .i64 v x) (hu : SlIn w .i64 u y) : Calls Try.prog 16 #[.int .i64 n, .int .i64 p, v, u] w (GivesEq n p x y w) := by
  obtain ⟨GF, hGF⟩ : ∃ GF, GivesEq n p x y w = GF := ⟨_, rfl⟩
  rw [hGF]
  have HGF := Lib.hid hGF
  obtain ⟨K, hK⟩ := goC_ev n p [x, y] (by simp)
  have HP := Lib.hid (fun (g c : Nat) (w' : World) h1 h2 => spec_l08Prime.calls K n p (some ⟨g, 0, none⟩) c [x, y] (goC n p [x, y]) w' h1 h2 (hK K (Nat.le_refl _)))
  have HZ := Lib.hid (fun h => go_zero (n := n) (p := p) (xs := [x, y]) h)
  have HV := Lib.hid hv
  have HU := Lib.hid hu
  obtain ⟨xo, xc, rfl, hxc⟩ := hv.form
  obtain ⟨yo, yc, rfl, hyc⟩ := hu.form
  have HXC := Lib.hid hxc
  have HYC := Lib.hid hyc
  have HINF := Lib.hid (info_parts infoI)
  clear hGF hK hv hu hxc hyc
  go_enter Try.func16, Try.ntmps16
  go_wp2_with fail
  refine (HP.out _ _ _ (kd_two (SlIn.alloc HV.out) (SlIn.alloc HU.out) (Blk.new rfl)) (Nat.le_refl _)).mono ?_
  rintro e w1 ⟨rfl, d1⟩
  have k1 : Below w.heap.size w w1 := ((Below.refl w.heap.size w).alloc (Nat.le_refl _) _).trans (d1.below.mono (by simp))
  have s1 := k1.size
  clear d1
  obtain ⟨c, hc⟩ : ∃ c, goC n p [x, y] = c := ⟨_, rfl⟩
  rw [hc]
  have HC := Lib.hid hc
  by_cases h0 : c = 0
  · subst h0
    obtain ⟨hz, hok⟩ := HZ.out hc
    obtain ⟨hpp, hn, hl⟩ := rk_zero hz
    obtain ⟨m, rfl⟩ := Int.eq_ofNat_of_zero_le (by omega : 0 ≤ n)
    rw [Int.toNat_natCast] at hl hok
    have hok2 : okX (lineL m).length x = true ∧ okX (lineL m).length y = true := by simpa using hok
    have HXL := Lib.hid (okX_len hok2.1)
    have HYL := Lib.hid (okX_len hok2.2)
    have HXA := Lib.hid (fun k hk => okX_at hok2.1 (k := k) hk)
    have HYA := Lib.hid (fun k hk => okX_at hok2.2 (k := k) hk)
    have HG := Lib.hid (fun v w' h => l08Goes_any m p v (subL x y) w' hpp (by omega) hl (subL_len HXL.out HYL.out) h)
    have HTS := Lib.hid (fun k h1 h2 => subL_take (x := x) (y := y) (k := k) h1 h2)
    have HSL := Lib.hid (subL_len HXL.out HYL.out)
    have HFIN := Lib.hid (show ∀ (b : Bool) w' e, (b = true ↔ SpR m p (subL x y)) → Below w.heap.size w w' → e = .returned (.tuple #[.bool b, .int .i64 0]) → GivesEq m p x y w e w' from fun b w' e h2 h3 h4 => ⟨h3, .inr ⟨HC.out, b, by rw [Int.toNat_natCast]; exact h2, h4⟩⟩)
    clear hc hz hok hok2 hn HZ HP HC
    generalize subL x y = D at *
    obtain ⟨N, hN⟩ : ∃ N, (lineL m).length = N := ⟨_, rfl⟩
    rw [hN] at HXL HYL HSL hl
    clear hN
    have e1 := HXL.out
    have e2 := HYL.out
    rw [e1, e2]
    clear e1 e2
    go_wp2_with fail
    refine forget (fun W_ => Own W_ w1.heap.size (.slice (some ⟨w1.heap.size, 0, none⟩) 0 0) [] ∧ Below w1.heap.size w1 W_ ∧ w1.heap.size ≤ W_.heap.size) ⟨Own.of_blk (xs := []) (by repeat (first | (with_reducible assumption) | ((with_reducible refine Blk.new ?_); · first | omega | (simp; done) | (simp; omega)) | (with_reducible apply Blk.set4) | (with_reducible apply Blk.set3) | (with_reducible apply Blk.set2) | ((with_reducible refine Blk.put ?_ ?_); · first | omega | (simp; omega)) | (with_reducible refine Blk.old ?_) | (with_reducible refine Blk.drew ?_) | (with_reducible refine Blk.drewN ?_) | ((with_reducible refine Blk.below hb ?_ ?_); · first | omega | (simp; done) | (simp; omega)))) (by omega) rfl (by simp [maxLen]), (by repeat (first | (with_reducible exact Below.refl _ _) | (with_reducible assumption) | (with_reducible refine Below.drew ?_) | (with_reducible refine Below.drewN ?_) | ((with_reducible refine Below.al ?_ ?_); · first | omega | (simp; done) | (simp; omega)) | ((with_reducible refine Below.sc ?_ ?_); · first | omega | (simp; done) | (simp; omega)) | ((with_reducible refine Below.thru hb ?_ ?_); · first | omega | (simp; done) | (simp; omega)))), by simp⟩ ?_
    rintro w0 ⟨O0, k0, s0⟩
    go_loopw [11, 12] (fun v i wr => ∃ k : Nat, k ≤ N ∧ i = .int .i64 k ∧ Own wr w1.heap.size v (D.take k) ∧ Below w1.heap.size w1 wr ∧ w1.heap.size ≤ wr.heap.size) (fun _ i _ => N - (intOf i).toNat)
    case atStart => exact ⟨0, Nat.zero_le _, rfl, O0, k0, s0⟩
    case round =>
      clear O0 k0 s0
      obtain ⟨k, hk, rfl, O, kwr, swr⟩ := hrel
      obtain ⟨vo, vc, rfl⟩ := O.toK.len
      have hlen : (D.take k).length = k := by rw [List.length_take, HSL.out]; omega
      rw [hlen]
      rw [hlen] at O
      have HLEN := Lib.hid hlen
      clear hlen
      by_cases hlt : k < N
      · have hlx : k < x.length := by rw [HXL.out]; exact hlt
        have hly : k < y.length := by rw [HYL.out]; exact hlt
        obtain ⟨a, rfl, hcx⟩ := HXC.out (by omega)
        obtain ⟨b, rfl, hcy⟩ := HYC.out (by omega)
        have kwf : Below w.heap.size w wr := k1.trans (kwr.mono s1)
        have cx : wr.cell? (a.add k) = some (.int .i64 x[k]) := by
          have e := hcx k hlx
          rw [kwf.cell (block_lt_of_cell e :)]
          exact e
        have cy : wr.cell? (b.add k) = some (.int .i64 y[k]) := by
          have e := hcy k hly
          rw [kwf.cell (block_lt_of_cell e :)]
          exact e
        have i0 : (0 : Int) ≤ (k : Int) := by omega
        have i1 : (k : Int) < (N : Int) := by omega
        have HTK := Lib.hid (HTS.out k hlx hly)
        have hbx := HXA.out k hlx
        have hby := HYA.out k hly
        generalize x[k] = xk at *
        generalize y[k] = yk at *
        have e1 : IntKind.i64.wrap (xk - yk) = xk - yk := by rw [IntKind.wrap_i64]; omega
        have H := Lib.hid (And.intro O (And.intro kwr kwf))
        clear O kwr kwf hcx hcy hlx hly
        go_wp2_with fail
        obtain ⟨jI, hinf⟩ := HINF.out
        replace hinf := Lib.hid hinf
        have hvl : (D.take k).length = k := HLEN.out
        go_region_law (first
          | (refine step_app_at encI rfl _ _ 25 2 8 rfl Try.underlying25 jI _ hinf.out.1 hinf.out.2.1 hinf.out.2.2.1 hinf.out.2.2.2 rfl (.slice vo k vc) (D.take k) w1.heap.size wr.heap.size 1 #[.int .i64 (xk - yk)] [xk - yk] rfl (by have O := H.out.1.toK; exact (by repeat (first | (with_reducible assumption) | (with_reducible refine Own.drew ?_) | (with_reducible refine Own.drewN ?_) | (with_reducible refine Own.alloc ?_) | (with_reducible refine OwnK.drew ?_) | (with_reducible refine OwnK.drewN ?_) | (with_reducible refine OwnK.alloc ?_) | ((with_reducible refine OwnK.put ?_ ?_); · first | omega | (simp; done) | (simp; omega)) | ((with_reducible refine Own.below hb ?_)) | ((with_reducible refine OwnK.below hb ?_))))) rfl (by repeat (first | (with_reducible assumption) | ((with_reducible refine Blk.new ?_); · first | omega | (simp; done) | (simp; omega)) | (with_reducible apply Blk.set4) | (with_reducible apply Blk.set3) | (with_reducible apply Blk.set2) | ((with_reducible refine Blk.put ?_ ?_); · first | omega | (simp; omega)) | (with_reducible refine Blk.old ?_) | (with_reducible refine Blk.drew ?_) | (with_reducible refine Blk.drewN ?_) | ((with_reducible refine Blk.below hb ?_ ?_); · first | omega | (simp; done) | (simp; omega)))) rfl (by rw [hvl]; simp only [List.length_cons, List.length_nil]; unfold maxLen; omega) (by rw [hvl]; simp only [List.length_cons, List.length_nil]; omega) (by first | omega | (simp; done) | (simp; omega)) ?_; intro v' w2 O2 hg _))
        all_goals
          have O1 := H.out.1
          have kk := H.out.2.1
          have k2 : Below w1.heap.size w1 w2 := Below.grownO hg (B2 := w1.heap.size) (ys := D.take k) (by rw [← hvl] at O1 ⊢; exact (by repeat (first | (with_reducible assumption) | (with_reducible refine Own.drew ?_) | (with_reducible refine Own.drewN ?_) | (with_reducible refine Own.alloc ?_) | (with_reducible refine OwnK.drew ?_) | (with_reducible refine OwnK.drewN ?_) | (with_reducible refine OwnK.alloc ?_) | ((with_reducible refine OwnK.put ?_ ?_); · first | omega | (simp; done) | (simp; omega)) | ((with_reducible refine Own.below hb ?_)) | ((with_reducible refine OwnK.below hb ?_))))) (by omega) (by simp; omega) (by repeat (first | (with_reducible exact Below.refl _ _) | (with_reducible assumption) | (with_reducible refine Below.drew ?_) | (with_reducible refine Below.drewN ?_) | ((with_reducible refine Below.al ?_ ?_); · first | omega | (simp; done) | (simp; omega)) | ((with_reducible refine Below.sc ?_ ?_); · first | omega | (simp; done) | (simp; omega)) | ((with_reducible refine Below.thru hb ?_ ?_); · first | omega | (simp; done) | (simp; omega))))
          have s2 : w1.heap.size ≤ w2.heap.size := k2.size
          have len2 := O2.lenOf
          have O3 : Own w2 w1.heap.size v' (D.take (k + 1)) := by
            rw [HTK.out]
            exact OwnK.toOwn O2
          rw [List.length_append, hvl] at len2
          simp only [List.length_cons, List.length_nil] at len2
          have H2 := Lib.hid (And.intro O3 k2)
          clear hg O1 O2 O3 k2 kk hvl H
          go_wp2
          refine ⟨⟨k + 1, by omega, by go_num, by have O := H2.out.1; exact (by repeat (first | (with_reducible assumption) | (with_reducible refine Own.drew ?_) | (with_reducible refine Own.drewN ?_) | (with_reducible refine Own.alloc ?_) | (with_reducible refine OwnK.drew ?_) | (with_reducible refine OwnK.drewN ?_) | (with_reducible refine OwnK.alloc ?_) | ((with_reducible refine OwnK.put ?_ ?_); · first | omega | (simp; done) | (simp; omega)) | ((with_reducible refine Own.below hb ?_)) | ((with_reducible refine OwnK.below hb ?_)))), by have kk := H2.out.2; exact (by repeat (first | (with_reducible exact Below.refl _ _) | (with_reducible assumption) | (with_reducible refine Below.drew ?_) | (with_reducible refine Below.drewN ?_) | ((with_reducible refine Below.al ?_ ?_); · first | omega | (simp; done) | (simp; omega)) | ((with_reducible refine Below.sc ?_ ?_); · first | omega | (simp; done) | (simp; omega)) | ((with_reducible refine Below.thru hb ?_ ?_); · first | omega | (simp; done) | (simp; omega)))), by first | exact s2 | (simp; omega)⟩, ?_⟩
          first | (simp [intOf]; done) | (simp [intOf]; omega)
      · obtain rfl : N = k := by omega
        have HTK := Lib.hid (show D.take N = D from List.take_of_length_le (by rw [HSL.out]; exact Nat.le_refl _))
        rw [HTK.out] at O
        have HSI := Lib.hid O.slIn
        have kwf : Below w.heap.size w wr := k1.trans (kwr.mono s1)
        have sf := kwf.size
        clear hlt O HXC HYC
        go_wp2_with fail
        refine (HG.out _ _ HSI.out).mono ?_
        rintro e w5 ⟨b, rfl, hb, k5⟩
        have HB := Lib.hid hb
        clear hb
        go_wp2
        rw [← HGF.out]
        exact HFIN.out b _ _ HB.out (kwf.trans (k5.mono sf)) rfl
  · have H0 := Lib.hid h0
    go_wp2
    rw [← HGF.out]
    exact ⟨k1, .inl ⟨by rw [HC.out]; exact H0.out, by rw [HC.out]; rfl⟩⟩

end Go.Proofs.Ytjjbaebddkejnaa
