/- The ends of a mix: the reference's walk. -/
import Derived.Test.YtjjbaebddkejnaaEni
import Derived.Test.YtjjbaebddkejnaaTail
namespace Go.Proofs.Ytjjbaebddkejnaa
open Go.RowKit Go.Proofs.Ytjjbaebddkejnaa.PFnExactAreEqualMixes Go.Proofs.YtjjbaebddkejnaaW.PrintWords
set_option linter.unusedSimpArgs false

/-- A slice that came in, as the printed functions read it. -/
theorem kd_slInE {w : World} {ao : Option Addr} {c : Nat} {xs : List Int} (h : SlIn w .i64 (.slice ao xs.length c) xs) : xs.length ≤ c ∧ Kd.C (Kd.int .i64) w ao xs.length xs := by
  rcases h with ⟨h1, rfl⟩ | ⟨a, cap, h1, h2, h3, h4⟩
  · cases h1
    exact ⟨Nat.le_refl _, rfl, by decide, fun h => absurd h (by decide)⟩
  · injection h1 with h1 _ h5
    subst h1 h5
    refine ⟨h2, rfl, by unfold maxLen at h3; omega, fun _ => ⟨a, rfl, fun j q hq => ?_⟩⟩
    obtain ⟨hj, e⟩ := List.getElem?_eq_some_iff.1 hq
    refine ⟨[.int .i64 q], rfl, rfl, fun i u hu => ?_⟩
    match i, hu with
    | 0, hu =>
      simp only [List.getElem?_cons_zero, Option.some.injEq] at hu
      subst hu
      show w.cell? (a.add (j * 1 + 0)) = _
      rw [show j * 1 + 0 = j by omega, h4 j hj, e]
/-- A block of one slice, as the printed functions read it. -/
theorem kd_oneE {w : World} {g : Nat} {v : Value} {x : List Int} (hv : SlIn w .i64 v x) (hb : Blk w g 25 #[v]) : Kd.C (Kd.slice 2 (Kd.int .i64)) w (some ⟨g, 0, none⟩) [x].length [x] := by
  obtain ⟨xo, xc, rfl, -⟩ := hv.form
  refine ⟨rfl, by simp, fun _ => ⟨⟨g, 0, none⟩, rfl, fun j q hq => ?_⟩⟩
  match j, hq with
  | 0, hq =>
    simp only [List.getElem?_cons_zero, Option.some.injEq] at hq
    subst hq
    have h := kd_slInE hv
    refine ⟨[.slice xo x.length xc], rfl, ⟨xo, xc, rfl, h.1, h.2⟩, fun i u hu => ?_⟩
    match i, hu with
    | 0, hu =>
      simp only [List.getElem?_cons_zero, Option.some.injEq] at hu
      subst hu
      exact hb.at (i := 0) rfl
/-- What one symbol of a mix needs on the reference's side. -/
def SymG (n C k : Nat) (ns : List Int) (L : List (Nat × Nat)) (x : Nat × Nat) : Prop := ∃ h t s : Nat, h < C ∧ t < C ∧ s < ns.length ∧ hereF n k = (h : Int) ∧ thereF n k = (t : Int) ∧ ns[k]? = some (h : Int) ∧ ns[s]? = some (t : Int) ∧ x.1 < 60 ∧ x.2 < 60 ∧
  ∀ (v : Value) (mm : Nat) (w' : World), LineC w' mm v L → mm ≤ w'.heap.size → Calls Try.prog 35 #[.int .i64 (n : Int), v, .int .i64 (x.2 : Int), .int .i64 (-(x.1 : Int))] w' fun e w'' => e = .returned (.int .i64 (s : Int)) ∧ Below w'.heap.size w' w''
theorem symg_of {n k : Nat} {q : Nat × Nat} {j1 j2 : Nat} (HV : Lvl n) (hk : k < (lineL n).length) (F : EndF n k q j1 j2 (lineL n)[k]) : SymG n (numC (movL n tM) (lineL n).length) k (numL (movL n tM) (lineL n).length) (lineL n) (lineL n)[k] := by
  have hx := line_lt hk
  have hn := HV.n1
  have hl := HV.l72
  have e1 := numL_bd (movL n tM) hk
  have e2 := numL_bd (movL n tM) F.s
  have hnl := numL_len (movL n tM) (lineL n).length
  obtain ⟨h, hh⟩ := Int.eq_ofNat_of_zero_le e1.1
  obtain ⟨t, ht⟩ := Int.eq_ofNat_of_zero_le e2.1
  have hT : thereF n k = (t : Int) := by
    unfold thereF
    rw [show (lineL n).getD k (0, 0) = (lineL n)[k] by rw [List.getD_eq_getElem?_getD, List.getElem?_eq_getElem hk]; rfl]
    exact ht
  refine ⟨h, t, sQ n (lineL n) (lineL n)[k], by omega, by omega, by rw [hnl]; exact F.s, hh, hT, by rw [← hh]; exact get_getD (by rw [hnl]; exact hk), by rw [← ht]; exact get_getD (by rw [hnl]; exact F.s), by omega, by omega, fun v mm w' h1 h2 => ?_⟩
  have := l06Number_any n ((lineL n)[k].2 : Int) (-((lineL n)[k].1 : Int)) (lineL n) v mm w' h1 h2 (by omega) hn (isPrC_s (List.getElem_mem hk))
  rwa [F.si] at this
set_option maxRecDepth 8000 in
set_option maxHeartbeats 4000000 in
theorem specEndsOf_any (n : Int) (v : Value) (x : List Int) (w : World) (hv : SlIn w .i64 v x) : Calls Try.prog 18 #[.int .i64 n, v] w (GivesEn n x w) := by
  obtain ⟨GF, hGF⟩ : ∃ GF, GivesEn n x w = GF := ⟨_, rfl⟩
  rw [hGF]
  have HGF := Lib.hid hGF
  obtain ⟨K, hK⟩ := sumC_ev n [x] (by simp)
  have HP := Lib.hid (fun (g c : Nat) (w' : World) h1 h2 => spec_l08Sums.calls K n (some ⟨g, 0, none⟩) c [x] (sumC n [x]) w' h1 h2 (hK K (Nat.le_refl _)))
  have HV := Lib.hid hv
  obtain ⟨xo, xc, rfl, hxc⟩ := hv.form
  have HXC := Lib.hid hxc
  clear hGF hK hv hxc
  go_enter Try.func18, Try.ntmps18
  go_wp2_with fail
  refine (HP.out _ _ _ (kd_oneE (SlIn.alloc HV.out) (Blk.new rfl)) (Nat.le_refl _)).mono ?_
  rintro e w1 ⟨rfl, d1⟩
  have k1 : Below w.heap.size w w1 := ((Below.refl w.heap.size w).alloc (Nat.le_refl _) _).trans (d1.below.mono (by simp))
  have s1 := k1.size
  clear d1
  obtain ⟨c, hc⟩ : ∃ c, sumC n [x] = c := ⟨_, rfl⟩
  rw [hc]
  have HC := Lib.hid hc
  by_cases h0 : c = 0
  · subst h0
    have hlv : lvCode n = 0 := by
      unfold sumC at hc
      split at hc
      · assumption
      · exact hc
    have hok : okX (lineL n.toNat).length x = true := by
      unfold sumC at hc
      rw [if_pos hlv] at hc
      split at hc
      · rename_i h
        simpa using h
      · cases hc
    obtain ⟨hn, hl⟩ := lv_zero hlv
    obtain ⟨m, rfl⟩ := Int.eq_ofNat_of_zero_le (by omega : 0 ≤ n)
    rw [Int.toNat_natCast] at hl hok
    have hm : 1 ≤ m ∧ m ≤ 60 := by omega
    obtain ⟨HVL, HEF⟩ := lev_ok hm hl (line_pos hm.1)
    have HXE := Lib.hid (okX_ent hok)
    have HSY := Lib.hid (show ∀ k (hk : k < (lineL m).length), SymG m (numC (movL m tM) (lineL m).length) k (numL (movL m tM) (lineL m).length) (lineL m) (lineL m)[k] from fun k hk => by
      obtain ⟨q, j1, j2, F⟩ := HEF k hk
      exact symg_of HVL hk F)
    have HR := Lib.hid (show endR (m : Int) x = endTo (hereF m) (thereF m) x (numC (movL m tM) (lineL m).length) (lineL m).length by
      unfold endR
      rw [hc, if_pos rfl, Int.toNat_natCast]
      rfl)
    have HLN := Lib.hid (fun w' : World => l06Line_any m w' hm)
    have HLC := Lib.hid (fun (B : Nat) (w' : World) (v : Value) (vs : List Sl) O R => LineC.of (w := w') (B := B) (v := v) (vs := vs) (xs := lineL m) O R)
    have HCU := Lib.hid (fun (v : Value) (mm : Nat) (w' : World) h1 h2 => l06Cusps_any m v mm w' h1 h2 HVL)
    have hC72 : numC (movL m tM) (lineL m).length ≤ 72 := Nat.le_trans (numTo_cnt _ _ _) hl
    unfold GivesU at HCU
    have HN1 := Lib.hid (line_pos hm.1)
    have HNL := Lib.hid (numL_len (movL m tM) (lineL m).length)
    obtain ⟨FH, hFH⟩ : ∃ f, hereF m = f := ⟨_, rfl⟩
    obtain ⟨FT, hFT⟩ : ∃ f, thereF m = f := ⟨_, rfl⟩
    rw [hFH, hFT] at HR
    have HFH := Lib.hid hFH
    have HFT := Lib.hid hFT
    clear hFH hFT HVL HEF hlv hok hc
    generalize movL m tM = P at *
    generalize lineL m = L at *
    obtain ⟨C, hCe⟩ : ∃ C, numC P L.length = C := ⟨_, rfl⟩
    obtain ⟨ns, hns⟩ : ∃ ns, numL P L.length = ns := ⟨_, rfl⟩
    rw [hCe] at HR HSY hC72 HCU
    rw [hns] at HSY HCU HNL
    obtain ⟨N, hN⟩ : ∃ N, L.length = N := ⟨_, rfl⟩
    rw [hN] at HR HXE hl HNL HN1
    have HN := Lib.hid hN
    clear hN hCe hns
    have hmk := run_make_row' (P := Try.prog) 25 2 (.int .i64 0) 8 Try.underlying25 infoI rfl .i64 .i64 C (by omega) (by omega)
    go_wp2_with fail
    refine (HLN.out _).mono ?_
    rintro e w2 ⟨v2, vs2, rfl, O2, R2, k2⟩
    have LC2 := Lib.hid (HLC.out _ _ _ _ O2 R2)
    have kw2 : Below w.heap.size w w2 := k1.trans (k2.mono s1)
    have s2 := kw2.size
    obtain ⟨lo, lc, hlv, -⟩ := LC2.out
    rw [HN.out] at hlv
    subst hlv
    clear O2 R2 k2 k1 s1
    go_wp2_with fail
    refine (HCU.out _ _ _ LC2.out (Nat.le_refl _)).mono ?_
    rintro e w3 ⟨v3, rfl, O3, k3⟩
    have kw3 : Below w.heap.size w w3 := kw2.trans (k3.mono s2)
    have s3 := k3.size
    have H3 := Lib.hid (And.intro O3 (LC2.out.below k3))
    obtain ⟨gb, nc, rfl⟩ : ∃ gb nc, v3 = .slice (some ⟨gb, 0, none⟩) N nc := by
      rcases O3.toK.form with ⟨-, h2⟩ | ⟨g, cap, h1, -⟩
      · have := HNL.out
        rw [h2] at this
        have h1 := HN1.out
        simp at this
        omega
      · exact ⟨g, cap, by rw [h1, HNL.out]⟩
    clear O3 k3 LC2 kw2
    have OO1 : Own (w3.alloc (Obj.cells (madeCells #[Value.int .i64 0] C) 2)) w.heap.size (.slice (some ⟨w3.heap.size, 0, none⟩) C C) (endTo FH FT x C 0) := by
      have := Own.of_blk (B := w.heap.size) (xs := List.replicate C 0) (Blk.new (w := w3) (E := 2) rfl) (by have := kw3.size; omega) (made_zero C) (by rw [List.length_replicate]; unfold maxLen; omega)
      rwa [List.length_replicate] at this
    have HO1 := Lib.hid OO1
    have sg0 := kw3.size
    clear OO1
    go_wp2_with fail
    clear hmk
    go_loopw [11] (fun ii wr => ∃ k : Nat, k ≤ N ∧ ii = .int .i64 k ∧ Hid (Own wr w.heap.size (.slice (some ⟨w3.heap.size, 0, none⟩) C C) (endTo FH FT x C k)) ∧ Below w3.heap.size w3 wr) (fun ii _ => N - (intOf ii).toNat)
    case atStart => exact ⟨0, Nat.zero_le _, rfl, HO1, (by repeat (first | (with_reducible exact Below.refl _ _) | (with_reducible assumption) | (with_reducible refine Below.drew ?_) | (with_reducible refine Below.drewN ?_) | ((with_reducible refine Below.al ?_ ?_); · first | omega | (simp; done) | (simp; omega)) | ((with_reducible refine Below.sc ?_ ?_); · first | omega | (simp; done) | (simp; omega)) | ((with_reducible refine Below.thru hb ?_ ?_); · first | omega | (simp; done) | (simp; omega)) | ((with_reducible refine Below.thru hb4 ?_ ?_); · first | omega | (simp; done) | (simp; omega)) | ((with_reducible refine Below.thru hb5 ?_ ?_); · first | omega | (simp; done) | (simp; omega))))⟩
    case round =>
      clear HO1
      obtain ⟨k, hk, rfl, SW, klwr⟩ := hrel
      have kwr : Below w.heap.size w wr := kw3.trans (klwr.mono sg0)
      have swr := klwr.size
      by_cases hlt : k < N
      · obtain ⟨h, t, s, hh, ht, hsN, eh, et, nk, nsx, b1, b2, hcall⟩ := HSY.out k (by rw [HN.out]; exact hlt)
        rw [HFH.out] at eh
        rw [HFT.out] at et
        have HEH := Lib.hid eh
        have HET := Lib.hid et
        have HC1 := Lib.hid hcall
        rw [HNL.out] at hsN
        have hNN := Own.below klwr H3.out.1
        have c0 := hNN.at (g := gb) rfl nk
        have c1 := hNN.at (g := gb) rfl nsx
        have hL := LineC.below H3.out.2 (klwr.mono s3)
        have HL3 := Lib.hid (LineC.later hL (by omega))
        have HZ := Lib.hid (later_size (W := wr) (m := w2.heap.size) (by omega))
        obtain ⟨ao2, c2, hv2, hcs⟩ := hL
        rw [HN.out] at hv2
        simp only [Value.slice.injEq, true_and] at hv2
        obtain ⟨rfl, rfl⟩ := hv2
        obtain ⟨g, rfl, hg, hcs⟩ := hcs (by rw [HN.out]; omega)
        obtain ⟨g2, cc2, hg2, d0, d1, d2⟩ := hcs k (by rw [HN.out]; exact hlt)
        clear hcs eh et hcall nk nsx hNN
        have r0 : (0 : Int) ≤ (h : Int) := by omega
        have r1 : (h : Int) < (C : Int) := by omega
        have t0 : (0 : Int) ≤ (t : Int) := by omega
        have t1 : (t : Int) < (C : Int) := by omega
        have i0 : (0 : Int) ≤ (k : Int) := by omega
        have i1 : (k : Int) < (N : Int) := by omega
        have u0 : (0 : Int) ≤ (s : Int) := by omega
        have u1 : (s : Int) < (N : Int) := by omega
        have xi1 : (k : Int) < (x.length : Int) := by rw [HXE.out.1]; exact i1
        obtain ⟨xa, rfl, hxa⟩ := HXC.out (by omega)
        have hxk := hxa k (by omega)
        rw [show x[k]'(by omega) = x.getD k 0 from (getD_lt (by omega)).symm] at hxk
        have hxb := HXE.out.2 k hlt
        obtain ⟨xk, hxke⟩ : ∃ z, x.getD k 0 = z := ⟨_, rfl⟩
        rw [hxke] at hxk hxb
        have HXK := Lib.hid hxke
        clear hxa hxke
        obtain ⟨y1, hy1⟩ : ∃ z, (endTo FH FT x C k).getD h 0 = z := ⟨_, rfl⟩
        have HY1 := Lib.hid (show (endTo FH FT x C k)[h]? = some y1 by rw [← hy1]; exact get_getD (by rw [endTo_len]; exact hh))
        have hb1 := endTo_bd (H := FH) (T := FT) (x := x) (n := C) (k := k) (fun j hj => HXE.out.2 j (by omega)) h
        rw [hy1] at hb1
        clear hy1
        obtain ⟨s1, hs1⟩ : ∃ z, y1 + xk = z := ⟨_, rfl⟩
        have HE1 := Lib.hid (show (endTo FH FT x C k).set h s1 = addAt (endTo FH FT x C k) (FH k) (x.getD k 0) by
          unfold addAt
          rw [HEH.out, HXK.out, Int.toNat_natCast, ← hs1]
          congr 2
          rw [List.getD_eq_getElem?_getD, HY1.out]
          rfl)
        obtain ⟨y2, hy2⟩ : ∃ z, ((endTo FH FT x C k).set h s1).getD t 0 = z := ⟨_, rfl⟩
        have HY2 := Lib.hid (show ((endTo FH FT x C k).set h s1)[t]? = some y2 by rw [← hy2]; exact get_getD (by rw [List.length_set, endTo_len]; exact ht))
        have hb2 : -200000000 ≤ y2 ∧ y2 ≤ 200000000 := by
          have h3 := endTo_bd (H := FH) (T := FT) (x := x) (n := C) (k := k) (fun j hj => HXE.out.2 j (by omega)) t
          rw [HE1.out] at hy2
          rcases addAt_get (endTo FH FT x C k) (FH k) (x.getD k 0) t with h4 | h4
          · rw [h4] at hy2; omega
          · rw [h4, HXK.out] at hy2; omega
        obtain ⟨s2, hs2⟩ : ∃ z, y2 + -xk = z := ⟨_, rfl⟩
        have HE2 := Lib.hid (show ((endTo FH FT x C k).set h s1).set t s2 = endTo FH FT x C (k + 1) by
          rw [endTo, ← HE1.out, addAt, HET.out, HXK.out, Int.toNat_natCast, hy2, hs2])
        have hq3 : IntKind.i64.wrap (y1 + xk) = s1 := by rw [IntKind.wrap_i64]; omega
        have hq4 : IntKind.i64.wrap (y2 - xk) = s2 := by rw [IntKind.wrap_i64]; omega
        clear hs1 hs2 hy2 hb1 hb2 hxb
        generalize L[k]'(by rw [HN.out]; exact hlt) = xx at *
        obtain ⟨x1, x2⟩ := xx
        simp only at d1 d2 b1 b2 HC1
        have hneg : IntKind.i64.wrap (-(x1 : Int)) = -(x1 : Int) := by rw [IntKind.wrap_i64]; omega
        go_wp2_with fail
        have D0 := cell_later d0
        have D1 := cell_later d1
        have D2 := cell_later d2
        have D3 := cell_later c0
        have D4 := cell_later c1
        refine wp_region_calm (by kernel_rfl) (by kernel_rfl) ?_
        repeat (go_big_quiet_step (first | (go_at_call 35; with_reducible exact Calls.calm ((HC1.out _ _ _ (HL3.out _) (HZ.out _))))))
        refine wpQuiet_nil ?_
        rintro w4 ⟨⟨_, hb⟩, rfl⟩
        have kq4 : Below wr.heap.size wr w4 := (by repeat (first | (with_reducible exact Below.refl _ _) | (with_reducible assumption) | (with_reducible refine Below.drew ?_) | (with_reducible refine Below.drewN ?_) | ((with_reducible refine Below.al ?_ ?_); · first | omega | (simp; done) | (simp; omega)) | ((with_reducible refine Below.sc ?_ ?_); · first | omega | (simp; done) | (simp; omega)) | ((with_reducible refine Below.thru hb ?_ ?_); · first | omega | (simp; done) | (simp; omega)) | ((with_reducible refine Below.thru hb4 ?_ ?_); · first | omega | (simp; done) | (simp; omega)) | ((with_reducible refine Below.thru hb5 ?_ ?_); · first | omega | (simp; done) | (simp; omega))))
        have kw4 : Below w.heap.size w w4 := (by repeat (first | (with_reducible exact Below.refl _ _) | (with_reducible assumption) | (with_reducible refine Below.drew ?_) | (with_reducible refine Below.drewN ?_) | ((with_reducible refine Below.al ?_ ?_); · first | omega | (simp; done) | (simp; omega)) | ((with_reducible refine Below.sc ?_ ?_); · first | omega | (simp; done) | (simp; omega)) | ((with_reducible refine Below.thru hb ?_ ?_); · first | omega | (simp; done) | (simp; omega)) | ((with_reducible refine Below.thru hb4 ?_ ?_); · first | omega | (simp; done) | (simp; omega)) | ((with_reducible refine Below.thru hb5 ?_ ?_); · first | omega | (simp; done) | (simp; omega))))
        have sw4 := kw4.size
        clear hb
        clear D0 D1 D2 D3 D4 HL3 HZ c0 c1 d0 d1 d2
        have Sw4 := Lib.hid (SW.out.below kq4)
        have klw4 : Below w3.heap.size w3 w4 := klwr.trans (kq4.mono swr)
        clear kq4
        go_wp2_with fail
        have ya0 : w4.cell? ⟨w3.heap.size, h, none⟩ = some (.int .i64 y1) := Sw4.out.at rfl HY1.out
        have xa0 : w4.cell? (xa.add k) = some (.int .i64 xk) := (kw4.cell (block_lt_of_cell hxk :)).trans hxk
        have Ya := cell_later ya0
        have Xa := cell_later xa0
        refine wp_region_calm_tail 12 (by kernel_rfl) (by kernel_rfl) ?_; simp only [List.take_succ_cons, List.take_zero, List.drop_succ_cons, List.drop_zero]
        repeat (go_big_quiet_step (fail))
        refine wpQuiet_nil ?_
        rintro w8a ⟨⟨_, hb⟩, rfl⟩
        have kqa : Below w4.heap.size w4 w8a := (by repeat (first | (with_reducible exact Below.refl _ _) | (with_reducible assumption) | (with_reducible refine Below.drew ?_) | (with_reducible refine Below.drewN ?_) | ((with_reducible refine Below.al ?_ ?_); · first | omega | (simp; done) | (simp; omega)) | ((with_reducible refine Below.sc ?_ ?_); · first | omega | (simp; done) | (simp; omega)) | ((with_reducible refine Below.thru hb ?_ ?_); · first | omega | (simp; done) | (simp; omega)) | ((with_reducible refine Below.thru hb4 ?_ ?_); · first | omega | (simp; done) | (simp; omega)) | ((with_reducible refine Below.thru hb5 ?_ ?_); · first | omega | (simp; done) | (simp; omega))))
        have kw8a : Below w.heap.size w w8a := (by repeat (first | (with_reducible exact Below.refl _ _) | (with_reducible assumption) | (with_reducible refine Below.drew ?_) | (with_reducible refine Below.drewN ?_) | ((with_reducible refine Below.al ?_ ?_); · first | omega | (simp; done) | (simp; omega)) | ((with_reducible refine Below.sc ?_ ?_); · first | omega | (simp; done) | (simp; omega)) | ((with_reducible refine Below.thru hb ?_ ?_); · first | omega | (simp; done) | (simp; omega)) | ((with_reducible refine Below.thru hb4 ?_ ?_); · first | omega | (simp; done) | (simp; omega)) | ((with_reducible refine Below.thru hb5 ?_ ?_); · first | omega | (simp; done) | (simp; omega))))
        have sw8a := kw8a.size
        clear hb
        clear Ya Xa ya0 xa0
        have Va := Lib.hid (Sw4.out.below kqa)
        have kla : Below w3.heap.size w3 w8a := klw4.trans (kqa.mono klw4.size)
        have ya0 : w8a.cell? ⟨w3.heap.size, h, none⟩ = some (.int .i64 y1) := Va.out.at rfl HY1.out
        have ya1 := Va.out.fr.1 h
        clear kqa
        go_wp2_with fail
        refine forget (fun W_ => Own W_ w.heap.size (.slice (some ⟨w3.heap.size, 0, none⟩) C C) ((endTo FH FT x C k).set h s1) ∧ Below w.heap.size w W_ ∧ Below w3.heap.size w3 W_) ⟨OwnI.set Va.out (endTo_len _ _ _ _ _), (by repeat (first | (with_reducible exact Below.refl _ _) | (with_reducible assumption) | (with_reducible refine Below.drew ?_) | (with_reducible refine Below.drewN ?_) | ((with_reducible refine Below.al ?_ ?_); · first | omega | (simp; done) | (simp; omega)) | ((with_reducible refine Below.sc ?_ ?_); · first | omega | (simp; done) | (simp; omega)) | ((with_reducible refine Below.thru hb ?_ ?_); · first | omega | (simp; done) | (simp; omega)) | ((with_reducible refine Below.thru hb4 ?_ ?_); · first | omega | (simp; done) | (simp; omega)) | ((with_reducible refine Below.thru hb5 ?_ ?_); · first | omega | (simp; done) | (simp; omega)))), kla.setCell (Nat.le_refl _) _⟩ ?_
        rintro w5 ⟨S5, kw5, klw5⟩
        have Sw5 := Lib.hid S5
        clear S5 ya0 ya1 Va kla kw8a
        have sw5 := kw5.size
        have yb0 : w5.cell? ⟨w3.heap.size, t, none⟩ = some (.int .i64 y2) := Sw5.out.at rfl HY2.out
        have xb0 : w5.cell? (xa.add k) = some (.int .i64 xk) := (kw5.cell (block_lt_of_cell hxk :)).trans hxk
        have Yb := cell_later yb0
        have Xb := cell_later xb0
        refine wp_region_calm_tail 12 (by kernel_rfl) (by kernel_rfl) ?_; simp only [List.take_succ_cons, List.take_zero, List.drop_succ_cons, List.drop_zero]
        repeat (go_big_quiet_step (fail))
        refine wpQuiet_nil ?_
        rintro w8b ⟨⟨_, hb⟩, rfl⟩
        have kqb : Below w5.heap.size w5 w8b := (by repeat (first | (with_reducible exact Below.refl _ _) | (with_reducible assumption) | (with_reducible refine Below.drew ?_) | (with_reducible refine Below.drewN ?_) | ((with_reducible refine Below.al ?_ ?_); · first | omega | (simp; done) | (simp; omega)) | ((with_reducible refine Below.sc ?_ ?_); · first | omega | (simp; done) | (simp; omega)) | ((with_reducible refine Below.thru hb ?_ ?_); · first | omega | (simp; done) | (simp; omega)) | ((with_reducible refine Below.thru hb4 ?_ ?_); · first | omega | (simp; done) | (simp; omega)) | ((with_reducible refine Below.thru hb5 ?_ ?_); · first | omega | (simp; done) | (simp; omega))))
        have kw8b : Below w.heap.size w w8b := (by repeat (first | (with_reducible exact Below.refl _ _) | (with_reducible assumption) | (with_reducible refine Below.drew ?_) | (with_reducible refine Below.drewN ?_) | ((with_reducible refine Below.al ?_ ?_); · first | omega | (simp; done) | (simp; omega)) | ((with_reducible refine Below.sc ?_ ?_); · first | omega | (simp; done) | (simp; omega)) | ((with_reducible refine Below.thru hb ?_ ?_); · first | omega | (simp; done) | (simp; omega)) | ((with_reducible refine Below.thru hb4 ?_ ?_); · first | omega | (simp; done) | (simp; omega)) | ((with_reducible refine Below.thru hb5 ?_ ?_); · first | omega | (simp; done) | (simp; omega))))
        have sw8b := kw8b.size
        clear hb
        clear Yb Xb yb0 xb0
        have Vb := Lib.hid (Sw5.out.below kqb)
        have klb : Below w3.heap.size w3 w8b := klw5.trans (kqb.mono klw5.size)
        have yb0 : w8b.cell? ⟨w3.heap.size, t, none⟩ = some (.int .i64 y2) := Vb.out.at rfl HY2.out
        have yb1 := Vb.out.fr.1 t
        clear kqb
        go_wp2_with fail
        go_roundw
        case rel => exact ⟨k + 1, by omega, by go_num, Lib.hid (by rw [← HE2.out]; exact OwnI.set Vb.out (by rw [List.length_set, endTo_len])), klb.setCell (Nat.le_refl _) _⟩
        case measure => first | (simp [intOf]; done) | (simp [intOf]; omega)
      · obtain rfl : k = N := by omega
        go_wp2
        rw [← HGF.out]
        exact ⟨_, by rw [HC.out]; rfl, by rw [HR.out]; exact SW.out, kwr⟩
  · have H0 := Lib.hid h0
    go_wp2
    rw [← HGF.out]
    exact ⟨_, by rw [HC.out]; rfl, by unfold endR; rw [HC.out, if_neg H0.out]; exact Own.nil _ _, k1⟩

end Go.Proofs.Ytjjbaebddkejnaa
