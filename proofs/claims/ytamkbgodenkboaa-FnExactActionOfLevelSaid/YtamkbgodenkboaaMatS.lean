/- LeadByMatrix: the reference's walks. -/
import Derived.Test.YtamkbgodenkboaaMat
namespace Go.Proofs.Ytamkbgodenkboaa
open Go.RowKit

set_option maxRecDepth 8000 in
set_option maxHeartbeats 400000 in
theorem l01Mod_any (a n : Int) (w : World) (hn : 1 ≤ n) (hn2 : n ≤ 1000000000) :
    Calls Try.prog 128 #[.int .i64 a, .int .i64 n] w fun e w' => e = .returned (.int .i64 (a % n)) ∧ Below w.heap.size w w' := by
  have hb := tmod_bd a n hn
  have HR := Lib.hid (show (a.tmod n + n) % n = a % n by rw [← Int.tmod_eq_emod_of_nonneg (by omega)]; exact rest_eq a n hn)
  go_enter Try.func128, Try.ntmps128
  go_wp2
  go_ret
  exact ⟨ret_int HR.out, (by repeat (first | (with_reducible exact Below.refl _ _) | (with_reducible assumption) | (with_reducible refine Below.drew ?_) | (with_reducible refine Below.drewN ?_) | ((with_reducible refine Below.al ?_ ?_); · first | omega | (simp; done) | (simp; omega)) | ((with_reducible refine Below.sc ?_ ?_); · first | omega | (simp; done) | (simp; omega)) | ((with_reducible refine Below.thru hb ?_ ?_); · first | omega | (simp; done) | (simp; omega))))⟩

set_option maxRecDepth 8000 in
set_option maxHeartbeats 1500000 in
theorem l10Lead_any (s t : Value) (S T : List Int) (m : M) (n p : Nat) (w : World) (h : SlIn w .i64 s S ∧ SlIn w .i64 t T) (hS : permB S n) (hT : permB T n) (hpn : p < n) (hn : n ≤ 72) (hm : chOK m) :
    Calls Try.prog 97 #[.agg #[s, t], .agg #[.int .i64 m.a, .int .i64 m.b, .int .i64 m.c, .int .i64 m.d], .int .i64 (p : Int)] w fun e w' => ∃ k, e = .returned (.int .i64 (ldAt S T n (chL m k) p (chL m k).length : Nat)) ∧ ChEnds m k ∧ Below w.heap.size w w' := by
  obtain ⟨sa, sc, rfl, hA⟩ := perm_open h.1 hS (by omega)
  obtain ⟨ta, tc, rfl, hB⟩ := perm_open h.2 hT (by omega)
  have HA := Lib.hid hA
  have HB := Lib.hid hB
  have HS := Lib.hid hS
  have HT := Lib.hid hT
  have HG := Lib.hid (show ∀ a, a < n → fn T a < n from fun a h => fn_lt hT h)
  have HJ := Lib.hid (perm_inj hT)
  clear h hS hT hA hB
  go_enter Try.func97, Try.ntmps97
  go_wp2_with fail
  refine (l02Chain_any m _ hm).mono ?_
  rintro e w4 ⟨v, ke, rfl, hke, O, hb⟩
  have HKE := Lib.hid hke
  change Own w4 _ v (chL m ke) at O
  generalize (chM m ke).a = sg
  generalize hxs : chL m ke = xs at *
  replace hxs := Lib.hid hxs
  obtain ⟨xo, xc, hx, hxa⟩ := O.slIn.form
  subst hx
  have B4 : Blk w4 w.heap.size 27 #[.slice (some sa) n sc, .slice (some ta) n tc] := (by repeat (first | (with_reducible assumption) | ((with_reducible refine Blk.new ?_); · first | omega | (simp; done) | (simp; omega)) | (with_reducible apply Blk.set4) | (with_reducible apply Blk.set3) | (with_reducible apply Blk.set2) | ((with_reducible refine Blk.put ?_ ?_); · first | omega | (simp; omega)) | (with_reducible refine Blk.old ?_) | (with_reducible refine Blk.drew ?_) | (with_reducible refine Blk.drewN ?_) | ((with_reducible refine Blk.below hb ?_ ?_); · first | omega | (simp; done) | (simp; omega))))
  have kw4 : Below w.heap.size w w4 := (by repeat (first | (with_reducible exact Below.refl _ _) | (with_reducible assumption) | (with_reducible refine Below.drew ?_) | (with_reducible refine Below.drewN ?_) | ((with_reducible refine Below.al ?_ ?_); · first | omega | (simp; done) | (simp; omega)) | ((with_reducible refine Below.sc ?_ ?_); · first | omega | (simp; done) | (simp; omega)) | ((with_reducible refine Below.thru hb ?_ ?_); · first | omega | (simp; done) | (simp; omega))))
  have sw4 := kw4.size
  have lB4 := B4.lt
  have HXA := Lib.hid hxa
  have hxl : xs.length ≤ maxLen := O.slIn.le
  unfold maxLen at hxl
  have H4 := Lib.hid (And.intro B4 kw4)
  clear hb O hxa B4 kw4
  go_wp2
  go_loopw [2, 9] (fun x k wr => ∃ j : Nat, j ≤ xs.length ∧ k = .int .i64 j ∧ x = .int .i64 (ldAt S T n xs p j : Nat) ∧ Below w4.heap.size w4 wr) (fun _ k _ => xs.length - (intOf k).toNat)
  case atStart => exact ⟨0, Nat.zero_le _, rfl, rfl, (by repeat (first | (with_reducible exact Below.refl _ _) | (with_reducible assumption) | (with_reducible refine Below.drew ?_) | (with_reducible refine Below.drewN ?_) | ((with_reducible refine Below.al ?_ ?_); · first | omega | (simp; done) | (simp; omega)) | ((with_reducible refine Below.sc ?_ ?_); · first | omega | (simp; done) | (simp; omega)) | ((with_reducible refine Below.thru hb ?_ ?_); · first | omega | (simp; done) | (simp; omega))))⟩
  case round =>
    obtain ⟨j, hj, rfl, rfl, kw5⟩ := hrel
    have sw5 := kw5.size
    have B5 : Blk wr w.heap.size 27 #[.slice (some sa) n sc, .slice (some ta) n tc] := H4.out.1.below kw5 (by omega)
    have k5 : Below w.heap.size w wr := Below.thru kw5 (by omega) H4.out.2
    have b5 := B5.p2
    have lB5 := B5.lt
    by_cases hjl : j < xs.length
    · obtain ⟨xad, rfl, hxc⟩ := HXA.out (by omega)
      have HXQ := Lib.hid (hxc j hjl)
      have HN := Lib.hid (show ldAt S T n xs p (j + 1) = it (fn T) (xs.getD j 0 % (per (fn T) (if j = 0 then ldAt S T n xs p j else fn S (ldAt S T n xs p j)) n : Int)).toNat (if j = 0 then ldAt S T n xs p j else fn S (ldAt S T n xs p j)) from rfl)
      have hpl := ldAt_lt (xs := xs) HS.out HT.out hpn j
      have hgd : xs.getD j 0 = xs[j] := by rw [List.getD, List.getElem?_eq_getElem hjl]; rfl
      rw [hgd] at HN
      generalize xs[j] = q at *
      generalize ldAt S T n xs p j = x at *
      have j0 : (0 : Int) ≤ (j : Int) := by omega
      have j1 : (j : Int) < (xs.length : Int) := by omega
      have K := Lib.hid (And.intro B5 (And.intro k5 kw5))
      clear hxc hgd
      obtain ⟨y, hy⟩ : ∃ y, (if j = 0 then x else fn S x) = y := ⟨_, rfl⟩
      have hyl : y < n := by
        rw [← hy]
        split
        · exact hpl
        · exact fn_lt HS.out hpl
      rw [hy] at HN
      have cs : wr.cell? (sa.add x) = some (.int .i64 (fn S x : Int)) := by
        have e := HA.out x hpl
        rw [k5.cell (block_lt_of_cell e :)]
        exact e
      have ct : wr.cell? (ta.add y) = some (.int .i64 (fn T y : Int)) := by
        have e := HB.out y hyl
        rw [k5.cell (block_lt_of_cell e :)]
        exact e
      have x0 : (0 : Int) ≤ (x : Int) := by omega
      have x1 : (x : Int) < (n : Int) := by omega
      have y0 : (0 : Int) ≤ (y : Int) := by omega
      have y1 : (y : Int) < (n : Int) := by omega
      have HPER := Lib.hid (per_spec HG.out HJ.out hyl)
      have hP1 := HPER.out.one
      have hP2 := per_le HG.out HJ.out hyl
      obtain ⟨R, hR0⟩ : ∃ R : Nat, q % (per (fn T) y n : Int) = (R : Int) := ⟨(q % (per (fn T) y n : Int)).toNat, by
        have := Int.emod_nonneg q (show (per (fn T) y n : Int) ≠ 0 by omega)
        omega⟩
      have HRR := Lib.hid hR0
      have HTR := Lib.hid (show it (fn T) (q % (per (fn T) y n : Int)).toNat y = it (fn T) R y by rw [hR0]; rfl)
      have hRb : R ≤ 72 := by
        have := Int.emod_lt_of_pos q (show (0 : Int) < (per (fn T) y n : Int) by omega)
        omega
      clear hR0
      generalize per (fn T) y n = P at *
      by_cases hz : j = 0
      · have hyx : x = y := by rwa [if_pos hz] at hy
        clear hy
        subst hz
        subst hyx
        clear cs
        go_wp2_with fail
        go_loopg [10, 11] (P - 1) (fun g s10 s11 wr => ∃ c : Nat, 1 ≤ c ∧ c + g = P ∧ s10 = .int .i64 (c : Int) ∧ s11 = .int .i64 (it (fn T) c x : Nat) ∧ Below w4.heap.size w4 wr)
        case atStart => exact ⟨1, by omega, by omega, rfl, rfl, kw5⟩
        case round =>
          clear b5 B5 k5 lB5 sw5 ct
          obtain ⟨c, hc1, hcg, rfl, rfl, kw6⟩ := hrel
          have sw6 := kw6.size
          have B6 : Blk wr w.heap.size 27 #[.slice (some sa) n sc, .slice (some ta) n tc] := H4.out.1.below kw6 (by omega)
          have k6 : Below w.heap.size w wr := Below.thru kw6 (by omega) H4.out.2
          have b6 := B6.p2
          have hcl := it_lt HG.out hyl c
          have HIC := Lib.hid (show it (fn T) (c + 1) x = fn T (it (fn T) c x) from rfl)
          have HNR := Lib.hid (fun (h : c < P) => HPER.out.no c hc1 h)
          have HRT := Lib.hid (fun (h : c = P) => h ▸ HPER.out.ret)
          have cc : wr.cell? (ta.add (it (fn T) c x)) = some (.int .i64 (fn T (it (fn T) c x) : Int)) := by
            have e := HB.out _ hcl
            rw [k6.cell (block_lt_of_cell e :)]
            exact e
          have cq : wr.cell? (xad.add 0) = some (.int .i64 q) := by
            have e := HXQ.out
            rw [kw6.cell (block_lt_of_cell e :)]
            exact e
          generalize hcv : it (fn T) c x = v at *
          replace hcv := Lib.hid hcv
          have v0 : (0 : Int) ≤ (v : Int) := by omega
          have v1 : (v : Int) < (n : Int) := by omega
          cases hvy : (((v : Nat) : Int) != ((x : Nat) : Int)) with
          | true =>
            have hlt : c < P := by
              by_cases h : c < P
              · exact h
              · exact absurd (HRT.out (by omega)) (nat_ne hvy)
            have KK := Lib.hid kw6
            clear B6 k6 kw6 cq
            go_wp2
            go_roundg (gk - 1)
            case rel => exact ⟨c + 1, by omega, by omega, by go_num, by rw [HIC.out], KK.out⟩
            case measure => omega
          | false =>
            have hcP : c = P := by
              by_cases h : c < P
              · exact absurd (nat_eq hvy) (HNR.out h)
              · omega
            have KK := Lib.hid kw6
            clear B6 k6 kw6 cc
            subst hcP
            clear hcl
            rw [Addr.add_zero'] at cq
            go_wp2_with fail
            refine (l01Mod_any q c _ (by omega) (by omega)).mono ?_
            rw [HRR.out]
            rintro e w7 ⟨rfl, hb⟩
            have kw7 : Below w4.heap.size w4 w7 := by have kk := KK.out; exact (by repeat (first | (with_reducible exact Below.refl _ _) | (with_reducible assumption) | (with_reducible refine Below.drew ?_) | (with_reducible refine Below.drewN ?_) | ((with_reducible refine Below.al ?_ ?_); · first | omega | (simp; done) | (simp; omega)) | ((with_reducible refine Below.sc ?_ ?_); · first | omega | (simp; done) | (simp; omega)) | ((with_reducible refine Below.thru hb ?_ ?_); · first | omega | (simp; done) | (simp; omega))))
            clear hb
            go_wp2_with fail
            go_loopg [2, 12] R (fun g s2 s12 wr => ∃ z : Nat, z + g = R ∧ s2 = .int .i64 (it (fn T) z x : Nat) ∧ s12 = .int .i64 (g : Int) ∧ Below w4.heap.size w4 wr)
            case atStart => exact ⟨0, by omega, rfl, rfl, kw7⟩
            case round =>
              obtain ⟨z, hzg, rfl, rfl, kw8⟩ := hrel
              have sw8 := kw8.size
              have B8 : Blk wr w.heap.size 27 #[.slice (some sa) n sc, .slice (some ta) n tc] := H4.out.1.below kw8 (by omega)
              have k8 : Below w.heap.size w wr := Below.thru kw8 (by omega) H4.out.2
              have b8 := B8.p2
              have hzl := it_lt HG.out hyl z
              have HIZ := Lib.hid (show it (fn T) (z + 1) x = fn T (it (fn T) z x) from rfl)
              have HEND := Lib.hid (fun (h : z = R) => (show ldAt S T n xs p (0 + 1) = it (fn T) z x by rw [HN.out, h]; exact HTR.out))
              have cz : wr.cell? (ta.add (it (fn T) z x)) = some (.int .i64 (fn T (it (fn T) z x) : Int)) := by
                have e := HB.out _ hzl
                rw [k8.cell (block_lt_of_cell e :)]
                exact e
              generalize hzv : it (fn T) z x = v2 at *
              replace hzv := Lib.hid hzv
              have v2a : (0 : Int) ≤ (v2 : Int) := by omega
              have v2b : (v2 : Int) < (n : Int) := by omega
              have KL := Lib.hid kw8
              clear B8 k8 kw8
              by_cases hg0 : gk = 0
              · have HE2 := Lib.hid (HEND.out (by omega))
                subst hg0
                go_wp2
                go_roundw
                case rel => exact ⟨0 + 1, by omega, rfl, by rw [HE2.out], KL.out⟩
                case measure => simp [intOf]; omega
              · have hg1 : (0 : Int) < (gk : Int) := by omega
                go_wp2
                go_roundg (gk - 1)
                case rel => exact ⟨z + 1, by omega, by rw [HIZ.out], by go_num, KL.out⟩
                case measure => omega
      · have hyx : fn S x = y := by rwa [if_neg hz] at hy
        have hz2 : (0 : Int) < (j : Int) := by omega
        rw [hyx] at cs
        clear hy hyx
        go_wp2_with fail
        go_loopg [10, 11] (P - 1) (fun g s10 s11 wr => ∃ c : Nat, 1 ≤ c ∧ c + g = P ∧ s10 = .int .i64 (c : Int) ∧ s11 = .int .i64 (it (fn T) c y : Nat) ∧ Below w4.heap.size w4 wr)
        case atStart => exact ⟨1, by omega, by omega, rfl, rfl, kw5⟩
        case round =>
          clear b5 B5 k5 lB5 sw5 ct cs
          obtain ⟨c, hc1, hcg, rfl, rfl, kw6⟩ := hrel
          have sw6 := kw6.size
          have B6 : Blk wr w.heap.size 27 #[.slice (some sa) n sc, .slice (some ta) n tc] := H4.out.1.below kw6 (by omega)
          have k6 : Below w.heap.size w wr := Below.thru kw6 (by omega) H4.out.2
          have b6 := B6.p2
          have hcl := it_lt HG.out hyl c
          have HIC := Lib.hid (show it (fn T) (c + 1) y = fn T (it (fn T) c y) from rfl)
          have HNR := Lib.hid (fun (h : c < P) => HPER.out.no c hc1 h)
          have HRT := Lib.hid (fun (h : c = P) => h ▸ HPER.out.ret)
          have cc : wr.cell? (ta.add (it (fn T) c y)) = some (.int .i64 (fn T (it (fn T) c y) : Int)) := by
            have e := HB.out _ hcl
            rw [k6.cell (block_lt_of_cell e :)]
            exact e
          have cq : wr.cell? (xad.add j) = some (.int .i64 q) := by
            have e := HXQ.out
            rw [kw6.cell (block_lt_of_cell e :)]
            exact e
          generalize hcv : it (fn T) c y = v at *
          replace hcv := Lib.hid hcv
          have v0 : (0 : Int) ≤ (v : Int) := by omega
          have v1 : (v : Int) < (n : Int) := by omega
          cases hvy : (((v : Nat) : Int) != ((y : Nat) : Int)) with
          | true =>
            have hlt : c < P := by
              by_cases h : c < P
              · exact h
              · exact absurd (HRT.out (by omega)) (nat_ne hvy)
            have KK := Lib.hid kw6
            clear B6 k6 kw6 cq
            go_wp2
            go_roundg (gk - 1)
            case rel => exact ⟨c + 1, by omega, by omega, by go_num, by rw [HIC.out], KK.out⟩
            case measure => omega
          | false =>
            have hcP : c = P := by
              by_cases h : c < P
              · exact absurd (nat_eq hvy) (HNR.out h)
              · omega
            have KK := Lib.hid kw6
            clear B6 k6 kw6 cc
            subst hcP
            clear hcl
            go_wp2_with fail
            refine (l01Mod_any q c _ (by omega) (by omega)).mono ?_
            rw [HRR.out]
            rintro e w7 ⟨rfl, hb⟩
            have kw7 : Below w4.heap.size w4 w7 := by have kk := KK.out; exact (by repeat (first | (with_reducible exact Below.refl _ _) | (with_reducible assumption) | (with_reducible refine Below.drew ?_) | (with_reducible refine Below.drewN ?_) | ((with_reducible refine Below.al ?_ ?_); · first | omega | (simp; done) | (simp; omega)) | ((with_reducible refine Below.sc ?_ ?_); · first | omega | (simp; done) | (simp; omega)) | ((with_reducible refine Below.thru hb ?_ ?_); · first | omega | (simp; done) | (simp; omega))))
            clear hb
            go_wp2_with fail
            go_loopg [2, 12] R (fun g s2 s12 wr => ∃ z : Nat, z + g = R ∧ s2 = .int .i64 (it (fn T) z y : Nat) ∧ s12 = .int .i64 (g : Int) ∧ Below w4.heap.size w4 wr)
            case atStart => exact ⟨0, by omega, rfl, rfl, kw7⟩
            case round =>
              obtain ⟨z, hzg, rfl, rfl, kw8⟩ := hrel
              have sw8 := kw8.size
              have B8 : Blk wr w.heap.size 27 #[.slice (some sa) n sc, .slice (some ta) n tc] := H4.out.1.below kw8 (by omega)
              have k8 : Below w.heap.size w wr := Below.thru kw8 (by omega) H4.out.2
              have b8 := B8.p2
              have hzl := it_lt HG.out hyl z
              have HIZ := Lib.hid (show it (fn T) (z + 1) y = fn T (it (fn T) z y) from rfl)
              have HEND := Lib.hid (fun (h : z = R) => (show ldAt S T n xs p (j + 1) = it (fn T) z y by rw [HN.out, h]; exact HTR.out))
              have cz : wr.cell? (ta.add (it (fn T) z y)) = some (.int .i64 (fn T (it (fn T) z y) : Int)) := by
                have e := HB.out _ hzl
                rw [k8.cell (block_lt_of_cell e :)]
                exact e
              generalize hzv : it (fn T) z y = v2 at *
              replace hzv := Lib.hid hzv
              have v2a : (0 : Int) ≤ (v2 : Int) := by omega
              have v2b : (v2 : Int) < (n : Int) := by omega
              have KL := Lib.hid kw8
              clear B8 k8 kw8
              by_cases hg0 : gk = 0
              · have HE2 := Lib.hid (HEND.out (by omega))
                subst hg0
                go_wp2
                go_roundw
                case rel => exact ⟨j + 1, by omega, by go_num, by rw [HE2.out], KL.out⟩
                case measure => simp [intOf]; omega
              · have hg1 : (0 : Int) < (gk : Int) := by omega
                go_wp2
                go_roundg (gk - 1)
                case rel => exact ⟨z + 1, by omega, by rw [HIZ.out], by go_num, KL.out⟩
                case measure => omega
    · obtain rfl : j = xs.length := by omega
      go_wp2
      go_ret
      exact ⟨ke, by rw [hxs.out]; rfl, HKE.out, k5⟩

end Go.Proofs.Ytamkbgodenkboaa
