/- Free words: the program's walk. -/
import Derived.Test.YtcapmljnhflopaaPut
import Derived.Test.YtcapmljnhflopaaChainW
import Derived.Test.Ytcapmljnhflopaa01c
namespace Go.Proofs.Ytcapmljnhflopaa
open Go.RowKit
set_option linter.unusedSimpArgs false

theorem ch_num {m : M} {k : Nat} (h : chOK m) (he : ChEnds m k) (j : Nat) (hj : j < k + 1) : -4000000000 ≤ (chAll m k).getD j 0 ∧ (chAll m k).getD j 0 ≤ 4000000000 := by
  by_cases e : j < k
  · rw [chAll_get e]
    have h1 := (chM_ok h j (fun l hl => he.1 l (by omega))).1
    have hc := he.1 j e
    obtain ⟨-, ha, -, hcb, -⟩ := h1
    have := flr_bd (a := 2 * (chM m j).a + (chM m j).c) (b := 2 * (chM m j).c) (by omega) (by omega)
    unfold chQ1
    omega
  · obtain rfl : j = k := by omega
    have h1 := (chM_ok h j (fun l hl => he.1 l hl)).1
    have hc := he.2
    unfold chAll
    rw [List.getD, List.getElem?_append_right (by rw [chQs_len]; omega), chQs_len, Nat.sub_self]
    simp only [List.getElem?_cons_zero, Option.getD_some]
    obtain ⟨hd, ha, hb, -, -⟩ := h1
    unfold M.det at hd
    rw [hc, Int.mul_zero, Int.sub_zero] at hd
    have : (chM m j).a = 1 ∨ (chM m j).a = -1 := by
      have h5 : (chM m j).a.natAbs * (chM m j).d.natAbs = 1 := by rw [← Int.natAbs_mul, hd]; rfl
      have := Nat.eq_one_of_mul_eq_one_right h5
      omega
    rcases this with h | h <;> rw [h] <;> omega
theorem sumA_le {qs : List Int} {k : Nat} (h : ∀ j, j < k → (qs.getD j 0).natAbs ≤ 200) : sumA qs k ≤ 200 * k := by
  induction k with
  | zero => exact Nat.le_refl _
  | succ k ih =>
    have := ih fun j hj => h j (by omega)
    have := h k (by omega)
    simp only [sumA]
    omega
theorem fwTo_200 {qs : List Int} {k : Nat} (hk : k ≤ 40) (h : ∀ j, j < k → (qs.getD j 0).natAbs ≤ 200) : (fwTo qs k).length ≤ 20000 := by
  have h1 := sumA_le h
  have h2 := fwTo_len qs k
  omega
theorem resF_long {qs : List Int} (h : 200 < (freeL qs).length) : resF qs = (⟨#[]⟩, 3) := by unfold resF; rw [if_pos h]
theorem resF_ok {qs : List Int} (h : ¬ 200 < (freeL qs).length) : resF qs = (⟨(freeL qs).toArray⟩, 0) := by unfold resF; rw [if_neg h]
theorem string_back {w : World} {B g cap n : Nat} {l : List UInt8} (O : OwnK encB 5 w B (.slice (some ⟨g, 0, none⟩) n cap) l) : ∀ j (hj : j < l.length), w.cell? ((⟨g, 0, none⟩ : Addr).add j) = some (.int .u8 (l[j].toNat : Int)) := fun j hj => by
  have q := OwnK.at (j := j) (i := 0) O rfl (List.getElem?_eq_getElem hj) rfl
  rw [show (⟨g, 0, none⟩ : Addr).add j = ⟨g, j, none⟩ by simp [Addr.add]; exact Eq.symm]
  simpa [encB] using q
/-- What FreeWord gives. -/
def GivesF (m : M) (w : World) (e : Ending) (w' : World) : Prop := (∃ k, ChEnds m k ∧ e = .returned (.tuple #[.string (resF (chAll m k)).1, .int .i64 (resF (chAll m k)).2])) ∧ Below w.heap.size w w'

set_option maxRecDepth 8000 in
set_option maxHeartbeats 4000000 in
theorem FreeWord_in (m : M) (w : World) (h : m.ok = true) :
    Calls Try.prog 6 #[.agg #[.int .i64 m.a, .int .i64 m.b, .int .i64 m.c, .int .i64 m.d]] w (GivesF m w) := by
  have HCH := Lib.hid (M.ok_ch h)
  go_enter Try.func6, Try.ntmps6
  go_wp2_with fail
  refine (IsMatrix_any m _).mono ?_
  rw [h]
  rintro e w1 ⟨rfl, hb⟩
  have B1 : Blk w1 w.heap.size 25 (mcs m) := (by repeat (first | (with_reducible assumption) | ((with_reducible refine Blk.new ?_); · first | omega | (simp; done) | (simp; omega)) | (with_reducible apply Blk.set4) | (with_reducible apply Blk.set3) | (with_reducible apply Blk.set2) | ((with_reducible refine Blk.put ?_ ?_); · first | omega | (simp; omega)) | (with_reducible refine Blk.old ?_) | (with_reducible refine Blk.drew ?_) | (with_reducible refine Blk.drewN ?_) | ((with_reducible refine Blk.below hb ?_ ?_); · first | omega | (simp; done) | (simp; omega))))
  have k1 : Below w.heap.size w w1 := (by repeat (first | (with_reducible exact Below.refl _ _) | (with_reducible assumption) | (with_reducible refine Below.drew ?_) | (with_reducible refine Below.drewN ?_) | ((with_reducible refine Below.al ?_ ?_); · first | omega | (simp; done) | (simp; omega)) | ((with_reducible refine Below.sc ?_ ?_); · first | omega | (simp; done) | (simp; omega)) | ((with_reducible refine Below.thru hb ?_ ?_); · first | omega | (simp; done) | (simp; omega))))
  have s1 := k1.size
  have b1 := B1.m
  clear hb h
  go_wp2_with fail
  refine (chain_any m _ HCH.out).mono ?_
  rintro e w2 ⟨v, kk, rfl, he, O, hb⟩
  have k2 : Below w.heap.size w w2 := (by repeat (first | (with_reducible exact Below.refl _ _) | (with_reducible assumption) | (with_reducible refine Below.drew ?_) | (with_reducible refine Below.drewN ?_) | ((with_reducible refine Below.al ?_ ?_); · first | omega | (simp; done) | (simp; omega)) | ((with_reducible refine Below.sc ?_ ?_); · first | omega | (simp; done) | (simp; omega)) | ((with_reducible refine Below.thru hb ?_ ?_); · first | omega | (simp; done) | (simp; omega))))
  have s2 := k2.size
  have HE := Lib.hid he
  have hk31 := ch_short HCH.out he
  have HNUM := Lib.hid (fun j hj => ch_num HCH.out he j hj)
  have HLONG := Lib.hid (fun hg => resF_long (free_long (ch_inner HCH.out he) (by rw [chAll_len]; omega) hg))
  have HL := Lib.hid (show (chAll m kk).length = kk + 1 from chAll_len m kk)
  have O' : Own w2 w.heap.size v (chAll m kk) := O.mono (by first | omega | (simp; omega))
  clear hb B1 b1 k1 O he
  obtain ⟨vo, vc, hv, -⟩ := O'.slIn.form
  have hlist : 0 < kk + 1 → ∃ a : Addr, vo = some a ∧ a.block < w2.heap.size ∧ ∀ j, j < kk + 1 → w2.cell? (a.add j) = some (.int .i64 ((chAll m kk).getD j 0)) := fun _ => by
    obtain ⟨ao, c, hv2, hx⟩ := O'.slIn.form
    rw [hv] at hv2
    simp only [Value.slice.injEq, true_and] at hv2
    obtain ⟨rfl, rfl⟩ := hv2
    obtain ⟨a, ha, hxa⟩ := hx (by rw [HL.out]; omega)
    refine ⟨a, ha, ?_, fun j hj => ?_⟩
    · have := hxa 0 (by rw [HL.out]; omega)
      have := block_lt_of_cell this
      exact this
    · have := hxa j (by rw [HL.out]; omega)
      rw [this, List.getD, List.getElem?_eq_getElem (by rw [HL.out]; omega)]
      rfl
  rw [HL.out] at hv
  obtain ⟨a, rfl, hab, hcells⟩ := hlist (by omega)
  have HCELL := Lib.hid hcells
  subst hv
  have hex : ∀ r, resF (chAll m kk) = r → ∀ w', Below w.heap.size w w' → GivesF m w (.returned (.tuple #[.string r.1, .int .i64 r.2])) w' := fun r hr w' hb => ⟨⟨kk, HE.out, by rw [hr]⟩, hb⟩
  have HEX := Lib.hid hex
  clear hex hcells O' hlist
  generalize GivesF m w = GF at *
  have HFREE := Lib.hid (show freeL (chAll m kk) = fwTo (chAll m kk) (kk + 1) by unfold freeL; rw [HL.out])
  generalize chAll m kk = qs at *
  generalize (chM m kk).a = ca at *
  go_wp2_with fail
  refine forget (fun W_ => OwnK encB 5 W_ w2.heap.size (.slice (some ⟨w2.heap.size, 0, none⟩) 0 0) [] ∧ Below w2.heap.size w2 W_) ⟨OwnK.of_blk (xs := []) (cs := #[]) (Blk.new rfl) (Nat.le_refl _) rfl (by simp [maxLen]), (by repeat (first | (with_reducible exact Below.refl _ _) | (with_reducible assumption) | (with_reducible refine Below.drew ?_) | (with_reducible refine Below.drewN ?_) | ((with_reducible refine Below.al ?_ ?_); · first | omega | (simp; done) | (simp; omega)) | ((with_reducible refine Below.sc ?_ ?_); · first | omega | (simp; done) | (simp; omega)) | ((with_reducible refine Below.thru hb ?_ ?_); · first | omega | (simp; done) | (simp; omega))))⟩ ?_
  rintro w3 ⟨O3, k3⟩
  go_loopw [6, 20] (fun v ii wr => ∃ i : Nat, i ≤ kk + 1 ∧ ii = .int .i64 i ∧ Hid (∀ j, j < i → (qs.getD j 0).natAbs ≤ 200) ∧ OwnK encB 5 wr w2.heap.size v (fwTo qs i) ∧ Below w2.heap.size w2 wr) (fun _ ii _ => kk + 1 - (intOf ii).toNat)
  case atStart => exact ⟨0, Nat.zero_le _, rfl, Lib.hid (fun j hj => absurd hj (by omega)), O3, k3⟩
  case round =>
    clear O3 k3
    obtain ⟨i, hi, rfl, hall, O, kwr⟩ := hrel
    obtain ⟨po, pc, rfl⟩ := O.len
    have swr := kwr.size
    by_cases hlt : i < kk + 1
    · have i0 : (0 : Int) ≤ (i : Int) := by omega
      have i1 : (i : Int) < (kk : Int) + 1 := by omega
      have cq : wr.cell? (a.add i) = some (.int .i64 (qs.getD i 0)) := by
        have e := HCELL.out i hlt
        rw [kwr.cell (block_lt_of_cell e :)]
        exact e
      have hnum := HNUM.out i hlt
      have HLG := Lib.hid (fun (hg : 200 < (qs.getD i 0).natAbs) => HLONG.out (.inl ⟨i, by rw [HL.out]; exact hlt, hg⟩))
      have HST := Lib.hid (show fwTo qs (i + 1) = stL i (qs.getD i 0) (fwTo qs i) from rfl)
      have HAL := Lib.hid (fun (hq : (qs.getD i 0).natAbs ≤ 200) => (show ∀ j, j < i + 1 → (qs.getD j 0).natAbs ≤ 200 from fun j hj => if e : j < i then hall.out j e else by
        obtain rfl : j = i := by omega
        exact hq))
      have hlen := fwTo_200 (qs := qs) (k := i) (by omega) hall.out
      generalize qs.getD i 0 = q at *
      generalize fwTo qs i = L at *
      obtain ⟨N, hN⟩ : ∃ N, L.length = N := ⟨_, rfl⟩
      rw [hN] at hlen
      replace hN := Lib.hid hN
      by_cases hbig : 200 < q.natAbs
      · have HR := Lib.hid (HLG.out hbig)
        have hq2 : (200 : Int) < (q.natAbs : Int) := by omega
        have kf : Below w.heap.size w wr := Below.thru kwr s2 k2
        go_wp2_with fail
        refine (size_any q _ (by omega) (by omega)).mono ?_
        rintro e w' ⟨rfl, rfl⟩
        go_wp2
        exact HEX.out _ HR.out _ kf
      · have hq2 : ¬ (200 : Int) < (q.natAbs : Int) := by omega
        have HAL2 := Lib.hid (HAL.out (by omega))
        clear HAL HLG

        by_cases hi0 : 0 < i
        · have hi0' : (0 : Int) < (i : Int) := by omega
          have HI0 := Lib.hid (show (if 0 < i then putL L 83 else L) = putL L 83 by rw [if_pos hi0])
          have hp0 := putL_len L 83
          have hl : Hid ((putL L 83).length ≤ 20001) := Lib.hid (by have := hN.out; omega)
          have hl0 : L.length < 1000000 := by have := hN.out; omega
          clear hp0
          go_wp2_with fail
          refine (size_any q _ (by omega) (by omega)).mono ?_
          rintro e w' ⟨rfl, rfl⟩
          go_wp2_with fail
          refine (implPut_any 83 _ L w2 _ kwr O hl0).mono ?_
          rintro e w4 ⟨v4, rfl, O4, k4⟩
          obtain ⟨qo, qc, rfl⟩ := O4.len
          clear O kwr hl0
          by_cases hpos : 0 < q
          · obtain ⟨n, rfl⟩ : ∃ n : Nat, q = (n : Int) := ⟨q.toNat, by omega⟩
            have HT := Lib.hid (show fwTo qs (i + 1) = usL n (putL L 83) by rw [HST.out]; unfold stL; rw [if_pos hpos, HI0.out]; rfl)
            go_wp2_with fail
            go_loopw [6, 8] (fun v qq wx => ∃ r : Nat, ∃ L2 : List UInt8, r ≤ n ∧ qq = .int .i64 r ∧ Hid (usL r L2 = usL n (putL L 83)) ∧ L2.length + 2 * r ≤ 21000 ∧ OwnK encB 5 wx w2.heap.size v L2 ∧ Below w2.heap.size w2 wx) (fun _ qq _ => (intOf qq).toNat)
            case atStart => exact ⟨n, (putL L 83), Nat.le_refl _, rfl, Lib.hid rfl, by have := hl.out; omega, O4, k4⟩
            case round =>
              clear O4 k4
              obtain ⟨r, L2, hr, rfl, HU, hL2, OX, kx⟩ := hrel
              obtain ⟨xo, xc, rfl⟩ := OX.len
              have sx := kx.size
              by_cases hr0 : 0 < r
              · obtain ⟨r, rfl⟩ : ∃ r', r = r' + 1 := ⟨r - 1, by omega⟩
                have HU2 := Lib.hid (show usL r (putL (putL L2 85) 83) = usL n (putL L 83) from HU.out)
                have hp1 := putL_len L2 85
                have hp2 := putL_len (putL L2 85) 83
                clear HU
                go_wp2_with fail
                refine (implPut_any 85 _ L2 w2 _ kx OX (by omega)).mono ?_
                rintro e wy ⟨vy, rfl, OY, ky⟩
                obtain ⟨yo, yc, rfl⟩ := OY.len
                clear OX kx
                go_wp2_with fail
                refine (implPut_any 83 _ (putL L2 85) w2 _ ky OY (by omega)).mono ?_
                rintro e wz ⟨vz, rfl, OZ, kz⟩
                obtain ⟨zo, zc, rfl⟩ := OZ.len
                clear OY ky
                go_wp2
                go_roundw
                case rel => exact ⟨r, _, by omega, by go_num, HU2, by omega, OZ, kz⟩
                case measure => first | (simp [intOf]; done) | (simp [intOf]; omega)
              · obtain rfl : r = 0 := by omega
                have HD := Lib.hid (show fwTo qs (i + 1) = L2 by rw [HT.out, ← HU.out]; rfl)
                go_wp2_with fail
                refine wp_loop_rounds 1 ?_
                rw [rounds_succ]
                go_wp2
                go_roundw
                case rel => exact ⟨i + 1, by omega, by go_num, HAL2, by rw [HD.out]; exact OX, kx⟩
                case measure => simp [intOf]; omega
          · obtain ⟨n, rfl⟩ : ∃ n : Nat, q = -(n : Int) := ⟨(-q).toNat, by omega⟩
            have HT := Lib.hid (show fwTo qs (i + 1) = svL n (putL L 83) by rw [HST.out]; unfold stL; rw [if_neg hpos, HI0.out, Int.neg_neg]; rfl)
            go_wp2_with fail
            refine wp_loop_rounds 1 ?_
            rw [rounds_succ]
            go_wp2_with fail
            go_loopw [6, 8] (fun v qq wx => ∃ r : Nat, ∃ L2 : List UInt8, r ≤ n ∧ qq = .int .i64 (-(r : Int)) ∧ Hid (svL r L2 = svL n (putL L 83)) ∧ L2.length + 2 * r ≤ 21000 ∧ OwnK encB 5 wx w2.heap.size v L2 ∧ Below w2.heap.size w2 wx) (fun _ qq _ => (-(intOf qq)).toNat)
            case atStart => exact ⟨n, (putL L 83), Nat.le_refl _, rfl, Lib.hid rfl, by have := hl.out; omega, O4, k4⟩
            case round =>
              clear O4 k4
              obtain ⟨r, L2, hr, rfl, HU, hL2, OX, kx⟩ := hrel
              obtain ⟨xo, xc, rfl⟩ := OX.len
              have sx := kx.size
              by_cases hr0 : 0 < r
              · obtain ⟨r, rfl⟩ : ∃ r', r = r' + 1 := ⟨r - 1, by omega⟩
                have HU2 := Lib.hid (show svL r (putL (putL L2 83) 86) = svL n (putL L 83) from HU.out)
                have hp1 := putL_len L2 83
                have hp2 := putL_len (putL L2 83) 86
                clear HU
                go_wp2_with fail
                refine (implPut_any 83 _ L2 w2 _ kx OX (by omega)).mono ?_
                rintro e wy ⟨vy, rfl, OY, ky⟩
                obtain ⟨yo, yc, rfl⟩ := OY.len
                clear OX kx
                go_wp2_with fail
                refine (implPut_any 86 _ (putL L2 83) w2 _ ky OY (by omega)).mono ?_
                rintro e wz ⟨vz, rfl, OZ, kz⟩
                obtain ⟨zo, zc, rfl⟩ := OZ.len
                clear OY ky
                go_wp2
                go_roundw
                case rel => exact ⟨r, _, by omega, by go_num, HU2, by omega, OZ, kz⟩
                case measure => first | (simp [intOf]; done) | (simp [intOf]; omega)
              · obtain rfl : r = 0 := by omega
                have HD := Lib.hid (show fwTo qs (i + 1) = L2 by rw [HT.out, ← HU.out]; rfl)
                go_wp2
                go_roundw
                case rel => exact ⟨i + 1, by omega, by go_num, HAL2, by rw [HD.out]; exact OX, kx⟩
                case measure => simp [intOf]; omega
        · have hi0' : ¬ (0 : Int) < (i : Int) := by omega
          have HI0 := Lib.hid (show (if 0 < i then putL L 83 else L) = L by rw [if_neg hi0])
          have hl : Hid (L.length ≤ 20001) := Lib.hid (by have := hN.out; omega)
          go_wp2_with fail
          refine (size_any q _ (by omega) (by omega)).mono ?_
          rintro e w' ⟨rfl, rfl⟩
          by_cases hpos : 0 < q
          · obtain ⟨n, rfl⟩ : ∃ n : Nat, q = (n : Int) := ⟨q.toNat, by omega⟩
            have HT := Lib.hid (show fwTo qs (i + 1) = usL n L by rw [HST.out]; unfold stL; rw [if_pos hpos, HI0.out]; rfl)
            go_wp2_with fail
            go_loopw [6, 8] (fun v qq wx => ∃ r : Nat, ∃ L2 : List UInt8, r ≤ n ∧ qq = .int .i64 r ∧ Hid (usL r L2 = usL n L) ∧ L2.length + 2 * r ≤ 21000 ∧ OwnK encB 5 wx w2.heap.size v L2 ∧ Below w2.heap.size w2 wx) (fun _ qq _ => (intOf qq).toNat)
            case atStart => exact ⟨n, L, Nat.le_refl _, rfl, Lib.hid rfl, by have := hl.out; omega, O, kwr⟩
            case round =>
              clear O kwr
              obtain ⟨r, L2, hr, rfl, HU, hL2, OX, kx⟩ := hrel
              obtain ⟨xo, xc, rfl⟩ := OX.len
              have sx := kx.size
              by_cases hr0 : 0 < r
              · obtain ⟨r, rfl⟩ : ∃ r', r = r' + 1 := ⟨r - 1, by omega⟩
                have HU2 := Lib.hid (show usL r (putL (putL L2 85) 83) = usL n L from HU.out)
                have hp1 := putL_len L2 85
                have hp2 := putL_len (putL L2 85) 83
                clear HU
                go_wp2_with fail
                refine (implPut_any 85 _ L2 w2 _ kx OX (by omega)).mono ?_
                rintro e wy ⟨vy, rfl, OY, ky⟩
                obtain ⟨yo, yc, rfl⟩ := OY.len
                clear OX kx
                go_wp2_with fail
                refine (implPut_any 83 _ (putL L2 85) w2 _ ky OY (by omega)).mono ?_
                rintro e wz ⟨vz, rfl, OZ, kz⟩
                obtain ⟨zo, zc, rfl⟩ := OZ.len
                clear OY ky
                go_wp2
                go_roundw
                case rel => exact ⟨r, _, by omega, by go_num, HU2, by omega, OZ, kz⟩
                case measure => first | (simp [intOf]; done) | (simp [intOf]; omega)
              · obtain rfl : r = 0 := by omega
                have HD := Lib.hid (show fwTo qs (i + 1) = L2 by rw [HT.out, ← HU.out]; rfl)
                go_wp2_with fail
                refine wp_loop_rounds 1 ?_
                rw [rounds_succ]
                go_wp2
                go_roundw
                case rel => exact ⟨i + 1, by omega, by go_num, HAL2, by rw [HD.out]; exact OX, kx⟩
                case measure => simp [intOf]; omega
          · obtain ⟨n, rfl⟩ : ∃ n : Nat, q = -(n : Int) := ⟨(-q).toNat, by omega⟩
            have HT := Lib.hid (show fwTo qs (i + 1) = svL n L by rw [HST.out]; unfold stL; rw [if_neg hpos, HI0.out, Int.neg_neg]; rfl)
            go_wp2_with fail
            refine wp_loop_rounds 1 ?_
            rw [rounds_succ]
            go_wp2_with fail
            go_loopw [6, 8] (fun v qq wx => ∃ r : Nat, ∃ L2 : List UInt8, r ≤ n ∧ qq = .int .i64 (-(r : Int)) ∧ Hid (svL r L2 = svL n L) ∧ L2.length + 2 * r ≤ 21000 ∧ OwnK encB 5 wx w2.heap.size v L2 ∧ Below w2.heap.size w2 wx) (fun _ qq _ => (-(intOf qq)).toNat)
            case atStart => exact ⟨n, L, Nat.le_refl _, rfl, Lib.hid rfl, by have := hl.out; omega, O, kwr⟩
            case round =>
              clear O kwr
              obtain ⟨r, L2, hr, rfl, HU, hL2, OX, kx⟩ := hrel
              obtain ⟨xo, xc, rfl⟩ := OX.len
              have sx := kx.size
              by_cases hr0 : 0 < r
              · obtain ⟨r, rfl⟩ : ∃ r', r = r' + 1 := ⟨r - 1, by omega⟩
                have HU2 := Lib.hid (show svL r (putL (putL L2 83) 86) = svL n L from HU.out)
                have hp1 := putL_len L2 83
                have hp2 := putL_len (putL L2 83) 86
                clear HU
                go_wp2_with fail
                refine (implPut_any 83 _ L2 w2 _ kx OX (by omega)).mono ?_
                rintro e wy ⟨vy, rfl, OY, ky⟩
                obtain ⟨yo, yc, rfl⟩ := OY.len
                clear OX kx
                go_wp2_with fail
                refine (implPut_any 86 _ (putL L2 83) w2 _ ky OY (by omega)).mono ?_
                rintro e wz ⟨vz, rfl, OZ, kz⟩
                obtain ⟨zo, zc, rfl⟩ := OZ.len
                clear OY ky
                go_wp2
                go_roundw
                case rel => exact ⟨r, _, by omega, by go_num, HU2, by omega, OZ, kz⟩
                case measure => first | (simp [intOf]; done) | (simp [intOf]; omega)
              · obtain rfl : r = 0 := by omega
                have HD := Lib.hid (show fwTo qs (i + 1) = L2 by rw [HT.out, ← HU.out]; rfl)
                go_wp2
                go_roundw
                case rel => exact ⟨i + 1, by omega, by go_num, HAL2, by rw [HD.out]; exact OX, kx⟩
                case measure => simp [intOf]; omega
    · obtain rfl : i = kk + 1 := by omega
      have kf : Below w.heap.size w wr := Below.thru kwr s2 k2
      rw [← HFREE.out] at O ⊢
      by_cases h200 : 200 < (freeL qs).length
      · have HR := Lib.hid (resF_long h200)
        have h2' : (200 : Int) < ((freeL qs).length : Int) := by omega
        go_wp2
        exact HEX.out _ HR.out _ kf
      · have HR := Lib.hid (resF_ok h200)
        have h2' : ¬ (200 : Int) < ((freeL qs).length : Int) := by omega
        rcases O.form with ⟨hv0, hn0⟩ | ⟨gp, cp, hvp, hp1, hp2, _, _, _⟩
        · have hcv := run_convert_bytes_nil (P := Try.prog) wr 22 5 Try.underlying22 Try.underlying5 0 0
          rw [hn0] at HR h2' hv0 ⊢
          simp only [List.length_nil, Value.slice.injEq, true_and] at hv0
          obtain ⟨rfl, rfl⟩ := hv0
          go_wp2
          exact HEX.out _ HR.out _ kf
        · simp only [Value.slice.injEq, true_and] at hvp
          obtain ⟨rfl, rfl⟩ := hvp
          have hcv := run_convert_bytes_back (P := Try.prog) wr 22 9 5 ⟨gp, 0, none⟩ pc (freeL qs) Try.underlying22 Try.underlying5 Try.underlying9 (string_back O)
          go_wp2
          exact HEX.out _ HR.out _ kf

end Go.Proofs.Ytcapmljnhflopaa
