/- Free words: the reference's walk. -/
import Derived.Test.YtcapmljnhflopaaFreeW
namespace Go.Proofs.Ytcapmljnhflopaa
open Go.RowKit
set_option linter.unusedSimpArgs false

/-- What l02Free gives. -/
def l02R (qs : List Int) : ByteArray × Bool := if 600 < sumA qs qs.length then (⟨#[]⟩, false) else (⟨(freeL qs).toArray⟩, decide ((freeL qs).length ≤ 200))
theorem l02R_big {qs : List Int} (h : 600 < sumA qs qs.length) : l02R qs = (⟨#[]⟩, false) := by unfold l02R; rw [if_pos h]
theorem l02R_ok {qs : List Int} (h : ¬ 600 < sumA qs qs.length) : l02R qs = (⟨(freeL qs).toArray⟩, decide ((freeL qs).length ≤ 200)) := by unfold l02R; rw [if_neg h]
theorem resF_l02 {qs : List Int} (h : Inner qs) (h0 : 0 < qs.length) : resF qs = if (l02R qs).2 = true then ((l02R qs).1, 0) else (⟨#[]⟩, 3) := by
  by_cases hg : 600 < sumA qs qs.length
  · rw [l02R_big hg, resF_long (free_long h h0 (.inr hg)), if_neg Bool.false_ne_true]
  · rw [l02R_ok hg]
    by_cases h2 : (freeL qs).length ≤ 200
    · rw [resF_ok (by omega), if_pos (by rw [decide_eq_true h2])]
    · rw [resF_long (by omega), if_neg (by rw [decide_eq_false h2]; exact Bool.false_ne_true)]
theorem sumA_le_of {qs : List Int} {i n : Nat} (h : i ≤ n) : sumA qs i ≤ sumA qs n := by
  induction n with
  | zero => obtain rfl : i = 0 := by omega
            exact Nat.le_refl _
  | succ n ih =>
    by_cases e : i = n + 1
    · subst e; exact Nat.le_refl _
    · have := ih (by omega)
      simp only [sumA]
      omega
/-- What the reference's word of a matrix is. -/
def GivesL (m : M) (w : World) (e : Ending) (w' : World) : Prop := (∃ k, ChEnds m k ∧ e = .returned (.tuple #[.string (l02R (chAll m k)).1, .bool (l02R (chAll m k)).2])) ∧ Below w.heap.size w w'

set_option maxRecDepth 8000 in
set_option maxHeartbeats 4000000 in
theorem l02Free_any (m : M) (w : World) (h : m.ok = true) :
    Calls Try.prog 19 #[.agg #[.int .i64 m.a, .int .i64 m.b, .int .i64 m.c, .int .i64 m.d]] w (GivesL m w) := by
  have HCH := Lib.hid (M.ok_ch h)
  clear h
  go_enter Try.func19, Try.ntmps19
  go_wp2_with fail
  refine (l02Chain_any m _ HCH.out).mono ?_
  rintro e w2 ⟨v, kk, rfl, he, O, hb⟩
  have k2 : Below w.heap.size w w2 := (by repeat (first | (with_reducible exact Below.refl _ _) | (with_reducible assumption) | (with_reducible refine Below.drew ?_) | (with_reducible refine Below.drewN ?_) | ((with_reducible refine Below.al ?_ ?_); · first | omega | (simp; done) | (simp; omega)) | ((with_reducible refine Below.sc ?_ ?_); · first | omega | (simp; done) | (simp; omega)) | ((with_reducible refine Below.thru hb ?_ ?_); · first | omega | (simp; done) | (simp; omega))))
  have s2 := k2.size
  have HE := Lib.hid he
  have hk31 := ch_short HCH.out he
  have HNUM := Lib.hid (fun j hj => ch_num HCH.out he j hj)
  have HL := Lib.hid (show (chAll m kk).length = kk + 1 from chAll_len m kk)
  have O' : Own w2 w.heap.size v (chAll m kk) := O.mono (by first | omega | (simp; done) | (simp; omega))
  clear hb O he
  obtain ⟨vo, vc, hv, -⟩ := O'.slIn.form
  have hlist : 0 < kk + 1 → ∃ a : Addr, vo = some a ∧ a.block < w2.heap.size ∧ ∀ j, j < kk + 1 → w2.cell? (a.add j) = some (.int .i64 ((chAll m kk).getD j 0)) := fun _ => by
    obtain ⟨ao, c, hv2, hx⟩ := O'.slIn.form
    rw [hv] at hv2
    simp only [Value.slice.injEq, true_and] at hv2
    obtain ⟨rfl, rfl⟩ := hv2
    obtain ⟨a, ha, hxa⟩ := hx (by rw [HL.out]; omega)
    refine ⟨a, ha, ?_, fun j hj => ?_⟩
    · have := hxa 0 (by rw [HL.out]; omega)
      have := block_lt_of_cell this
      exact this
    · have := hxa j (by rw [HL.out]; omega)
      rw [this, List.getD, List.getElem?_eq_getElem (by rw [HL.out]; omega)]
      rfl
  rw [HL.out] at hv
  obtain ⟨a, rfl, hab, hcells⟩ := hlist (by omega)
  have HCELL := Lib.hid hcells
  subst hv
  have hex : ∀ r, l02R (chAll m kk) = r → ∀ w', Below w.heap.size w w' → GivesL m w (.returned (.tuple #[.string r.1, .bool r.2])) w' := fun r hr w' hb => ⟨⟨kk, HE.out, by rw [hr]⟩, hb⟩
  have HEX := Lib.hid hex
  clear hex hcells O' hlist
  generalize GivesL m w = GF at *
  have HFREE := Lib.hid (show freeL (chAll m kk) = fwTo (chAll m kk) (kk + 1) by unfold freeL; rw [HL.out])
  have HSUM := Lib.hid (show sumA (chAll m kk) (chAll m kk).length = sumA (chAll m kk) (kk + 1) by rw [HL.out])
  have HBIG := Lib.hid (fun (hg : 600 < sumA (chAll m kk) (kk + 1)) => l02R_big (by rw [HSUM.out]; exact hg))
  have HOK := Lib.hid (fun (hg : ¬ 600 < sumA (chAll m kk) (kk + 1)) => l02R_ok (by rw [HSUM.out]; exact hg))
  generalize chAll m kk = qs at *
  generalize (chM m kk).a = ca at *
  have HSB : Hid (∀ i, i ≤ kk + 1 → sumA qs i ≤ 4000000000 * i) := Lib.hid (fun i hi => by
    induction i with
    | zero => exact Nat.le_refl _
    | succ i ih =>
      have h1 := ih (by omega)
      have h2 := HNUM.out i (by omega)
      simp only [sumA]
      omega)
  go_wp2_with fail
  go_loopw [6, 7] (fun ss ii wr => ∃ i n : Nat, i ≤ kk + 1 ∧ ii = .int .i64 i ∧ ss = .int .i64 (sumA qs i : Nat) ∧ wr = w2.drewN n) (fun _ ii _ => kk + 1 - (intOf ii).toNat)
  case atStart => exact ⟨0, 0, Nat.zero_le _, rfl, rfl, rfl⟩
  case round =>
    obtain ⟨i, n, hi, rfl, rfl, rfl⟩ := hrel
    by_cases hlt : i < kk + 1
    · have i0 : (0 : Int) ≤ (i : Int) := by omega
      have i1 : (i : Int) < (kk : Int) + 1 := by omega
      have cq : w2.cell? (a.add i) = some (.int .i64 (qs.getD i 0)) := HCELL.out i hlt
      have hnum := HNUM.out i hlt
      have hsb := HSB.out i (by omega)
      have HS1 := Lib.hid (show sumA qs (i + 1) = sumA qs i + (qs.getD i 0).natAbs from rfl)
      generalize qs.getD i 0 = q at *
      generalize sumA qs i = sm at *
      have hw1 : IntKind.i64.wrap (-q) = -q := by rw [IntKind.wrap_i64]; omega
      have hmx : max q (-q) = (q.natAbs : Int) := by omega
      have hw2 : IntKind.i64.wrap ((sm : Int) + max q (-q)) = (sm : Int) + max q (-q) := by rw [IntKind.wrap_i64]; omega
      go_wp2_with fail
      go_quiet (fail)
      go_wp2
      go_roundw
      case rel => exact ⟨i + 1, n + nq, by omega, by go_num, by rw [HS1.out]; go_num, rfl⟩
      case measure => simp [intOf]; omega
    · obtain rfl : i = kk + 1 := by omega
      by_cases hg : 600 < sumA qs (kk + 1)
      · have HR := Lib.hid (HBIG.out hg)
        have hg2 : (600 : Int) < (sumA qs (kk + 1) : Int) := by omega
        have kf : Below w.heap.size w (w2.drewN n) := (by repeat (first | (with_reducible exact Below.refl _ _) | (with_reducible assumption) | (with_reducible refine Below.drew ?_) | (with_reducible refine Below.drewN ?_) | ((with_reducible refine Below.al ?_ ?_); · first | omega | (simp; done) | (simp; omega)) | ((with_reducible refine Below.sc ?_ ?_); · first | omega | (simp; done) | (simp; omega)) | ((with_reducible refine Below.thru hb ?_ ?_); · first | omega | (simp; done) | (simp; omega))))
        go_wp2
        exact HEX.out _ HR.out _ kf
      have HR := Lib.hid (HOK.out hg)
      have hg2 : ¬ (600 : Int) < (sumA qs (kk + 1) : Int) := by omega
      have HLEN : Hid (∀ i, i ≤ kk + 1 → (fwTo qs i).length ≤ 2000) := Lib.hid (fun i hi => by
        have h1 := fwTo_len qs i
        have h2 := sumA_le_of (qs := qs) hi
        omega)
      have HQ6 : Hid (∀ i, i < kk + 1 → (qs.getD i 0).natAbs ≤ 600) := Lib.hid (fun i hi => by
        have h2 := sumA_le_of (qs := qs) (i := i + 1) (n := kk + 1) (by omega)
        have h3 : sumA qs (i + 1) = sumA qs i + (qs.getD i 0).natAbs := rfl
        omega)
      clear HBIG HOK HSB
      generalize sumA qs (kk + 1) = sm at *
      go_wp2_with fail
      refine forget (fun W_ => OwnK encB 5 W_ w2.heap.size (.slice (some ⟨w2.heap.size, 0, none⟩) 0 0) [] ∧ Below w2.heap.size w2 W_) ⟨OwnK.of_blk (xs := []) (cs := #[]) (Blk.new (by simp)) (Nat.le_refl _) rfl (by simp [maxLen]), (by repeat (first | (with_reducible exact Below.refl _ _) | (with_reducible assumption) | (with_reducible refine Below.drew ?_) | (with_reducible refine Below.drewN ?_) | ((with_reducible refine Below.al ?_ ?_); · first | omega | (simp; done) | (simp; omega)) | ((with_reducible refine Below.sc ?_ ?_); · first | omega | (simp; done) | (simp; omega)) | ((with_reducible refine Below.thru hb ?_ ?_); · first | omega | (simp; done) | (simp; omega))))⟩ ?_
      rintro w3 ⟨O3, k3⟩
      go_loopw [8, 9] (fun v ii wr => ∃ i : Nat, i ≤ kk + 1 ∧ ii = .int .i64 i ∧ OwnK encB 5 wr w2.heap.size v (fwTo qs i) ∧ Below w2.heap.size w2 wr) (fun _ ii _ => kk + 1 - (intOf ii).toNat)
      case atStart => exact ⟨0, Nat.zero_le _, rfl, O3, k3⟩
      case round =>
        clear O3 k3
        obtain ⟨i, hi, rfl, O, kwr⟩ := hrel
        obtain ⟨po, pc, rfl⟩ := O.len
        have swr := kwr.size
        by_cases hlt : i < kk + 1
        · have i0 : (0 : Int) ≤ (i : Int) := by omega
          have i1 : (i : Int) < (kk : Int) + 1 := by omega
          have HCQ := Lib.hid (HCELL.out i hlt)
          have hnum := HNUM.out i hlt
          have HST := Lib.hid (show fwTo qs (i + 1) = stL i (qs.getD i 0) (fwTo qs i) from rfl)
          have hlen := HLEN.out i (by omega)
          have hqb := HQ6.out i hlt
          generalize qs.getD i 0 = q at *
          generalize fwTo qs i = L at *
          obtain ⟨N, hN⟩ : ∃ N, L.length = N := ⟨_, rfl⟩
          rw [hN] at hlen
          replace hN := Lib.hid hN

          by_cases hi0 : 0 < i
          · have hi0' : (0 : Int) < (i : Int) := by omega
            have HI0 := Lib.hid (show (if 0 < i then putL L 83 else L) = putL L 83 by rw [if_pos hi0])
            have hp0 := putL_len L 83
            have hl : Hid ((putL L 83).length ≤ 2001) := Lib.hid (by have := hN.out; omega)
            have hl0 : L.length < 1000000 := by have := hN.out; omega
            clear hp0
            go_wp2_with fail
            refine (specPut_any 83 _ L w2 _ kwr O hl0).mono ?_
            rintro e w4 ⟨v4, rfl, O4, k4⟩
            obtain ⟨qo, qc, rfl⟩ := O4.len
            clear O kwr hl0
            by_cases hpos : 0 < q
            · obtain ⟨n, rfl⟩ : ∃ n : Nat, q = (n : Int) := ⟨q.toNat, by omega⟩
              have HT := Lib.hid (show fwTo qs (i + 1) = usL n (putL L 83) by rw [HST.out]; unfold stL; rw [if_pos hpos, HI0.out]; rfl)
              go_wp2_with fail
              go_loopw [8, 10] (fun v qq wx => ∃ c r : Nat, ∃ L2 : List UInt8, c + r = n ∧ qq = .int .i64 c ∧ Hid (usL r L2 = usL n (putL L 83)) ∧ L2.length + 2 * r ≤ 5000 ∧ OwnK encB 5 wx w2.heap.size v L2 ∧ Below w2.heap.size w2 wx) (fun _ qq _ => n - (intOf qq).toNat)
              case atStart => exact ⟨0, n, (putL L 83), by omega, rfl, Lib.hid rfl, by have := hl.out; omega, O4, k4⟩
              case round =>
                clear O4 k4
                obtain ⟨c, r, L2, hr, rfl, HU, hL2, OX, kx⟩ := hrel
                obtain ⟨xo, xc, rfl⟩ := OX.len
                have sx := kx.size
                have cq : wr.cell? (a.add i) = some (.int .i64 (n : Int)) := by
                  have e := HCQ.out
                  rw [kx.cell (block_lt_of_cell e :)]
                  exact e
                by_cases hr0 : 0 < r
                · obtain ⟨r, rfl⟩ : ∃ r', r = r' + 1 := ⟨r - 1, by omega⟩
                  have HU2 := Lib.hid (show usL r (putL (putL L2 85) 83) = usL n (putL L 83) from HU.out)
                  have hp1 := putL_len L2 85
                  have hp2 := putL_len (putL L2 85) 83
                  have hcn : (c : Int) < (n : Int) := by omega
                  clear HU
                  go_wp2_with fail
                  refine (specPut_any 85 _ L2 w2 _ kx OX (by omega)).mono ?_
                  rintro e wy ⟨vy, rfl, OY, ky⟩
                  obtain ⟨yo, yc, rfl⟩ := OY.len
                  clear OX kx cq
                  go_wp2_with fail
                  refine (specPut_any 83 _ (putL L2 85) w2 _ ky OY (by omega)).mono ?_
                  rintro e wz ⟨vz, rfl, OZ, kz⟩
                  obtain ⟨zo, zc, rfl⟩ := OZ.len
                  clear OY ky
                  go_wp2
                  go_roundw
                  case rel => exact ⟨c + 1, r, _, by omega, by go_num, HU2, by omega, OZ, kz⟩
                  case measure => first | (simp [intOf]; done) | (simp [intOf]; omega)
                · obtain rfl : r = 0 := by omega
                  have HD := Lib.hid (show fwTo qs (i + 1) = L2 by rw [HT.out, ← HU.out]; rfl)
                  have hcn : ¬ (c : Int) < (n : Int) := by omega
                  have hn0 : ¬ (n : Int) < 0 := by omega
                  go_wp2_with fail
                  refine wp_loop_rounds 1 ?_
                  rw [rounds_succ]
                  go_wp2
                  go_roundw
                  case rel => exact ⟨i + 1, by omega, by go_num, by rw [HD.out]; exact OX, kx⟩
                  case measure => simp [intOf]; omega
            · obtain ⟨n, rfl⟩ : ∃ n : Nat, q = -(n : Int) := ⟨(-q).toNat, by omega⟩
              have HT := Lib.hid (show fwTo qs (i + 1) = svL n (putL L 83) by rw [HST.out]; unfold stL; rw [if_neg hpos, HI0.out, Int.neg_neg]; rfl)
              have cq : w4.cell? (a.add i) = some (.int .i64 (-(n : Int))) := by
                have e := HCQ.out
                rw [k4.cell (block_lt_of_cell e :)]
                exact e
              go_wp2_with fail
              refine wp_loop_rounds 1 ?_
              rw [rounds_succ]
              go_wp2_with fail
              go_loopw [8, 11] (fun v qq wx => ∃ c r : Nat, ∃ L2 : List UInt8, c + r = n ∧ qq = .int .i64 (-(c : Int)) ∧ Hid (svL r L2 = svL n (putL L 83)) ∧ L2.length + 2 * r ≤ 5000 ∧ OwnK encB 5 wx w2.heap.size v L2 ∧ Below w2.heap.size w2 wx) (fun _ qq _ => n - (-(intOf qq)).toNat)
              case atStart => exact ⟨0, n, (putL L 83), by omega, rfl, Lib.hid rfl, by have := hl.out; omega, O4, k4⟩
              case round =>
                clear O4 k4 cq
                obtain ⟨c, r, L2, hr, rfl, HU, hL2, OX, kx⟩ := hrel
                obtain ⟨xo, xc, rfl⟩ := OX.len
                have sx := kx.size
                have cq : wr.cell? (a.add i) = some (.int .i64 (-(n : Int))) := by
                  have e := HCQ.out
                  rw [kx.cell (block_lt_of_cell e :)]
                  exact e
                by_cases hr0 : 0 < r
                · obtain ⟨r, rfl⟩ : ∃ r', r = r' + 1 := ⟨r - 1, by omega⟩
                  have HU2 := Lib.hid (show svL r (putL (putL L2 83) 86) = svL n (putL L 83) from HU.out)
                  have hp1 := putL_len L2 83
                  have hp2 := putL_len (putL L2 83) 86
                  have hcn : -(n : Int) < -(c : Int) := by omega
                  clear HU
                  go_wp2_with fail
                  refine (specPut_any 83 _ L2 w2 _ kx OX (by omega)).mono ?_
                  rintro e wy ⟨vy, rfl, OY, ky⟩
                  obtain ⟨yo, yc, rfl⟩ := OY.len
                  clear OX kx cq
                  go_wp2_with fail
                  refine (specPut_any 86 _ (putL L2 83) w2 _ ky OY (by omega)).mono ?_
                  rintro e wz ⟨vz, rfl, OZ, kz⟩
                  obtain ⟨zo, zc, rfl⟩ := OZ.len
                  clear OY ky
                  go_wp2
                  go_roundw
                  case rel => exact ⟨c + 1, r, _, by omega, by go_num, HU2, by omega, OZ, kz⟩
                  case measure => first | (simp [intOf]; done) | (simp [intOf]; omega)
                · obtain rfl : r = 0 := by omega
                  have HD := Lib.hid (show fwTo qs (i + 1) = L2 by rw [HT.out, ← HU.out]; rfl)
                  have hcn : ¬ -(n : Int) < -(c : Int) := by omega
                  go_wp2
                  go_roundw
                  case rel => exact ⟨i + 1, by omega, by go_num, by rw [HD.out]; exact OX, kx⟩
                  case measure => simp [intOf]; omega
          · have hi0' : ¬ (0 : Int) < (i : Int) := by omega
            have HI0 := Lib.hid (show (if 0 < i then putL L 83 else L) = L by rw [if_neg hi0])
            have hl : Hid (L.length ≤ 2001) := Lib.hid (by have := hN.out; omega)
            by_cases hpos : 0 < q
            · obtain ⟨n, rfl⟩ : ∃ n : Nat, q = (n : Int) := ⟨q.toNat, by omega⟩
              have HT := Lib.hid (show fwTo qs (i + 1) = usL n L by rw [HST.out]; unfold stL; rw [if_pos hpos, HI0.out]; rfl)
              go_wp2_with fail
              go_loopw [8, 10] (fun v qq wx => ∃ c r : Nat, ∃ L2 : List UInt8, c + r = n ∧ qq = .int .i64 c ∧ Hid (usL r L2 = usL n L) ∧ L2.length + 2 * r ≤ 5000 ∧ OwnK encB 5 wx w2.heap.size v L2 ∧ Below w2.heap.size w2 wx) (fun _ qq _ => n - (intOf qq).toNat)
              case atStart => exact ⟨0, n, L, by omega, rfl, Lib.hid rfl, by have := hl.out; omega, O, kwr⟩
              case round =>
                clear O kwr
                obtain ⟨c, r, L2, hr, rfl, HU, hL2, OX, kx⟩ := hrel
                obtain ⟨xo, xc, rfl⟩ := OX.len
                have sx := kx.size
                have cq : wr.cell? (a.add i) = some (.int .i64 (n : Int)) := by
                  have e := HCQ.out
                  rw [kx.cell (block_lt_of_cell e :)]
                  exact e
                by_cases hr0 : 0 < r
                · obtain ⟨r, rfl⟩ : ∃ r', r = r' + 1 := ⟨r - 1, by omega⟩
                  have HU2 := Lib.hid (show usL r (putL (putL L2 85) 83) = usL n L from HU.out)
                  have hp1 := putL_len L2 85
                  have hp2 := putL_len (putL L2 85) 83
                  have hcn : (c : Int) < (n : Int) := by omega
                  clear HU
                  go_wp2_with fail
                  refine (specPut_any 85 _ L2 w2 _ kx OX (by omega)).mono ?_
                  rintro e wy ⟨vy, rfl, OY, ky⟩
                  obtain ⟨yo, yc, rfl⟩ := OY.len
                  clear OX kx cq
                  go_wp2_with fail
                  refine (specPut_any 83 _ (putL L2 85) w2 _ ky OY (by omega)).mono ?_
                  rintro e wz ⟨vz, rfl, OZ, kz⟩
                  obtain ⟨zo, zc, rfl⟩ := OZ.len
                  clear OY ky
                  go_wp2
                  go_roundw
                  case rel => exact ⟨c + 1, r, _, by omega, by go_num, HU2, by omega, OZ, kz⟩
                  case measure => first | (simp [intOf]; done) | (simp [intOf]; omega)
                · obtain rfl : r = 0 := by omega
                  have HD := Lib.hid (show fwTo qs (i + 1) = L2 by rw [HT.out, ← HU.out]; rfl)
                  have hcn : ¬ (c : Int) < (n : Int) := by omega
                  have hn0 : ¬ (n : Int) < 0 := by omega
                  go_wp2_with fail
                  refine wp_loop_rounds 1 ?_
                  rw [rounds_succ]
                  go_wp2
                  go_roundw
                  case rel => exact ⟨i + 1, by omega, by go_num, by rw [HD.out]; exact OX, kx⟩
                  case measure => simp [intOf]; omega
            · obtain ⟨n, rfl⟩ : ∃ n : Nat, q = -(n : Int) := ⟨(-q).toNat, by omega⟩
              have HT := Lib.hid (show fwTo qs (i + 1) = svL n L by rw [HST.out]; unfold stL; rw [if_neg hpos, HI0.out, Int.neg_neg]; rfl)
              have cq : wr.cell? (a.add i) = some (.int .i64 (-(n : Int))) := by
                have e := HCQ.out
                rw [kwr.cell (block_lt_of_cell e :)]
                exact e
              go_wp2_with fail
              refine wp_loop_rounds 1 ?_
              rw [rounds_succ]
              go_wp2_with fail
              go_loopw [8, 11] (fun v qq wx => ∃ c r : Nat, ∃ L2 : List UInt8, c + r = n ∧ qq = .int .i64 (-(c : Int)) ∧ Hid (svL r L2 = svL n L) ∧ L2.length + 2 * r ≤ 5000 ∧ OwnK encB 5 wx w2.heap.size v L2 ∧ Below w2.heap.size w2 wx) (fun _ qq _ => n - (-(intOf qq)).toNat)
              case atStart => exact ⟨0, n, L, by omega, rfl, Lib.hid rfl, by have := hl.out; omega, O, kwr⟩
              case round =>
                clear O kwr cq
                obtain ⟨c, r, L2, hr, rfl, HU, hL2, OX, kx⟩ := hrel
                obtain ⟨xo, xc, rfl⟩ := OX.len
                have sx := kx.size
                have cq : wr.cell? (a.add i) = some (.int .i64 (-(n : Int))) := by
                  have e := HCQ.out
                  rw [kx.cell (block_lt_of_cell e :)]
                  exact e
                by_cases hr0 : 0 < r
                · obtain ⟨r, rfl⟩ : ∃ r', r = r' + 1 := ⟨r - 1, by omega⟩
                  have HU2 := Lib.hid (show svL r (putL (putL L2 83) 86) = svL n L from HU.out)
                  have hp1 := putL_len L2 83
                  have hp2 := putL_len (putL L2 83) 86
                  have hcn : -(n : Int) < -(c : Int) := by omega
                  clear HU
                  go_wp2_with fail
                  refine (specPut_any 83 _ L2 w2 _ kx OX (by omega)).mono ?_
                  rintro e wy ⟨vy, rfl, OY, ky⟩
                  obtain ⟨yo, yc, rfl⟩ := OY.len
                  clear OX kx cq
                  go_wp2_with fail
                  refine (specPut_any 86 _ (putL L2 83) w2 _ ky OY (by omega)).mono ?_
                  rintro e wz ⟨vz, rfl, OZ, kz⟩
                  obtain ⟨zo, zc, rfl⟩ := OZ.len
                  clear OY ky
                  go_wp2
                  go_roundw
                  case rel => exact ⟨c + 1, r, _, by omega, by go_num, HU2, by omega, OZ, kz⟩
                  case measure => first | (simp [intOf]; done) | (simp [intOf]; omega)
                · obtain rfl : r = 0 := by omega
                  have HD := Lib.hid (show fwTo qs (i + 1) = L2 by rw [HT.out, ← HU.out]; rfl)
                  have hcn : ¬ -(n : Int) < -(c : Int) := by omega
                  go_wp2
                  go_roundw
                  case rel => exact ⟨i + 1, by omega, by go_num, by rw [HD.out]; exact OX, kx⟩
                  case measure => simp [intOf]; omega
        · obtain rfl : i = kk + 1 := by omega
          have kf : Below w.heap.size w wr := Below.thru kwr s2 k2
          rw [← HFREE.out] at O ⊢
          have hd : decide (((freeL qs).length : Int) ≤ 200) = decide ((freeL qs).length ≤ 200) := by
            rw [decide_eq_decide]; omega
          rcases O.form with ⟨hv0, hn0⟩ | ⟨gp, cp, hvp, hp1, hp2, _, _, _⟩
          · have hcv := run_convert_bytes_nil (P := Try.prog) wr 22 5 Try.underlying22 Try.underlying5 0 0
            rw [hn0] at HR hv0 hd ⊢
            simp only [List.length_nil, Value.slice.injEq, true_and] at hv0
            obtain ⟨rfl, rfl⟩ := hv0
            go_wp2
            exact HEX.out _ HR.out _ kf
          · simp only [Value.slice.injEq, true_and] at hvp
            obtain ⟨rfl, rfl⟩ := hvp
            have hcv := run_convert_bytes_back (P := Try.prog) wr 22 9 5 ⟨gp, 0, none⟩ pc (freeL qs) Try.underlying22 Try.underlying5 Try.underlying9 (string_back O)
            have HD := Lib.hid hd
            clear hd
            go_wp2
            rw [← HD.out] at HR
            exact HEX.out _ HR.out _ kf

set_option maxRecDepth 8000 in
set_option maxHeartbeats 2000000 in
theorem specFreeWord_in (m : M) (w : World) (h : m.ok = true) :
    Calls Try.prog 7 #[.agg #[.int .i64 m.a, .int .i64 m.b, .int .i64 m.c, .int .i64 m.d]] w (GivesF m w) := by
  have HCH := Lib.hid (M.ok_ch h)
  have HLF := Lib.hid (fun w' : World => l02Free_any m w' h)
  go_enter Try.func7, Try.ntmps7
  go_wp2_with fail
  refine (l01Is_any m _).mono ?_
  rw [h]
  rintro e w1 ⟨rfl, hb⟩
  have B1 : Blk w1 w.heap.size 25 (mcs m) := (by repeat (first | (with_reducible assumption) | ((with_reducible refine Blk.new ?_); · first | omega | (simp; done) | (simp; omega)) | (with_reducible apply Blk.set4) | (with_reducible apply Blk.set3) | (with_reducible apply Blk.set2) | ((with_reducible refine Blk.put ?_ ?_); · first | omega | (simp; omega)) | (with_reducible refine Blk.old ?_) | (with_reducible refine Blk.drew ?_) | (with_reducible refine Blk.drewN ?_) | ((with_reducible refine Blk.below hb ?_ ?_); · first | omega | (simp; done) | (simp; omega))))
  have k1 : Below w.heap.size w w1 := (by repeat (first | (with_reducible exact Below.refl _ _) | (with_reducible assumption) | (with_reducible refine Below.drew ?_) | (with_reducible refine Below.drewN ?_) | ((with_reducible refine Below.al ?_ ?_); · first | omega | (simp; done) | (simp; omega)) | ((with_reducible refine Below.sc ?_ ?_); · first | omega | (simp; done) | (simp; omega)) | ((with_reducible refine Below.thru hb ?_ ?_); · first | omega | (simp; done) | (simp; omega))))
  have s1 := k1.size
  have b1 := B1.m
  clear hb h
  go_wp2_with fail
  refine (HLF.out _).mono ?_
  rintro e w2 ⟨⟨k, he, rfl⟩, hb⟩
  have k2 : Below w.heap.size w w2 := (by repeat (first | (with_reducible exact Below.refl _ _) | (with_reducible assumption) | (with_reducible refine Below.drew ?_) | (with_reducible refine Below.drewN ?_) | ((with_reducible refine Below.al ?_ ?_); · first | omega | (simp; done) | (simp; omega)) | ((with_reducible refine Below.sc ?_ ?_); · first | omega | (simp; done) | (simp; omega)) | ((with_reducible refine Below.thru hb ?_ ?_); · first | omega | (simp; done) | (simp; omega))))
  have HR := Lib.hid (resF_l02 (ch_inner HCH.out he) (by rw [chAll_len]; omega))
  have HE := Lib.hid he
  clear hb he B1 b1 k1
  have HG : Hid (∀ r, resF (chAll m k) = r → ∀ w', Below w.heap.size w w' → GivesF m w (.returned (.tuple #[.string r.1, .int .i64 r.2])) w') := Lib.hid (fun r hr w' hb => ⟨⟨k, HE.out, by rw [hr]⟩, hb⟩)
  generalize GivesF m w = GF at *
  generalize resF (chAll m k) = rf at *
  generalize l02R (chAll m k) = lr at *
  obtain ⟨ls, lb⟩ := lr
  cases lb with
  | true =>
    have HR2 := Lib.hid (show rf = (ls, 0) from HR.out)
    clear HR
    go_wp2
    exact HG.out _ HR2.out _ k2
  | false =>
    have HR2 := Lib.hid (show rf = (⟨#[]⟩, 3) from HR.out)
    clear HR
    go_wp2
    exact HG.out _ HR2.out _ k2

end Go.Proofs.Ytcapmljnhflopaa
