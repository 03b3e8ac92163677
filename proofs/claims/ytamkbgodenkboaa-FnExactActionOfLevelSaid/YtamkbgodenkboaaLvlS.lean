/- Actions of levels: the reference's walk. -/
import Derived.Test.YtamkbgodenkboaaLvl
namespace Go.Proofs.Ytamkbgodenkboaa
open Go.RowKit
set_option linter.unusedSimpArgs false

/-- The state of the reference's loop: both rows have the points of the first k pairs. -/
structure LvS (w0 w : World) (g : Nat) (X Y : List Int) (sv tv : Value) : Prop where
  b : Blk w g 27 #[sv, tv]
  s : Own w w0.heap.size sv X
  t : Own w w0.heap.size tv Y
  d : ∀ i, sv.ownBlock = some i → tv.ownBlock ≠ some i
  k : Below w0.heap.size w0 w
theorem LvS.below {w0 w w' : World} {g : Nat} {X Y : List Int} {sv tv : Value} (h : LvS w0 w g X Y sv tv) (hb : Below w.heap.size w w') : LvS w0 w' g X Y sv tv :=
  ⟨Blk.below hb h.b.lt h.b, h.s.below hb, h.t.below hb, h.d, Below.thru hb h.k.size h.k⟩
/-- The first row has grown, and its cell is written. -/
theorem LvS.grow1 {w0 w w' : World} {g : Nat} {X X' Y : List Int} {sv sv' tv : Value} (h : LvS w0 w g X Y sv tv) (hg0 : w0.heap.size ≤ g) (hO : Own w' w0.heap.size sv' X') (hg : w.grownBy w' sv.ownBlock) (ha : sv'.ownBlock = sv.ownBlock ∨ sv'.ownBlock = some w.heap.size) :
    LvS w0 (w'.setCell ⟨g, 0, none⟩ sv') g X' Y sv' tv := by
  have hd := apart_grown ha h.t h.d
  have n1 : sv.ownBlock ≠ some g := h.s.toK.ne_blk h.b (by decide)
  have n2 : tv.ownBlock ≠ some g := h.t.toK.ne_blk h.b (by decide)
  have n3 : sv'.ownBlock ≠ some g := by
    rcases ha with ha | ha
    · rw [ha]; exact n1
    · rw [ha]; intro e; simp only [Option.some.injEq] at e; have := h.b.lt; omega
  have T' : Own w' w0.heap.size tv Y := h.t.same fun i hi => hg.block i (h.t.lt hi).2 fun e => h.d i e.symm hi
  have B' : Blk w' g 27 #[sv, tv] := Blk.grownN hg n1 h.b
  exact ⟨Blk.set (i := 0) (v := sv') B', Own.put n3 hO, Own.put n2 T', hd, (Below.grownO hg h.s (Nat.le_refl _) h.k.size h.k).setCell hg0 _⟩
theorem LvS.mid1 {w0 w w' : World} {g : Nat} {X Y : List Int} {sv tv : Value} (h : LvS w0 w g X Y sv tv) (hg : w.grownBy w' sv.ownBlock) : Blk w' g 27 #[sv, tv] := Blk.grownN hg (h.s.toK.ne_blk h.b (by decide)) h.b
theorem LvS.mid2 {w0 w w' : World} {g : Nat} {X Y : List Int} {sv tv : Value} (h : LvS w0 w g X Y sv tv) (hg : w.grownBy w' tv.ownBlock) : Blk w' g 27 #[sv, tv] := Blk.grownN hg (h.t.toK.ne_blk h.b (by decide)) h.b
theorem LvS.grow2 {w0 w w' : World} {g : Nat} {X Y Y' : List Int} {sv tv tv' : Value} (h : LvS w0 w g X Y sv tv) (hg0 : w0.heap.size ≤ g) (hO : Own w' w0.heap.size tv' Y') (hg : w.grownBy w' tv.ownBlock) (ha : tv'.ownBlock = tv.ownBlock ∨ tv'.ownBlock = some w.heap.size) :
    LvS w0 (w'.setCell ⟨g, 1, none⟩ tv') g X Y' sv tv' := by
  have hd0 := apart_grown ha h.s (fun i h1 h2 => h.d i h2 h1)
  have n1 : tv.ownBlock ≠ some g := h.t.toK.ne_blk h.b (by decide)
  have n2 : sv.ownBlock ≠ some g := h.s.toK.ne_blk h.b (by decide)
  have n3 : tv'.ownBlock ≠ some g := by
    rcases ha with ha | ha
    · rw [ha]; exact n1
    · rw [ha]; intro e; simp only [Option.some.injEq] at e; have := h.b.lt; omega
  have S' : Own w' w0.heap.size sv X := h.s.same fun i hi => hg.block i (h.s.lt hi).2 fun e => h.d i hi e.symm
  have B' : Blk w' g 27 #[sv, tv] := Blk.grownN hg n1 h.b
  exact ⟨Blk.set (i := 1) (v := tv') B', Own.put n2 S', Own.put n3 hO, fun i h1 h2 => hd0 i h2 h1, (Below.grownO hg h.t (Nat.le_refl _) h.k.size h.k).setCell hg0 _⟩

set_option maxRecDepth 8000 in
set_option maxHeartbeats 2000000 in
theorem specActionOfLevel_in (n : Nat) (w : World) (hn : 1 ≤ n ∧ n ≤ 60) (hl : (lineL n).length ≤ 72) :
    Calls Try.prog 34 #[.int .i64 (n : Int)] w (GivesAct (movL n matS) (movL n matT) 0 w) := by
  have hq : inB (n : Int) 1 60 = true := inB_mk (by omega)
  have HINF := Lib.hid (info_parts infoI)
  have HN1 := Lib.hid (show movL n matS = (lineL n).map (mv1 n matS) from rfl)
  have HN2 := Lib.hid (show movL n matT = (lineL n).map (mv1 n matT) from rfl)
  have HPR := Lib.hid (fun (k : Nat) (h : k < (lineL n).length) => line_pr h)
  have HLT := Lib.hid (fun (k : Nat) (h : k < (lineL n).length) => line_lt h)
  have HV1 := Lib.hid (fun x => mv1_S n x)
  have HV2 := Lib.hid (fun x => mv1_T n x)
  have HLL := Lib.hid (l06Line_any n)
  generalize mv1 n matS = F at *
  generalize mv1 n matT = G at *
  generalize lineL n = L at *
  go_enter Try.func34, Try.ntmps34
  go_wp2_with fail
  refine (l01In_any _ _ _ _).mono ?_
  rw [hq]
  rintro e w1 ⟨rfl, rfl⟩
  clear hq
  go_wp2_with fail
  refine (HLL.out _ hn).mono ?_
  rintro e w1 ⟨v, vs, rfl, O1, R1, hb⟩
  have hlc := LineC.of O1 R1
  have hvl : vs.length = L.length := by have := R1.len; rwa [rowsP_len] at this
  have B1 : Blk w1 w.heap.size 27 #[.slice none 0 0, .slice none 0 0] := (by repeat (first | (with_reducible assumption) | ((with_reducible refine Blk.new ?_); · first | omega | (simp; done) | (simp; omega)) | (with_reducible apply Blk.set4) | (with_reducible apply Blk.set3) | (with_reducible apply Blk.set2) | ((with_reducible refine Blk.put ?_ ?_); · first | omega | (simp; omega)) | (with_reducible refine Blk.old ?_) | (with_reducible refine Blk.drew ?_) | (with_reducible refine Blk.drewN ?_) | ((with_reducible refine Blk.below hb ?_ ?_); · first | omega | (simp; done) | (simp; omega))))
  have k1 : Below w.heap.size w w1 := (by repeat (first | (with_reducible exact Below.refl _ _) | (with_reducible assumption) | (with_reducible refine Below.drew ?_) | (with_reducible refine Below.drewN ?_) | ((with_reducible refine Below.al ?_ ?_); · first | omega | (simp; done) | (simp; omega)) | ((with_reducible refine Below.sc ?_ ?_); · first | omega | (simp; done) | (simp; omega)) | ((with_reducible refine Below.thru hb ?_ ?_); · first | omega | (simp; done) | (simp; omega))))
  have lB1 := B1.lt
  obtain ⟨vo, vc, rfl⟩ := O1.len
  clear hb O1 R1
  rw [hvl]
  replace hvl := Lib.hid hvl
  obtain ⟨N, hN⟩ : ∃ N, L.length = N := ⟨_, rfl⟩
  rw [hN]
  rw [hvl.out, hN] at hlc
  have HLC := Lib.hid hlc
  clear hlc
  rw [hN] at hl
  have HN := Lib.hid hN
  clear hN
  have hl3 : ¬ (72 : Int) < (N : Int) := by omega
  go_wp2_with fail
  refine forget (fun W_ => LvS w1 W_ (w1.heap.size + 1 + 1) [] [] (.slice (some ⟨w1.heap.size, 0, none⟩) 0 0) (.slice (some ⟨w1.heap.size + 1, 0, none⟩) 0 0)) ⟨Blk.new (by simp), Own.of_blk (xs := []) (cs := #[]) (Blk.old (Blk.old (Blk.new rfl))) (Nat.le_refl _) rfl (by simp [maxLen]), Own.of_blk (xs := []) (cs := #[]) (Blk.old (Blk.new (by simp))) (by omega) rfl (by simp [maxLen]), fun i h1 h2 => by simp only [Value.ownBlock, Option.some.injEq] at h1 h2; omega, (by repeat (first | (with_reducible exact Below.refl _ _) | (with_reducible assumption) | (with_reducible refine Below.drew ?_) | (with_reducible refine Below.drewN ?_) | ((with_reducible refine Below.al ?_ ?_); · first | omega | (simp; done) | (simp; omega)) | ((with_reducible refine Below.sc ?_ ?_); · first | omega | (simp; done) | (simp; omega)) | ((with_reducible refine Below.thru hb ?_ ?_); · first | omega | (simp; done) | (simp; omega))))⟩ ?_
  rintro w2 H2
  generalize hgA : w1.heap.size + 1 + 1 = gA at *
  have hgA1 : w1.heap.size ≤ gA := by omega
  clear hgA
  go_loopw [6] (fun i wr => ∃ (k : Nat) (sv tv : Value), k ≤ N ∧ i = .int .i64 k ∧ LvS w1 wr gA ((L.take k).map F) ((L.take k).map G) sv tv) (fun i _ => N - (intOf i).toNat)
  case atStart => exact ⟨0, _, _, Nat.zero_le _, rfl, by simpa only [List.take_zero, List.map_nil] using H2⟩
  case round =>
    clear H2
    obtain ⟨k, sv, tv, hk, rfl, H⟩ := hrel
    have hwr := H.k.size
    have lg := H.b.lt
    obtain ⟨so, sc, hs, -⟩ := H.s.slIn.form
    obtain ⟨tao, tc, ht, -⟩ := H.t.slIn.form
    have hlS : ((L.take k).map F).length = k := by rw [List.length_map, List.length_take, HN.out]; omega
    have hlT : ((L.take k).map G).length = k := by rw [List.length_map, List.length_take, HN.out]; omega
    rw [hlS] at hs
    rw [hlT] at ht
    subst hs ht
    have HLS := Lib.hid hlS
    have HLTT := Lib.hid hlT
    clear hlS hlT
    by_cases hlt : k < N
    · have hlt2 : k < L.length := by rw [HN.out]; exact hlt
      have HX := Lib.hid (show (L.take (k + 1)).map F = (L.take k).map F ++ [F L[k]] by rw [List.take_succ_eq_append_getElem hlt2, List.map_append]; rfl)
      have HY := Lib.hid (show (L.take (k + 1)).map G = (L.take k).map G ++ [G L[k]] by rw [List.take_succ_eq_append_getElem hlt2, List.map_append]; rfl)
      generalize (L.take k).map F = XS at *
      generalize (L.take k).map G = YS at *
      have i0 : (0 : Int) ≤ (k : Int) := by omega
      have i1 : (k : Int) < (N : Int) := by omega
      have HCR := Lib.hid (HLC.out.below H.k)
      obtain ⟨ao, ac, hav, hcl⟩ := HCR.out
      obtain ⟨g, hao, hg, hcs⟩ := hcl (by omega)
      obtain ⟨g2, c2, hg2, d0, d1, d2⟩ := hcs k hlt2
      rw [HN.out] at hav
      simp only [Value.slice.injEq, true_and] at hav
      obtain ⟨rfl, rfl⟩ := hav
      subst hao
      have hpr := HPR.out k hlt2
      have hlx := HLT.out k hlt2
      have hv1 := HV1.out L[k]
      have hv2 := HV2.out L[k]
      clear hcl hcs
      generalize L[k] = x at *
      obtain ⟨c, d⟩ := x
      simp only at d1 d2 hpr hlx hv1 hv2
      have HC1 := Lib.hid (fun w' h1 h2 => l06Number_any n (d : Int) (-(c : Int)) L (.slice (some ⟨g, 0, none⟩) N vc) w1.heap.size w' h1 h2 (by rw [HN.out]; omega) hn (isPrC_S hn.1 hpr))
      have HC2 := Lib.hid (fun w' h1 h2 => l06Number_any n (c : Int) ((c : Int) + (d : Int)) L (.slice (some ⟨g, 0, none⟩) N vc) w1.heap.size w' h1 h2 (by rw [HN.out]; omega) hn (isPrC_T hn.1 hpr))
      rw [← hv1] at HC1
      rw [← hv2] at HC2
      have hw1 : IntKind.i64.wrap (-(c : Int)) = -(c : Int) := by rw [IntKind.wrap_i64]; omega
      have hw2 : IntKind.i64.wrap ((c : Int) + (d : Int)) = (c : Int) + (d : Int) := by rw [IntKind.wrap_i64]; omega
      clear hpr hv1 hv2
      obtain ⟨jI, hinf⟩ := HINF.out
      replace hinf := Lib.hid hinf
      generalize F (c, d) = r1 at *
      generalize G (c, d) = r2 at *
      have HL1 := Lib.hid (show (XS ++ [r1]).length = k + 1 by rw [List.length_append, HLS.out]; rfl)
      have HL2 := Lib.hid (show (YS ++ [r2]).length = k + 1 by rw [List.length_append, HLTT.out]; rfl)
      go_wp2_with fail
      go_quiet (fail)
      go_wp2_with fail
      refine forget (fun W_ => LvS w1 W_ gA XS YS (.slice so k sc) (.slice tao k tc)) (H.below (Below.drewN (Below.refl _ _))) ?_
      rintro wa HA
      clear H HCR d0 d1 d2
      have cA := HA.b.p2
      have sA := HA.k.size
      go_cut [6] (fun s6 wq => s6 = .int .i64 (k : Int) ∧ ∃ vo1 vc1, LvS w1 wq gA (XS ++ [r1]) YS (.slice vo1 (k + 1) vc1) (.slice tao k tc))
      case first =>
        rename_i hJ hK
        replace hJ := Lib.hid hJ
        go_region_law (first
        | (go_simp; go_at_call 85; refine (HC1.out _ (HLC.out.below (by with_reducible exact (Below.drew HA.k))) (by have := HA.k.size; simp; omega)).mono ?_; rintro e w13 ⟨rfl, hb⟩; have H13 : LvS w1 w13 gA XS YS (.slice so k sc) (.slice tao k tc) := LvS.below (LvS.below HA (Below.drew (Below.refl _ _))) hb; have c13 := H13.b.p2; have s13 := H13.k.size; have l13 := H13.b.lt; clear hb; dsimp only)
        | (refine step_app_at encI rfl _ _ 22 2 8 rfl Try.underlying22 jI _ hinf.out.1 hinf.out.2.1 hinf.out.2.2.1 hinf.out.2.2.2 rfl (.slice so k sc) XS w1.heap.size w13.heap.size 1 #[.int .i64 r1] [r1] rfl (H13.s.alloc).toK rfl (Blk.new rfl) rfl (by simp only [List.length_cons, List.length_nil]; have := HLS.out; unfold maxLen; omega) (by simp only [List.length_cons, List.length_nil]; have := HLS.out; omega) (by simp; omega) ?_; intro v' w14 O14 hg ha; obtain ⟨vo1, vc1, hv'⟩ := O14.len; rw [HL1.out] at hv'; subst hv'; have G1 := LvS.grow1 (LvS.below H13 ((Below.refl _ _).alloc (Nat.le_refl _) _)) hgA1 (OwnK.toOwn O14) hg ha; have m14 := LvS.mid1 (LvS.below H13 ((Below.refl _ _).alloc (Nat.le_refl _) _)) hg; have e14 := m14.p2; have f14 := m14.free 0; have l14 := m14.lt; clear hg ha O14))
        all_goals (replace hJ := hJ.out)
        all_goals (go_wp2_with fail)
        all_goals go_meet
        all_goals exact ⟨rfl, vo1, vc1, G1⟩
      case rest =>
        obtain ⟨rfl, vo1, vc1, HB⟩ := hcut
        clear HA cA sA
        have cB := HB.b.p2
        have sB := HB.k.size
        go_wp2_with fail
        go_region_law (first
        | (go_simp; go_at_call 85; refine (HC2.out _ (HLC.out.below (by with_reducible exact (Below.drew HB.k))) (by have := HB.k.size; simp; omega)).mono ?_; rintro e w23 ⟨rfl, hb⟩; have H23 : LvS w1 w23 gA (XS ++ [r1]) YS (.slice vo1 (k + 1) vc1) (.slice tao k tc) := LvS.below (LvS.below HB (Below.drew (Below.refl _ _))) hb; have c23 := H23.b.p2; have s23 := H23.k.size; have l23 := H23.b.lt; clear hb; dsimp only)
        | (refine step_app_at encI rfl _ _ 22 2 8 rfl Try.underlying22 jI _ hinf.out.1 hinf.out.2.1 hinf.out.2.2.1 hinf.out.2.2.2 rfl (.slice tao k tc) YS w1.heap.size w23.heap.size 1 #[.int .i64 r2] [r2] rfl (H23.t.alloc).toK rfl (Blk.new rfl) rfl (by simp only [List.length_cons, List.length_nil]; have := HLTT.out; unfold maxLen; omega) (by simp only [List.length_cons, List.length_nil]; have := HLTT.out; omega) (by simp; omega) ?_; intro v' w24 O24 hg ha; obtain ⟨vo2, vc2, hv'⟩ := O24.len; rw [HL2.out] at hv'; subst hv'; have G2 := LvS.grow2 (LvS.below H23 ((Below.refl _ _).alloc (Nat.le_refl _) _)) hgA1 (OwnK.toOwn O24) hg ha; have m24 := LvS.mid2 (LvS.below H23 ((Below.refl _ _).alloc (Nat.le_refl _) _)) hg; have e24 := m24.p2; have f24 := m24.free 1; have l24 := m24.lt; clear hg ha O24))
        all_goals go_wp2
        all_goals go_roundw
        all_goals first
          | exact ⟨k + 1, _, _, by omega, by go_num, by rw [HX.out, HY.out]; exact G2⟩
          | (simp only [intOf]; omega)
    · obtain rfl : k = N := by omega
      have HEX := Lib.hid (show (L.take k).map F = movL n matS by rw [HN1.out, ← HN.out, List.take_length])
      have HEY := Lib.hid (show (L.take k).map G = movL n matT by rw [HN2.out, ← HN.out, List.take_length])
      have b3 := H.b.p2
      have B4 : Blk wr w.heap.size 27 #[.slice none 0 0, .slice none 0 0] := Blk.below H.k lB1 B1
      have b4 := B4.p2
      have f0 := B4.free 0
      have f1 := B4.free 1
      have lB4 := B4.lt
      have kw4 : Below w.heap.size w wr := Below.thru H.k (by omega) k1
      have OA : OwnA wr w1.heap.size (.slice so k sc) (.slice tao k tc) ⟨(L.take k).map F, (L.take k).map G⟩ := ⟨H.s, H.t, H.d⟩
      go_wp2
      refine ret_at (v := .tuple #[.agg #[.slice so k sc, .slice tao k tc], .int .i64 0]) (fun w' => Blk w' (w.heap.size) 27 (#[.slice so k sc, .slice tao k tc])) (by repeat (first | (with_reducible assumption) | ((with_reducible refine Blk.new ?_); · first | omega | (simp; done) | (simp; omega)) | (with_reducible apply Blk.set4) | (with_reducible apply Blk.set3) | (with_reducible apply Blk.set2) | ((with_reducible refine Blk.put ?_ ?_); · first | omega | (simp; omega)) | (with_reducible refine Blk.old ?_) | (with_reducible refine Blk.drew ?_) | (with_reducible refine Blk.drewN ?_) | ((with_reducible refine Blk.below hb ?_ ?_); · first | omega | (simp; done) | (simp; omega)))) (fun w' hB => by have q := hB.p2; simp [results, Try.results34, go_sem, q]) rfl ?_
      exact ⟨_, _, rfl, by rw [← HEX.out, ← HEY.out]; exact ((OA.put lB1).put lB1).mono (by omega), (by repeat (first | (with_reducible exact Below.refl _ _) | (with_reducible assumption) | (with_reducible refine Below.drew ?_) | (with_reducible refine Below.drewN ?_) | ((with_reducible refine Below.al ?_ ?_); · first | omega | (simp; done) | (simp; omega)) | ((with_reducible refine Below.sc ?_ ?_); · first | omega | (simp; done) | (simp; omega)) | ((with_reducible refine Below.thru hb ?_ ?_); · first | omega | (simp; done) | (simp; omega))))⟩

set_option maxRecDepth 8000 in
set_option maxHeartbeats 2000000 in
theorem specActionOfLevel_R (n : Int) (X Y : List Int) (c : Int) (w : World) (hR : lvlAct n = ⟨X, Y⟩) (hC : lvlCode n = c) :
    Calls Try.prog 34 #[.int .i64 n] w (GivesAct X Y c w) := by
  cases hq : inB n 1 60 with
  | false =>
    rw [(lvl_no hq).1] at hC
    rw [(lvl_no hq).2] at hR
    cases hR
    subst hC
    go_enter Try.func34, Try.ntmps34
    go_wp2_with fail
    refine (l01In_any _ _ _ _).mono ?_
    rw [hq]
    rintro e w1 ⟨rfl, rfl⟩
    clear hq
    go_wp2
    refine ret_at (v := .tuple #[.agg #[.slice none 0 0, .slice none 0 0], .int .i64 2]) (fun w' => Blk w' (w.heap.size) 27 (#[.slice none 0 0, .slice none 0 0])) (by repeat (first | (with_reducible assumption) | ((with_reducible refine Blk.new ?_); · first | omega | (simp; done) | (simp; omega)) | (with_reducible apply Blk.set4) | (with_reducible apply Blk.set3) | (with_reducible apply Blk.set2) | ((with_reducible refine Blk.put ?_ ?_); · first | omega | (simp; omega)) | (with_reducible refine Blk.old ?_) | (with_reducible refine Blk.drew ?_) | (with_reducible refine Blk.drewN ?_) | ((with_reducible refine Blk.below hb ?_ ?_); · first | omega | (simp; done) | (simp; omega)))) (fun w' hB => by have q := hB.p2; simp [results, Try.results34, go_sem, q]) rfl ?_
    exact ⟨_, _, rfl, OwnA.nil _ _, (by repeat (first | (with_reducible exact Below.refl _ _) | (with_reducible assumption) | (with_reducible refine Below.drew ?_) | (with_reducible refine Below.drewN ?_) | ((with_reducible refine Below.al ?_ ?_); · first | omega | (simp; done) | (simp; omega)) | ((with_reducible refine Below.sc ?_ ?_); · first | omega | (simp; done) | (simp; omega)) | ((with_reducible refine Below.thru hb ?_ ?_); · first | omega | (simp; done) | (simp; omega))))⟩
  | true =>
    obtain ⟨m, rfl⟩ : ∃ m : Nat, n = (m : Int) := ⟨n.toNat, by have := inB_true hq; omega⟩
    have hn : 1 ≤ m ∧ m ≤ 60 := by have := inB_true hq; omega
    by_cases hl : (lineL m).length ≤ 72
    · rw [(lvl_ok hq hl).1] at hC
      rw [(lvl_ok hq hl).2] at hR
      cases hR
      subst hC
      exact specActionOfLevel_in m w hn hl
    · have hl2 : (lineL m).length > 72 := by omega
      rw [(lvl_big hq hl2).1] at hC
      rw [(lvl_big hq hl2).2] at hR
      cases hR
      subst hC
      have hl3 := line_le m hn.2
      have HLL := Lib.hid (l06Line_any m)
      generalize lineL m = L at *
      go_enter Try.func34, Try.ntmps34
      go_wp2_with fail
      refine (l01In_any _ _ _ _).mono ?_
      rw [hq]
      rintro e w1 ⟨rfl, rfl⟩
      clear hq
      go_wp2_with fail
      refine (HLL.out _ hn).mono ?_
      rintro e w1 ⟨v, vs, rfl, O1, R1, hb⟩
      have B1 : Blk w1 w.heap.size 27 #[.slice none 0 0, .slice none 0 0] := (by repeat (first | (with_reducible assumption) | ((with_reducible refine Blk.new ?_); · first | omega | (simp; done) | (simp; omega)) | (with_reducible apply Blk.set4) | (with_reducible apply Blk.set3) | (with_reducible apply Blk.set2) | ((with_reducible refine Blk.put ?_ ?_); · first | omega | (simp; omega)) | (with_reducible refine Blk.old ?_) | (with_reducible refine Blk.drew ?_) | (with_reducible refine Blk.drewN ?_) | ((with_reducible refine Blk.below hb ?_ ?_); · first | omega | (simp; done) | (simp; omega))))
      have k1 : Below w.heap.size w w1 := (by repeat (first | (with_reducible exact Below.refl _ _) | (with_reducible assumption) | (with_reducible refine Below.drew ?_) | (with_reducible refine Below.drewN ?_) | ((with_reducible refine Below.al ?_ ?_); · first | omega | (simp; done) | (simp; omega)) | ((with_reducible refine Below.sc ?_ ?_); · first | omega | (simp; done) | (simp; omega)) | ((with_reducible refine Below.thru hb ?_ ?_); · first | omega | (simp; done) | (simp; omega))))
      have s1 := k1.size
      have lB1 := B1.lt
      have b1 := B1.p2
      have f0 := B1.free 0
      have f1 := B1.free 1
      have hvl : vs.length = L.length := by have := R1.len; rwa [rowsP_len] at this
      obtain ⟨vo, vc, rfl⟩ := O1.len
      have hv72 : (72 : Int) < (vs.length : Int) := by omega
      clear hb O1 R1 hvl
      go_wp2
      refine ret_at (v := .tuple #[.agg #[.slice none 0 0, .slice none 0 0], .int .i64 3]) (fun w' => Blk w' (w.heap.size) 27 (#[.slice none 0 0, .slice none 0 0])) (by repeat (first | (with_reducible assumption) | ((with_reducible refine Blk.new ?_); · first | omega | (simp; done) | (simp; omega)) | (with_reducible apply Blk.set4) | (with_reducible apply Blk.set3) | (with_reducible apply Blk.set2) | ((with_reducible refine Blk.put ?_ ?_); · first | omega | (simp; omega)) | (with_reducible refine Blk.old ?_) | (with_reducible refine Blk.drew ?_) | (with_reducible refine Blk.drewN ?_) | ((with_reducible refine Blk.below hb ?_ ?_); · first | omega | (simp; done) | (simp; omega)))) (fun w' hB => by have q := hB.p2; simp [results, Try.results34, go_sem, q]) rfl ?_
      exact ⟨_, _, rfl, OwnA.nil _ _, (by repeat (first | (with_reducible exact Below.refl _ _) | (with_reducible assumption) | (with_reducible refine Below.drew ?_) | (with_reducible refine Below.drewN ?_) | ((with_reducible refine Below.al ?_ ?_); · first | omega | (simp; done) | (simp; omega)) | ((with_reducible refine Below.sc ?_ ?_); · first | omega | (simp; done) | (simp; omega)) | ((with_reducible refine Below.thru hb ?_ ?_); · first | omega | (simp; done) | (simp; omega))))⟩

end Go.Proofs.Ytamkbgodenkboaa
