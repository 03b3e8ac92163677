-- PRINTED BY print.sh 35421559b90ae4d0a3588c463048766b98c2df88dd9212a6774a882060cdf62d: not written by this session
import Derived.Test.YtjjbaebddkejnaaPFnExactAreEqualMixesx0
import Derived.Test.YtjjbaebddkejnaaPFnExactAreEqualMixesx2
import Derived.Test.YtjjbaebddkejnaaPFnExactAreEqualMixesx4
namespace Go.Proofs.Ytjjbaebddkejnaa.PFnExactAreEqualMixes
open Go.RowKit Go.Proofs.YtjjbaebddkejnaaW.PrintWords Go.Proofs.YtjjbaebddkejnaaW.PrintLast Go.Proofs.YtjjbaebddkejnaaW.PrintMore
attribute [local go_sem] max2_int min2_int max_two min_two max_three min_three max_four min_four   -- for this text's walks alone
set_option linter.unusedVariables false
set_option linter.unusedSimpArgs false

/-! ### spec_l06Number: function 35 -/
def spec_l06Number.l0 : Nat → List (List Int) → Int → Int → Int → Option (Int)
  | 0, _, _, _, _ => none
  | k + 1, x1, x9, x10, x12 => if x12 < (x1.length : Int) then (if 0 ≤ x12 then (if 0 < ((rd_L1 x1 x12).length : Int) then (if (rd (rd_L1 x1 x12) 0) = x9 then (if 1 < ((rd_L1 x1 x12).length : Int) then (if (rd (rd_L1 x1 x12) 1) = x10 then (some x12) else (spec_l06Number.l0 k x1 x9 x10 (wrap64 (x12 + 1)))) else (none)) else (spec_l06Number.l0 k x1 x9 x10 (wrap64 (x12 + 1)))) else (none)) else (none)) else (some (-1))
def spec_l06Number.f (k : Nat) (a0 : Int) (l1 : List (List Int)) (a2 : Int) (a3 : Int) : Option (Int) := (spec_l01Mod.f a2 a0).bind fun t160 => ((spec_l01Mod.f a3 a0).bind fun t161 => ((spec_l06Normal.f k a0 t160 t161).bind fun bt162 => (spec_l06Number.l0 k l1 bt162.1 bt162.2.1 0)))
theorem spec_l06Number.mono_l : ∀ k, (∀ y0 y1 y2 y3, LeO (spec_l06Number.l0 k y0 y1 y2 y3) (spec_l06Number.l0 (k + 1) y0 y1 y2 y3))
  | 0 => fun _ _ _ _ r h => by simp [spec_l06Number.l0] at h
  | k + 1 => by
    have ih0 := spec_l06Number.mono_l k
    · intro y0 y1 y2 y3
      unfold spec_l06Number.l0
      repeat' first
      | (with_reducible exact ih0 _ _ _ _)
      | (with_reducible exact spec_l06Normal.mono _ _ _ _)
      | (with_reducible exact LeO.refl _)
      | (with_reducible exact LeO.none _)
      | (with_reducible refine LeO.ite ?_ ?_)
      | (with_reducible refine LeO.bind ?_ (fun _ => ?_))
      | exact ih0 _ _ _ _
      | exact spec_l06Normal.mono _ _ _ _
      | exact LeO.none _
      | refine LeO.ite ?_ ?_
      | refine LeO.bind ?_ (fun _ => ?_)
theorem spec_l06Number.mono : ∀ a0 a1 a2 a3 k, LeO (spec_l06Number.f k a0 a1 a2 a3) (spec_l06Number.f (k + 1) a0 a1 a2 a3) := by
  intro a0 a1 a2 a3 k
  have ih0 := spec_l06Number.mono_l k
  unfold spec_l06Number.f
  repeat' first
      | (with_reducible exact ih0 _ _ _ _)
      | (with_reducible exact spec_l06Normal.mono _ _ _ _)
      | (with_reducible exact LeO.refl _)
      | (with_reducible exact LeO.none _)
      | (with_reducible refine LeO.ite ?_ ?_)
      | (with_reducible refine LeO.bind ?_ (fun _ => ?_))
      | exact ih0 _ _ _ _
      | exact spec_l06Normal.mono _ _ _ _
      | exact LeO.none _
      | refine LeO.ite ?_ ?_
      | refine LeO.bind ?_ (fun _ => ?_)
set_option maxHeartbeats 8000000 in
set_option maxRecDepth 100000 in
theorem spec_l06Number.calls (k : Nat) (a0 : Int) (A1 : Option Addr) (c1 : Nat) (l1 : List (List Int)) (a2 : Int) (a3 : Int) (r : Int) (w : World) (hr1 : Kd.C (Kd.slice 2 (Kd.int .i64)) w A1 l1.length l1) (hc1 : l1.length ≤ c1) (h : spec_l06Number.f k a0 l1 a2 a3 = some r) :
    Calls Try.prog 35 #[.int .i64 a0, .slice A1 l1.length c1, .int .i64 a2, .int .i64 a3] w fun e w' => e = .returned (.int .i64 r) ∧ Below w.heap.size w w' := by
  have HR1 := Aside0.mk hr1
  have HC1 := Aside0.mk hc1
  clear hr1 hc1
  have HB := Aside0.mk (Below.refl w.heap.size w)
  have H : ((spec_l01Mod.f a2 a0).bind fun t160 => ((spec_l01Mod.f a3 a0).bind fun t161 => ((spec_l06Normal.f k a0 t160 t161).bind fun bt162 => (spec_l06Number.l0 k l1 bt162.1 bt162.2.1 0)))) = some r := h
  clear h
  replace H := Option.bind_eq_some_iff.mp H
  obtain ⟨t160, A50, H⟩ := H
  replace H : ((spec_l01Mod.f a3 a0).bind fun t161 => ((spec_l06Normal.f k a0 t160 t161).bind fun bt162 => (spec_l06Number.l0 k l1 bt162.1 bt162.2.1 0))) = some r := H
  have A5 := Aside0.mk A50
  clear A50
  replace H := Option.bind_eq_some_iff.mp H
  obtain ⟨t161, A60, H⟩ := H
  replace H : ((spec_l06Normal.f k a0 t160 t161).bind fun bt162 => (spec_l06Number.l0 k l1 bt162.1 bt162.2.1 0)) = some r := H
  have A6 := Aside0.mk A60
  clear A60
  replace H := Option.bind_eq_some_iff.mp H
  obtain ⟨⟨t162, t163, t164⟩, A70, H⟩ := H
  replace H : (spec_l06Number.l0 k l1 t162 t163 0) = some r := H
  have A7 := Aside0.mk A70
  clear A70
  have H' := Aside0.mk H
  clear H
  go_enter Try.func35, Try.ntmps35
  go_wp2_with (first | ((with_reducible refine gate_callee (f := 56) rfl ?_); refine goesL_ (some 17) rfl rfl Try.func56 (by kernel_rfl) rfl #[.int .i64 a2, .int .i64 a0] rfl (by (try simp only [List.map_toArray, List.map_cons, List.map_nil]); first | done | rfl | (simp only [List.length_drop, List.length_take]; rfl)) ?_; (with_reducible refine (spec_l01Mod.calls a2 a0 t160 _ A5.out).mono ?_); rintro e w' ⟨rfl, ⟨nd, rfl⟩⟩; refine ⟨_, rfl, ?_⟩) | ((with_reducible refine gate_callee (f := 56) rfl ?_); refine goesL_ (some 20) rfl rfl Try.func56 (by kernel_rfl) rfl #[.int .i64 a3, .int .i64 a0] rfl (by (try simp only [List.map_toArray, List.map_cons, List.map_nil]); first | done | rfl | (simp only [List.length_drop, List.length_take]; rfl)) ?_; (with_reducible refine (spec_l01Mod.calls a3 a0 t161 _ A6.out).mono ?_); rintro e w' ⟨rfl, ⟨nd, rfl⟩⟩; refine ⟨_, rfl, ?_⟩) | ((with_reducible refine gate_callee (f := 42) rfl ?_); refine goesL_ (some 21) rfl rfl Try.func42 (by kernel_rfl) rfl #[.int .i64 a0, .int .i64 t160, .int .i64 t161] rfl (by (try simp only [List.map_toArray, List.map_cons, List.map_nil]); first | done | rfl | (simp only [List.length_drop, List.length_take]; rfl)) ?_; (with_reducible refine (spec_l06Normal.calls k a0 t160 t161 t162 t163 t164 _ A7.out).mono ?_); rintro e w8 ⟨rfl, hb⟩; refine ⟨_, rfl, ?_⟩; have n0_ := Aside0.mk (below_step (by repeat (first | (with_reducible first | exact HB.out | apply below_alloc | apply pw_below_drewN | apply below_drew1) | exact HB.out)) hb); clear HB; have HB := n0_; clear n0_; (try clear hb); (try clear hb2); (try clear hk); (try clear hi)))
  go_loopg [12] k (fun kq v12 w' => ∃ (x12_1 : Int), v12 = .int .i64 x12_1 ∧ Aside0 (spec_l06Number.l0 kq l1 t162 t163 x12_1 = some r) ∧ Aside0 (kq ≤ k) ∧ Aside0 (Below w.heap.size w w'))
  case atStart => exact ⟨(0), (by first | rfl | (simp; done) | (simp [*]; done)), H', ⟨Nat.le_refl _⟩, ⟨by repeat (first | (with_reducible first | exact HB.out | apply below_alloc | apply pw_below_drewN | apply below_drew1) | exact HB.out)⟩⟩
  case round =>
    clear H'
    try clear c1
    try clear p2
    try clear c3
    try clear c4
    try clear c5
    obtain ⟨x12_1, rfl, HA, HK1, HB⟩ := hrel
    cases gk with
    | zero => exact absurd HA.out (by simp [spec_l06Number.l0])
    | succ k1 =>
      have H := HA.out
      clear HA
      simp only [spec_l06Number.l0] at H
      by_cases c9 : x12_1 < (l1.length : Int)
      · rw [if_pos c9] at H
        have c9b0 : decide (x12_1 < (l1.length : Int)) = true := decide_eq_true c9
        clear c9
        by_cases c10 : 0 ≤ x12_1
        · rw [if_pos c10] at H
          have c10b0 : decide (0 ≤ x12_1) = true := decide_eq_true c10
          clear c10
          by_cases c11 : 0 < ((rd_L1 l1 x12_1).length : Int)
          · rw [if_pos c11] at H
            have c11b0 : decide (0 < ((rd_L1 l1 x12_1).length : Int)) = true := decide_eq_true c11
            have c11b1 : decide (0 < (rd_L1 l1 x12_1).length) = true := decide_eq_true (by omega)
            clear c11
            by_cases c12 : (rd (rd_L1 l1 x12_1) 0) = t162
            · rw [if_pos c12] at H
              have c12b0 : ((rd (rd_L1 l1 x12_1) 0) == t162) = true := beq_iff_eq.mpr c12
              have c12b1 : ((rd (rd_L1 l1 x12_1) 0) != t162) = false := bne_eq_false_iff_eq.mpr c12
              clear c12
              by_cases c13 : 1 < ((rd_L1 l1 x12_1).length : Int)
              · rw [if_pos c13] at H
                have c13b0 : decide (1 < ((rd_L1 l1 x12_1).length : Int)) = true := decide_eq_true c13
                have c13b1 : decide (1 < (rd_L1 l1 x12_1).length) = true := decide_eq_true (by omega)
                clear c13
                by_cases c14 : (rd (rd_L1 l1 x12_1) 1) = t163
                · rw [if_pos c14] at H
                  have c14b0 : ((rd (rd_L1 l1 x12_1) 1) == t163) = true := beq_iff_eq.mpr c14
                  have c14b1 : ((rd (rd_L1 l1 x12_1) 1) != t163) = false := bne_eq_false_iff_eq.mpr c14
                  clear c14
                  obtain rfl := Option.some.inj H
                  have p165 : 0 ≤ (x12_1 : Int) := of_decide_eq_true (by first | (with_reducible assumption) | assumption)
                  have q165 : x12_1 < (l1.length : Int) := of_decide_eq_true (by first | (with_reducible assumption) | assumption)
                  obtain ⟨ad165, A165_0, c165_0, e165, hx165_0, hl165_0, hi165_0⟩ := at_L1 HR1.out x12_1 p165 q165
                  cases e165
                  replace hx165_0 := (HB.out.cell (World.block_lt_of_cell? w _ hx165_0)).trans hx165_0
                  have HR165_0 := Aside0.mk hi165_0
                  have HC165_0 := Aside0.mk hl165_0
                  clear hi165_0 hl165_0
                  replace p165 := eq_true p165
                  replace q165 := eq_true q165
                  have p166 : 0 ≤ (0 : Int) := (by omega)
                  have q166 : 0 < ((rd_L1 l1 x12_1).length : Int) := of_decide_eq_true (by first | (with_reducible assumption) | assumption)
                  obtain ⟨ad166, e166, hx166_0⟩ := Kd.at_int HR165_0.out 0 p166 q166
                  cases e166
                  have qi166 : (0 < (rd_L1 l1 x12_1).length) = True := eq_true (by omega)
                  (try rw [show ((0 : Int)).toNat = 0 from rfl] at hx166_0)
                  (try rw [Addr.add_zero'] at hx166_0)
                  replace hx166_0 := (HB.out.cell (World.block_lt_of_cell? w _ hx166_0)).trans hx166_0
                  replace p166 := eq_true p166
                  replace q166 := eq_true q166
                  have p167 : 0 ≤ (x12_1 : Int) := of_decide_eq_true (by first | (with_reducible assumption) | assumption)
                  have q167 : x12_1 < (l1.length : Int) := of_decide_eq_true (by first | (with_reducible assumption) | assumption)
                  obtain ⟨ad167, A167_0, c167_0, e167, hx167_0, hl167_0, hi167_0⟩ := at_L1 HR1.out x12_1 p167 q167
                  obtain rfl : ad165 = ad167 := (by injection e167)
                  replace hx167_0 := (HB.out.cell (World.block_lt_of_cell? w _ hx167_0)).trans hx167_0
                  have HR167_0 := Aside0.mk hi167_0
                  have HC167_0 := Aside0.mk hl167_0
                  clear hi167_0 hl167_0
                  replace p167 := eq_true p167
                  replace q167 := eq_true q167
                  have ea_ := Option.some.inj (hx165_0.symm.trans hx167_0)
                  injection ea_ with ea_ en_ ec_
                  subst ea_
                  subst ec_
                  clear en_
                  have p168 : 0 ≤ (1 : Int) := (by omega)
                  have q168 : 1 < ((rd_L1 l1 x12_1).length : Int) := of_decide_eq_true (by first | (with_reducible assumption) | assumption)
                  obtain ⟨ad168, e168, hx168_0⟩ := Kd.at_int HR167_0.out 1 p168 q168
                  cases e168
                  (try simp only [show (1 : Int).toNat = 1 from rfl, Nat.reduceMul, Nat.reduceEqDiff, Go.Addr.add, ↓reduceIte] at hx168_0)
                  have qi168 : (1 < (rd_L1 l1 x12_1).length) = True := eq_true (by omega)
                  (try rw [show ((1 : Int)).toNat = 1 from rfl] at hx168_0)
                  replace hx168_0 := (HB.out.cell (World.block_lt_of_cell? w _ hx168_0)).trans hx168_0
                  replace p168 := eq_true p168
                  replace q168 := eq_true q168
                  go_wp2
                  go_ret
                  exact ⟨by first | rfl | (simp [errW_none, errW_some] <;> rfl) | (simp [*, errW_none, errW_some] <;> rfl), by repeat (first | (with_reducible first | exact HB.out | apply below_alloc | apply pw_below_drewN | apply below_drew1) | exact HB.out)⟩
                · rw [if_neg c14] at H
                  have c14b0 : ((rd (rd_L1 l1 x12_1) 1) == t163) = false := beq_eq_false_iff_ne.mpr c14
                  have c14b1 : ((rd (rd_L1 l1 x12_1) 1) != t163) = true := bne_iff_ne.mpr c14
                  have H' := Aside0.mk H
                  clear H
                  have p165 : 0 ≤ (x12_1 : Int) := of_decide_eq_true (by first | (with_reducible assumption) | assumption)
                  have q165 : x12_1 < (l1.length : Int) := of_decide_eq_true (by first | (with_reducible assumption) | assumption)
                  obtain ⟨ad165, A165_0, c165_0, e165, hx165_0, hl165_0, hi165_0⟩ := at_L1 HR1.out x12_1 p165 q165
                  cases e165
                  replace hx165_0 := (HB.out.cell (World.block_lt_of_cell? w _ hx165_0)).trans hx165_0
                  have HR165_0 := Aside0.mk hi165_0
                  have HC165_0 := Aside0.mk hl165_0
                  clear hi165_0 hl165_0
                  replace p165 := eq_true p165
                  replace q165 := eq_true q165
                  have p166 : 0 ≤ (0 : Int) := (by omega)
                  have q166 : 0 < ((rd_L1 l1 x12_1).length : Int) := of_decide_eq_true (by first | (with_reducible assumption) | assumption)
                  obtain ⟨ad166, e166, hx166_0⟩ := Kd.at_int HR165_0.out 0 p166 q166
                  cases e166
                  have qi166 : (0 < (rd_L1 l1 x12_1).length) = True := eq_true (by omega)
                  (try rw [show ((0 : Int)).toNat = 0 from rfl] at hx166_0)
                  (try rw [Addr.add_zero'] at hx166_0)
                  replace hx166_0 := (HB.out.cell (World.block_lt_of_cell? w _ hx166_0)).trans hx166_0
                  replace p166 := eq_true p166
                  replace q166 := eq_true q166
                  have p167 : 0 ≤ (x12_1 : Int) := of_decide_eq_true (by first | (with_reducible assumption) | assumption)
                  have q167 : x12_1 < (l1.length : Int) := of_decide_eq_true (by first | (with_reducible assumption) | assumption)
                  obtain ⟨ad167, A167_0, c167_0, e167, hx167_0, hl167_0, hi167_0⟩ := at_L1 HR1.out x12_1 p167 q167
                  obtain rfl : ad165 = ad167 := (by injection e167)
                  replace hx167_0 := (HB.out.cell (World.block_lt_of_cell? w _ hx167_0)).trans hx167_0
                  have HR167_0 := Aside0.mk hi167_0
                  have HC167_0 := Aside0.mk hl167_0
                  clear hi167_0 hl167_0
                  replace p167 := eq_true p167
                  replace q167 := eq_true q167
                  have ea_ := Option.some.inj (hx165_0.symm.trans hx167_0)
                  injection ea_ with ea_ en_ ec_
                  subst ea_
                  subst ec_
                  clear en_
                  have p168 : 0 ≤ (1 : Int) := (by omega)
                  have q168 : 1 < ((rd_L1 l1 x12_1).length : Int) := of_decide_eq_true (by first | (with_reducible assumption) | assumption)
                  obtain ⟨ad168, e168, hx168_0⟩ := Kd.at_int HR167_0.out 1 p168 q168
                  cases e168
                  (try simp only [show (1 : Int).toNat = 1 from rfl, Nat.reduceMul, Nat.reduceEqDiff, Go.Addr.add, ↓reduceIte] at hx168_0)
                  have qi168 : (1 < (rd_L1 l1 x12_1).length) = True := eq_true (by omega)
                  (try rw [show ((1 : Int)).toNat = 1 from rfl] at hx168_0)
                  replace hx168_0 := (HB.out.cell (World.block_lt_of_cell? w _ hx168_0)).trans hx168_0
                  replace p168 := eq_true p168
                  replace q168 := eq_true q168
                  go_wp2
                  go_roundg k1
                  case measure => have := HK1.out; omega
                  case rel => exact ⟨(wrap64 (x12_1 + 1)), (by first | rfl | (simp; done) | (simp [*]; done)), H', ⟨by have := HK1.out; omega⟩, ⟨by repeat (first | (with_reducible first | exact HB.out | apply below_alloc | apply pw_below_drewN | apply below_drew1) | exact HB.out)⟩⟩
              · rw [if_neg c13] at H
                exact absurd H (by simp)
            · rw [if_neg c12] at H
              have c12b0 : ((rd (rd_L1 l1 x12_1) 0) == t162) = false := beq_eq_false_iff_ne.mpr c12
              have c12b1 : ((rd (rd_L1 l1 x12_1) 0) != t162) = true := bne_iff_ne.mpr c12
              have H' := Aside0.mk H
              clear H
              have p165 : 0 ≤ (x12_1 : Int) := of_decide_eq_true (by first | (with_reducible assumption) | assumption)
              have q165 : x12_1 < (l1.length : Int) := of_decide_eq_true (by first | (with_reducible assumption) | assumption)
              obtain ⟨ad165, A165_0, c165_0, e165, hx165_0, hl165_0, hi165_0⟩ := at_L1 HR1.out x12_1 p165 q165
              cases e165
              replace hx165_0 := (HB.out.cell (World.block_lt_of_cell? w _ hx165_0)).trans hx165_0
              have HR165_0 := Aside0.mk hi165_0
              have HC165_0 := Aside0.mk hl165_0
              clear hi165_0 hl165_0
              replace p165 := eq_true p165
              replace q165 := eq_true q165
              have p166 : 0 ≤ (0 : Int) := (by omega)
              have q166 : 0 < ((rd_L1 l1 x12_1).length : Int) := of_decide_eq_true (by first | (with_reducible assumption) | assumption)
              obtain ⟨ad166, e166, hx166_0⟩ := Kd.at_int HR165_0.out 0 p166 q166
              cases e166
              have qi166 : (0 < (rd_L1 l1 x12_1).length) = True := eq_true (by omega)
              (try rw [show ((0 : Int)).toNat = 0 from rfl] at hx166_0)
              (try rw [Addr.add_zero'] at hx166_0)
              replace hx166_0 := (HB.out.cell (World.block_lt_of_cell? w _ hx166_0)).trans hx166_0
              replace p166 := eq_true p166
              replace q166 := eq_true q166
              go_wp2
              go_roundg k1
              case measure => have := HK1.out; omega
              case rel => exact ⟨(wrap64 (x12_1 + 1)), (by first | rfl | (simp; done) | (simp [*]; done)), H', ⟨by have := HK1.out; omega⟩, ⟨by repeat (first | (with_reducible first | exact HB.out | apply below_alloc | apply pw_below_drewN | apply below_drew1) | exact HB.out)⟩⟩
          · rw [if_neg c11] at H
            exact absurd H (by simp)
        · rw [if_neg c10] at H
          exact absurd H (by simp)
      · rw [if_neg c9] at H
        have c9b0 : decide (x12_1 < (l1.length : Int)) = false := decide_eq_false c9
        clear c9
        obtain rfl := Option.some.inj H
        go_wp2
        go_ret
        exact ⟨by first | rfl | (simp [errW_none, errW_some] <;> rfl) | (simp [*, errW_none, errW_some] <;> rfl), by repeat (first | (with_reducible first | exact HB.out | apply below_alloc | apply pw_below_drewN | apply below_drew1) | exact HB.out)⟩

end Go.Proofs.Ytjjbaebddkejnaa.PFnExactAreEqualMixes
