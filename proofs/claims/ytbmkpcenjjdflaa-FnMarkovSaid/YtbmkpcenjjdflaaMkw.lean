/- MarkovNumbers: both walks. -/
import Derived.Test.YtbmkpcenjjdflaaMks
import Derived.Test.YtbmkpcenjjdflaaShelfCpt
import Derived.Shelf.SortM.SortNone
import Derived.Sort.OwnSortedInts
namespace Go.Proofs.Ytbmkpcenjjdflaa
open Go.RowKit
set_option linter.unusedSimpArgs false

theorem infoI : (Try.prog.info? 2).map (fun i => (i.zero, i.size, i.bytes)) = some (some (.int .i64 0), 1, 8) := by kernel_rfl
def mkL (n : Int) : List Int := if inB n 0 1000000 = true then zsL n else []
theorem mk_yes {n : Int} (h : inB n 0 1000000 = true) : mkL n = zsL n ∧ tbC n = 0 := ⟨by unfold mkL; rw [if_pos h], (tb_yes h).2⟩
theorem mk_no {n : Int} (h : inB n 0 1000000 = false) : mkL n = [] ∧ tbC n = 2 := ⟨by unfold mkL; rw [h]; rfl, (tb_no h).2⟩
theorem zs_len (n : Int) : (zsL n).length = (trB n).length := by simp [zsL]
theorem tr_len (n : Int) : (trB n).length ≤ 40 := List.length_filter_le _ _
theorem ne_types {α β : Type} {e : Enc α} {e2 : Enc β} {E E2 : TypeId} {w : World} {B B2 g : Nat} {v u : Value} {xs : List α} {ys : List β} (h : OwnK e E w B v xs) (k : OwnK e2 E2 w B2 u ys) (hE : E ≠ E2) (hg : v.ownBlock = some g) : u.ownBlock ≠ some g := by
  intro hu
  rcases h.2 with ⟨h', _⟩ | ⟨g1, c1, cur1, h', _, hh1, _⟩
  · rw [h'] at hg; cases hg
  · rcases k.2 with ⟨k', _⟩ | ⟨g2, c2, cur2, k', _, hh2, _⟩
    · rw [k'] at hu; cases hu
    · rw [h'] at hg
      rw [k'] at hu
      simp only [Value.ownBlock, Option.some.injEq] at hg hu
      subst hg hu
      rw [hh1] at hh2
      simp at hh2
      exact hE hh2.2
theorem sortN_any (v : Value) (xs : List Int) (B : Nat) (w : World) (h : Own w B v xs) (hnv : v ≠ .slice none 0 0) (hl : xs.length ≤ 1000000000000000000) :
    Calls Try.prog 34 #[v] w fun e w' => e = .returned (.tuple #[]) ∧ ∃ ys : List Int, ys.Perm xs ∧ ys.Pairwise (· ≤ ·) ∧ Own w' B v ys ∧ w.grownBy w' v.ownBlock := by
  obtain ⟨h1, h2⟩ := h
  rcases h2 with ⟨rfl, h2⟩ | ⟨g, cap, cur, rfl, hg, hh, hn, hc, hs, ht⟩
  · exact absurd rfl hnv
  · have e := AnyM.slices_Sort_int Try.sort64 g 0 cap xs w (holds_of_blockI hh (by rw [Nat.mul_one] at ht; exact ht)) (lt_of_block hh) (by omega)
    refine e.mono ?_
    rintro e w' ⟨rfl, n, os, rfl⟩
    have hl' : (xs.mergeSort fun x y => decide (x ≤ y)).length = xs.length := List.length_mergeSort _
    refine ⟨rfl, xs.mergeSort fun x y => decide (x ≤ y), List.mergeSort_perm _ _, ?_, ?_, grownBy_sortedI _⟩
    · have := List.pairwise_mergeSort (le := fun x y : Int => decide (x ≤ y)) (fun a b c h1 h2 => by simp at *; omega) (fun a b => by simp; omega) xs
      exact this.imp (fun h => by simpa using h)
    · have o := ownsRow_sortedI (os := os) (n := n) (ts := xs.mergeSort fun x y => decide (x ≤ y)) hl' hg hh hn hc hs
      unfold Own
      rw [hl']
      exact o
theorem compactN_any (g m cap : Nat) (xs : List Int) (B : Nat) (w : World) (h : Own w B (.slice (some ⟨g, 0, none⟩) m cap) xs) (hl : xs.length = m) :
    Calls Try.prog 35 #[.slice (some ⟨g, 0, none⟩) m cap] w fun e w' => ∃ v, e = .returned v ∧ Own w' B v (Lib.compactUpTo xs.toArray xs.length) ∧ w.grownBy w' (some g) := by
  subst hl
  obtain ⟨h1, h2⟩ := h
  rcases h2 with ⟨h2, _⟩ | ⟨g', cap', cur, h2, hg, hh, hn, hc, hs, ht⟩
  · cases h2
  · cases h2
    rw [Nat.mul_one] at ht
    have e := AnyE.slices_Compact Try.compact64 (Value.int .i64) (fun _ => rfl) (EqlAt.intD _ _ _) (NeqAt.intD _ _ _) 0 (fun w => by kernel_rfl) g 0 cap xs.toArray w (holds_of_blockI hh ht) (by simp; unfold maxLen at hc; omega) (by simpa using hn)
    change Calls Try.prog 35 _ _ _ at e
    rw [List.size_toArray] at e
    refine e.mono ?_
    rintro e w' ⟨rfl, q, rfl⟩
    obtain ⟨C, hC⟩ : ∃ C, Lib.compactUpTo xs.toArray xs.length = C := ⟨_, rfl⟩
    have hCl : C.length ≤ xs.length := by
      rw [← hC, Lib.compactUpTo, List.length_map]
      exact Nat.le_trans (List.length_filter_le _ _) (by simp)
    rw [hC]
    have hz : (C ++ List.replicate (xs.length - C.length) (0 : Int)).length = xs.length := by simp; omega
    have e0 : Go.Sort.putRow (Value.int .i64) (Go.Sort.ahead w q) g 0 (C ++ List.replicate (xs.length - C.length) (0 : Int)).toArray = Go.Sort.grow (Go.Sort.putRow (Value.int .i64) (Go.Sort.ahead w q) g 0 (C ++ List.replicate (xs.length - C.length) (0 : Int)).toArray) #[] := by rw [Go.Sort.grow_empty]
    rw [e0]
    refine ⟨_, rfl, ?_, grownBy_sortedI _⟩
    refine ⟨by simp, .inr ⟨g, cap, _, rfl, hg, heap_sortedI _ hh, by omega, hc, by simpa [Go.Sort.putCells] using hs, ?_⟩⟩
    have h6 := take_putCellsI cur (C ++ List.replicate (xs.length - C.length) (0 : Int)) (by rw [hz]; omega)
    rw [hz] at h6
    have h7 := congrArg (List.take C.length) h6
    rw [List.take_take, Nat.min_eq_left hCl, List.map_append, List.take_left' (by simp)] at h7
    rw [Nat.mul_one]
    exact h7
def GivesMk (n : Int) (w : World) (e : Ending) (w' : World) : Prop := ∃ v, e = .returned (.tuple #[v, .int .i64 (tbC n)]) ∧ Own w' w.heap.size v (mkL n) ∧ Below w.heap.size w w'
set_option maxRecDepth 8000 in
set_option maxHeartbeats 1000000 in
theorem specMarkovNumbers_any (n : Int) (w : World) : Calls Try.prog 11 #[.int .i64 n] w (GivesMk n w) := by
  obtain ⟨GF, hGF⟩ : ∃ GF, GivesMk n w = GF := ⟨_, rfl⟩
  rw [hGF]
  have HGF := Lib.hid hGF
  have HI := Lib.hid (fun w' => l01In_any n 0 1000000 w')
  have hM : trM = 1000000 := rfl
  clear hGF
  cases hb : inB n 0 1000000 with
  | false =>
    have HE := Lib.hid (mk_no hb)
    rw [hb] at HI
    clear hb
    go_enter Try.func11, Try.ntmps11
    go_wp2_with fail
    refine (HI.out _).mono ?_
    rintro e w1 ⟨rfl, rfl⟩
    go_wp2
    rw [← HGF.out]
    exact ⟨_, by rw [HE.out.2]; rfl, by rw [HE.out.1]; exact Own.nil _ _, Below.refl _ _⟩
  | true =>
    have HE := Lib.hid (mk_yes hb)
    have hbd := inB_true hb
    have HT := Lib.hid (fun w' => l09Triples_any n w' hbd.1 (by rw [hM]; exact hbd.2))
    have HZ := Lib.hid (show zsL n = (trB n).map T3.z from rfl)
    have HSO := Lib.hid (zsL_sorted n)
    have hlen := tr_len n
    rw [hb] at HI
    clear hb hbd
    generalize trB n = L at *
    go_enter Try.func11, Try.ntmps11
    go_wp2_with fail
    refine (HI.out _).mono ?_
    rintro e w1 ⟨rfl, rfl⟩
    go_wp2_with fail
    refine (HT.out _).mono ?_
    rintro e w2 ⟨v, rfl, O, nv, k2⟩
    rcases O.form with ⟨h1, _⟩ | ⟨ga, ca, h1, hga, hga2, -⟩
    · exact absurd h1 nv
    subst h1
    go_wp2_with fail
    obtain ⟨zs, hzs⟩ : ∃ zs, L.map T3.z = zs := ⟨_, rfl⟩
    have HZL := Lib.hid (show zs.length = L.length by rw [← hzs]; simp)
    have HZA := Lib.hid (show ∀ k (h : k < L.length), zs[k]? = some L[k].z from fun k h => by rw [← hzs]; simp [h])
    rw [HZ.out, hzs] at HSO
    have HZE := Lib.hid (show zsL n = zs by rw [HZ.out, hzs])
    clear hzs HZ
    have HO := Lib.hid O
    have s2 := k2.size
    have HINF := Lib.hid (info_parts infoI)
    obtain ⟨jI, hinf⟩ := HINF.out
    replace hinf := Lib.hid hinf
    clear O nv
    refine forget (fun W_ => Own W_ w2.heap.size (.slice (some ⟨w2.heap.size, 0, none⟩) 0 0) [] ∧ Below w2.heap.size w2 W_ ∧ w2.heap.size ≤ W_.heap.size) ⟨Own.of_blk (xs := []) (by repeat (first | (with_reducible assumption) | ((with_reducible refine Blk.new ?_); · first | omega | (simp; done) | (simp; omega)) | (with_reducible apply Blk.set4) | (with_reducible apply Blk.set3) | (with_reducible apply Blk.set2) | ((with_reducible refine Blk.put ?_ ?_); · first | omega | (simp; omega)) | (with_reducible refine Blk.old ?_) | (with_reducible refine Blk.drew ?_) | (with_reducible refine Blk.drewN ?_) | ((with_reducible refine Blk.below hb ?_ ?_); · first | omega | (simp; done) | (simp; omega)))) (by omega) rfl (by simp [maxLen]), (by repeat (first | (with_reducible exact Below.refl _ _) | (with_reducible assumption) | (with_reducible refine Below.drew ?_) | (with_reducible refine Below.drewN ?_) | ((with_reducible refine Below.al ?_ ?_); · first | omega | (simp; done) | (simp; omega)) | ((with_reducible refine Below.sc ?_ ?_); · first | omega | (simp; done) | (simp; omega)) | ((with_reducible refine Below.thru hb ?_ ?_); · first | omega | (simp; done) | (simp; omega)))), by simp⟩ ?_
    rintro w0 ⟨O0, k0, s0⟩
    go_loopw [5, 6] (fun v i wr => ∃ k : Nat, k ≤ L.length ∧ i = .int .i64 k ∧ Own wr w2.heap.size v (zs.take k) ∧ v ≠ .slice none 0 0 ∧ Below w2.heap.size w2 wr ∧ w2.heap.size ≤ wr.heap.size) (fun _ i _ => L.length - (intOf i).toNat)
    case atStart => exact ⟨0, Nat.zero_le _, rfl, O0, by simp, k0, s0⟩
    case round =>
      clear O0 k0 s0
      obtain ⟨k, hk, rfl, O, nv, kwr, swr⟩ := hrel
      rcases O.toK.form with ⟨h1, _⟩ | ⟨go, vc, h1, hgo, hgo2, -⟩
      · exact absurd h1 nv
      have hlen : (zs.take k).length = k := by rw [List.length_take, HZL.out]; omega
      rw [hlen] at h1
      subst h1
      have HLEN := Lib.hid hlen
      clear hlen nv
      by_cases hlt : k < L.length
      · have rA := OwnT.rd (HO.out.below kwr) hlt
        have HTK := Lib.hid (show zs.take (k + 1) = zs.take k ++ [L[k].z] by
          have h2 : k < zs.length := by rw [HZL.out]; exact hlt
          rw [List.take_succ_eq_append_getElem h2]
          have := HZA.out k hlt
          rw [List.getElem?_eq_getElem h2] at this
          rw [Option.some.inj this])
        have HLT := Lib.hid (show ∀ i (hi : i < k) (h3 : i < zs.length), zs[i] < L[k].z from fun i hi h3 => by
          have h2 : k < zs.length := by rw [HZL.out]; exact hlt
          have h4 := List.pairwise_iff_getElem.1 HSO.out i k h3 h2 hi
          have := HZA.out k hlt
          rw [List.getElem?_eq_getElem h2] at this
          rw [Option.some.inj this] at h4
          exact h4)
        have lga : ga < wr.heap.size := by omega
        generalize L[k] = x at *
        have i0 : (0 : Int) ≤ (k : Int) := by omega
        have i1 : (k : Int) < (L.length : Int) := by omega
        have hvl : (zs.take k).length = k := HLEN.out
        have HOX := Lib.hid O
        have H := Lib.hid (And.intro O kwr)
        clear O
        by_cases hk0 : k = 0
        · subst hk0
          clear kwr
          go_wp2_with fail
          go_quiet (fail)
          go_wp2_with (at_builtin; refine wpList_appX encI rfl _ _ 28 2 8 rfl Try.underlying28 jI _ hinf.out.1 hinf.out.2.1 hinf.out.2.2.1 hinf.out.2.2.2 rfl (.slice (some ⟨go, 0, none⟩) 0 vc) (zs.take 0) w2.heap.size ⟨wr.heap.size, 0, none⟩ 1 [x.z] rfl ?o1 rfl (lieB (E := 2) (cs := #[.int .i64 x.z]) (Blk.new (by first | rfl | simp)) rfl) ?l1 ?l2 (by first | omega | (simp; done) | (simp; omega)) ?_)
          case o1 =>
            have O1 := H.out.1.toK
            exact (by repeat (first | (with_reducible assumption) | (with_reducible refine Own.drew ?_) | (with_reducible refine Own.drewN ?_) | (with_reducible refine Own.alloc ?_) | (with_reducible refine OwnK.drew ?_) | (with_reducible refine OwnK.drewN ?_) | (with_reducible refine OwnK.alloc ?_) | ((with_reducible refine OwnK.put ?_ ?_); · first | omega | (simp; done) | (simp; omega)) | ((with_reducible refine Own.below hb ?_)) | ((with_reducible refine OwnK.below hb ?_))))
          case l1 => rw [hvl]; simp only [List.length_cons, List.length_nil]; unfold maxLen; omega
          case l2 => rw [hvl]; simp only [List.length_cons, List.length_nil]; omega
          intro v' w4 O4 hg ha hn4
          have O1 := H.out.1
          have kk := H.out.2
          have k4 : Below w2.heap.size w2 w4 := Below.grownO hg (B2 := w2.heap.size) (ys := zs.take 0) (by rw [← hvl] at O1 ⊢; exact (by repeat (first | (with_reducible assumption) | (with_reducible refine Own.drew ?_) | (with_reducible refine Own.drewN ?_) | (with_reducible refine Own.alloc ?_) | (with_reducible refine OwnK.drew ?_) | (with_reducible refine OwnK.drewN ?_) | (with_reducible refine OwnK.alloc ?_) | ((with_reducible refine OwnK.put ?_ ?_); · first | omega | (simp; done) | (simp; omega)) | ((with_reducible refine Own.below hb ?_)) | ((with_reducible refine OwnK.below hb ?_))))) (by omega) (by simp; omega) (by repeat (first | (with_reducible exact Below.refl _ _) | (with_reducible assumption) | (with_reducible refine Below.drew ?_) | (with_reducible refine Below.drewN ?_) | ((with_reducible refine Below.al ?_ ?_); · first | omega | (simp; done) | (simp; omega)) | ((with_reducible refine Below.sc ?_ ?_); · first | omega | (simp; done) | (simp; omega)) | ((with_reducible refine Below.thru hb ?_ ?_); · first | omega | (simp; done) | (simp; omega))))
          have s4 : w2.heap.size ≤ w4.heap.size := k4.size
          have O5 : Own w4 w2.heap.size v' (zs.take (0 + 1)) := by
            rw [HTK.out]
            exact OwnK.toOwn O4
          have hn5 : v' ≠ .slice none 0 0 := by first | exact hn4 | exact hn4 (by simp)
          have H2 := Lib.hid (And.intro O5 (And.intro k4 hn5))
          clear hg ha hn4 O1 O4 O5 k4 kk hvl H hn5
          go_wp2
          first
            | (go_roundw
               case rel => exact ⟨0 + 1, by omega, by go_num, H2.out.1, H2.out.2.2, H2.out.2.1, s4⟩
               case measure => first | (simp [intOf]; done) | (simp [intOf]; omega))
            | (refine ⟨⟨0 + 1, by omega, by go_num, H2.out.1, H2.out.2.2, H2.out.2.1, s4⟩, ?_⟩
               first | (simp [intOf]; done) | (simp [intOf]; omega))
        · obtain ⟨i, rfl⟩ : ∃ i, k = i + 1 := ⟨k - 1, by omega⟩
          have h3 : i < zs.length := by rw [HZL.out]; omega
          have hp := HLT.out i (by omega) h3
          have cP := Own.at HOX.out (g := go) rfl (j := i) (x := zs[i]) (by rw [List.getElem?_take_of_lt (by omega), List.getElem?_eq_getElem h3])
          generalize zs[i] = p at *
          have hne : (p != x.z) = true := by simp; omega
          have j0 : (i : Int) < (i : Int) + 1 := by omega
          have hq0 : (((i + 1 : Nat) : Int) == 0) = false := by simp only [beq_eq_false_iff_ne, ne_eq]; omega
          have hq1 : ((i : Int) + 1 == 0) = false := by simp only [beq_eq_false_iff_ne, ne_eq]; omega
          have j1 : (0 : Int) ≤ (i : Int) := by omega
          clear kwr hk0
          go_wp2_with fail
          go_quiet (fail)
          go_wp2_with (at_builtin; refine wpList_appX encI rfl _ _ 28 2 8 rfl Try.underlying28 jI _ hinf.out.1 hinf.out.2.1 hinf.out.2.2.1 hinf.out.2.2.2 rfl (.slice (some ⟨go, 0, none⟩) (i + 1) vc) (zs.take (i + 1)) w2.heap.size ⟨wr.heap.size, 0, none⟩ 1 [x.z] rfl ?o1 rfl (lieB (E := 2) (cs := #[.int .i64 x.z]) (Blk.new (by first | rfl | simp)) rfl) ?l1 ?l2 (by first | omega | (simp; done) | (simp; omega)) ?_)
          case o1 =>
            have O1 := H.out.1.toK
            exact (by repeat (first | (with_reducible assumption) | (with_reducible refine Own.drew ?_) | (with_reducible refine Own.drewN ?_) | (with_reducible refine Own.alloc ?_) | (with_reducible refine OwnK.drew ?_) | (with_reducible refine OwnK.drewN ?_) | (with_reducible refine OwnK.alloc ?_) | ((with_reducible refine OwnK.put ?_ ?_); · first | omega | (simp; done) | (simp; omega)) | ((with_reducible refine Own.below hb ?_)) | ((with_reducible refine OwnK.below hb ?_))))
          case l1 => rw [hvl]; simp only [List.length_cons, List.length_nil]; unfold maxLen; omega
          case l2 => rw [hvl]; simp only [List.length_cons, List.length_nil]; omega
          intro v' w4 O4 hg ha hn4
          have O1 := H.out.1
          have kk := H.out.2
          have k4 : Below w2.heap.size w2 w4 := Below.grownO hg (B2 := w2.heap.size) (ys := zs.take (i + 1)) (by rw [← hvl] at O1 ⊢; exact (by repeat (first | (with_reducible assumption) | (with_reducible refine Own.drew ?_) | (with_reducible refine Own.drewN ?_) | (with_reducible refine Own.alloc ?_) | (with_reducible refine OwnK.drew ?_) | (with_reducible refine OwnK.drewN ?_) | (with_reducible refine OwnK.alloc ?_) | ((with_reducible refine OwnK.put ?_ ?_); · first | omega | (simp; done) | (simp; omega)) | ((with_reducible refine Own.below hb ?_)) | ((with_reducible refine OwnK.below hb ?_))))) (by omega) (by simp; omega) (by repeat (first | (with_reducible exact Below.refl _ _) | (with_reducible assumption) | (with_reducible refine Below.drew ?_) | (with_reducible refine Below.drewN ?_) | ((with_reducible refine Below.al ?_ ?_); · first | omega | (simp; done) | (simp; omega)) | ((with_reducible refine Below.sc ?_ ?_); · first | omega | (simp; done) | (simp; omega)) | ((with_reducible refine Below.thru hb ?_ ?_); · first | omega | (simp; done) | (simp; omega))))
          have s4 : w2.heap.size ≤ w4.heap.size := k4.size
          have O5 : Own w4 w2.heap.size v' (zs.take ((i + 1) + 1)) := by
            rw [HTK.out]
            exact OwnK.toOwn O4
          have hn5 : v' ≠ .slice none 0 0 := by first | exact hn4 | exact hn4 (by simp)
          have H2 := Lib.hid (And.intro O5 (And.intro k4 hn5))
          clear hg ha hn4 O1 O4 O5 k4 kk hvl H hn5
          go_wp2
          first
            | (go_roundw
               case rel => exact ⟨(i + 1) + 1, by omega, by go_num, H2.out.1, H2.out.2.2, H2.out.2.1, s4⟩
               case measure => first | (simp [intOf]; done) | (simp [intOf]; omega))
            | (refine ⟨⟨(i + 1) + 1, by omega, by go_num, H2.out.1, H2.out.2.2, H2.out.2.1, s4⟩, ?_⟩
               first | (simp [intOf]; done) | (simp [intOf]; omega))
      · obtain rfl : k = L.length := by omega
        have H := Lib.hid (And.intro O kwr)
        have HTA := Lib.hid (show zs.take L.length = zs from List.take_of_length_le (by rw [HZL.out]; exact Nat.le_refl _))
        clear O kwr
        go_wp2
        rw [← HGF.out]
        refine ⟨_, by rw [HE.out.2]; rfl, ?_, k2.trans (H.out.2.mono s2)⟩
        rw [HE.out.1, HZE.out]
        have := H.out.1
        rw [HTA.out] at this
        exact this.mono s2
set_option maxRecDepth 8000 in
set_option maxHeartbeats 1000000 in
theorem MarkovNumbers_any (n : Int) (w : World) : Calls Try.prog 12 #[.int .i64 n] w (GivesMk n w) := by
  obtain ⟨GF, hGF⟩ : ∃ GF, GivesMk n w = GF := ⟨_, rfl⟩
  rw [hGF]
  have HGF := Lib.hid hGF
  have HI := Lib.hid (fun w' => within_any n 0 1000000 w')
  have hM : trM = 1000000 := rfl
  clear hGF
  cases hb : inB n 0 1000000 with
  | false =>
    have HE := Lib.hid (mk_no hb)
    rw [hb] at HI
    clear hb
    go_enter Try.func12, Try.ntmps12
    go_wp2_with fail
    refine (HI.out _).mono ?_
    rintro e w1 ⟨rfl, rfl⟩
    go_wp2
    rw [← HGF.out]
    exact ⟨_, by rw [HE.out.2]; rfl, by rw [HE.out.1]; exact Own.nil _ _, Below.refl _ _⟩
  | true =>
    have HE := Lib.hid (mk_yes hb)
    have hbd := inB_true hb
    have HT := Lib.hid (fun w' => triplesBelow_any n w' (by rw [hM]; exact hbd.2))
    have HCZ := Lib.hid (fun S_ hp hs => compact_zs (n := n) (S := S_) hp hs)
    generalize zsL n = ZZ at *
    have hlen := tr_len n
    rw [hb] at HI
    clear hb hbd
    generalize trB n = L at *
    go_enter Try.func12, Try.ntmps12
    go_wp2_with fail
    refine (HI.out _).mono ?_
    rintro e w1 ⟨rfl, rfl⟩
    go_wp2_with fail
    refine (HT.out _).mono ?_
    rintro e w2 ⟨v, rfl, O, nv, k2⟩
    rcases O.form with ⟨h1, _⟩ | ⟨ga, ca, h1, hga, hga2, -⟩
    · exact absurd h1 nv
    subst h1
    go_wp2_with fail
    have HO := Lib.hid O
    have s2 := k2.size
    simp at s2
    have O00 : Own w2 w.heap.size (.slice (some ⟨w.heap.size, 0, none⟩) 0 0) [] := by
      have hb := k2
      have B0 : Blk w2 w.heap.size 2 #[] := (by repeat (first | (with_reducible assumption) | ((with_reducible refine Blk.new ?_); · first | omega | (simp; done) | (simp; omega)) | (with_reducible apply Blk.set4) | (with_reducible apply Blk.set3) | (with_reducible apply Blk.set2) | ((with_reducible refine Blk.put ?_ ?_); · first | omega | (simp; omega)) | (with_reducible refine Blk.old ?_) | (with_reducible refine Blk.drew ?_) | (with_reducible refine Blk.drewN ?_) | ((with_reducible refine Blk.below hb ?_ ?_); · first | omega | (simp; done) | (simp; omega))))
      exact Own.of_blk (xs := []) B0 (Nat.le_refl _) rfl (by simp [maxLen])
    have kw2 : Below w.heap.size w w2 := by
      have hb := k2
      exact (by repeat (first | (with_reducible exact Below.refl _ _) | (with_reducible assumption) | (with_reducible refine Below.drew ?_) | (with_reducible refine Below.drewN ?_) | ((with_reducible refine Below.al ?_ ?_); · first | omega | (simp; done) | (simp; omega)) | ((with_reducible refine Below.sc ?_ ?_); · first | omega | (simp; done) | (simp; omega)) | ((with_reducible refine Below.thru hb ?_ ?_); · first | omega | (simp; done) | (simp; omega))))
    have HINF := Lib.hid (info_parts infoI)
    obtain ⟨jI, hinf⟩ := HINF.out
    replace hinf := Lib.hid hinf
    have HXY := Lib.hid (show ∀ k (h : k < L.length), xyz (L.take (k + 1)) = xyz (L.take k) ++ [L[k].x, L[k].y, L[k].z] by
      intro k h
      rw [List.take_succ_eq_append_getElem h]
      unfold xyz
      rw [List.flatMap_append]
      rfl)
    have HXL := Lib.hid (show ∀ k, (xyz (L.take k)).length ≤ 120 by
      intro k
      have e : ∀ A : List T3, (xyz A).length = A.length * 3 := by
        intro A
        induction A with
        | nil => rfl
        | cons a A ih => unfold xyz at *; rw [List.flatMap_cons, List.length_append, ih, List.length_cons]; simp; omega
      rw [e, List.length_take]
      omega)
    clear O nv
    go_loopw [4, 14] (fun v i wr => ∃ k : Nat, k ≤ L.length ∧ i = .int .i64 k ∧ Own wr w.heap.size v (xyz (L.take k)) ∧ v ≠ .slice none 0 0 ∧ OwnK encT 36 wr w.heap.size (.slice (some ⟨ga, 0, none⟩) L.length ca) L ∧ Below w.heap.size w wr ∧ w.heap.size ≤ wr.heap.size) (fun _ i _ => L.length - (intOf i).toNat)
    case atStart => exact ⟨0, Nat.zero_le _, rfl, O00, by simp, HO.out.mono (by simp), kw2, kw2.size⟩
    case round =>
      clear O00 kw2
      obtain ⟨k, hk, rfl, O, nv, OT, kwr, swr⟩ := hrel
      rcases O.toK.form with ⟨h1, _⟩ | ⟨go, vc, h1, hgo, hgo2, -⟩
      · exact absurd h1 nv
      obtain ⟨m, hm⟩ : ∃ m, (xyz (L.take k)).length = m := ⟨_, rfl⟩
      rw [hm] at h1
      subst h1
      have HMM := Lib.hid hm
      have hm2 := HXL.out k
      rw [hm] at hm2
      clear hm nv
      by_cases hlt : k < L.length
      · have rA := OwnT.rd OT hlt
        have HXK := Lib.hid (HXY.out k hlt)
        obtain ⟨x, hx⟩ : ∃ x, L[k] = x := ⟨_, rfl⟩
        rw [hx] at rA HXK
        clear hx
        have i0 : (0 : Int) ≤ (k : Int) := by omega
        have i1 : (k : Int) < (L.length : Int) := by omega
        have lga : ga < wr.heap.size := (OT.lt rfl).2
        have H := Lib.hid (And.intro O (And.intro OT kwr))
        clear O OT kwr
        go_wp2_with (at_builtin; refine wpList_appX encI rfl _ _ 28 2 8 rfl Try.underlying28 jI _ hinf.out.1 hinf.out.2.1 hinf.out.2.2.1 hinf.out.2.2.2 rfl (.slice (some ⟨go, 0, none⟩) m vc) (xyz (L.take k)) w.heap.size ⟨wr.heap.size, 0, none⟩ 3 [x.x, x.y, x.z] rfl ?o1 rfl (lieB (E := 36) (cs := tcs x) (by repeat (first | (with_reducible assumption) | ((with_reducible refine Blk.new ?_); · first | omega | (simp; done) | (simp; omega)) | (with_reducible apply Blk.set4) | (with_reducible apply Blk.set3) | (with_reducible apply Blk.set2) | ((with_reducible refine Blk.put ?_ ?_); · first | omega | (simp; omega)) | (with_reducible refine Blk.old ?_) | (with_reducible refine Blk.drew ?_) | (with_reducible refine Blk.drewN ?_) | ((with_reducible refine Blk.below hb ?_ ?_); · first | omega | (simp; done) | (simp; omega)))) rfl) ?l1 ?l2 (by first | omega | (simp; done) | (simp; omega)) ?_)
        case o1 =>
          have O1 := H.out.1.toK
          exact (by repeat (first | (with_reducible assumption) | (with_reducible refine Own.drew ?_) | (with_reducible refine Own.drewN ?_) | (with_reducible refine Own.alloc ?_) | (with_reducible refine OwnK.drew ?_) | (with_reducible refine OwnK.drewN ?_) | (with_reducible refine OwnK.alloc ?_) | ((with_reducible refine OwnK.put ?_ ?_); · first | omega | (simp; done) | (simp; omega)) | ((with_reducible refine Own.below hb ?_)) | ((with_reducible refine OwnK.below hb ?_))))
        case l1 => rw [HMM.out]; simp only [List.length_cons, List.length_nil]; unfold maxLen; omega
        case l2 => rw [HMM.out]; simp only [List.length_cons, List.length_nil]; omega
        intro v' w4 O4 hg ha hn4
        have O1 := H.out.1.toK
        have kk := H.out.2.2
        have k4 : Below w.heap.size w w4 := Below.grownK hg O1.alloc (Nat.le_refl _) (by simp; omega) (by repeat (first | (with_reducible exact Below.refl _ _) | (with_reducible assumption) | (with_reducible refine Below.drew ?_) | (with_reducible refine Below.drewN ?_) | ((with_reducible refine Below.al ?_ ?_); · first | omega | (simp; done) | (simp; omega)) | ((with_reducible refine Below.sc ?_ ?_); · first | omega | (simp; done) | (simp; omega)) | ((with_reducible refine Below.thru hb ?_ ?_); · first | omega | (simp; done) | (simp; omega))))
        have OT4 : OwnK encT 36 w4 w.heap.size (.slice (some ⟨ga, 0, none⟩) L.length ca) L := H.out.2.1.same fun g hg2 => by
          have h1 := (H.out.2.1.lt hg2).2
          have h2 : go ≠ g := fun e => by
            subst e
            exact ne_types H.out.1.toK H.out.2.1 (by decide) rfl hg2
          rw [hg.block g (by simp; omega) (fun e => h2 (Option.some.inj e).symm), ((Below.refl wr.heap.size wr).alloc (Nat.le_refl _) _).block g h1]
        have O5 : Own w4 w.heap.size v' (xyz (L.take (k + 1))) := by
          rw [HXK.out]
          exact OwnK.toOwn O4
        have hn5 : v' ≠ .slice none 0 0 := by first | exact hn4 | exact hn4 (by simp)
        have H2 := Lib.hid (And.intro O5 (And.intro OT4 (And.intro k4 hn5)))
        clear hg ha hn4 O1 O4 O5 k4 kk OT4 H hn5 rA
        go_wp2
        first
          | (go_roundw
             case rel => exact ⟨k + 1, by omega, by go_num, H2.out.1, H2.out.2.2.2, H2.out.2.1, H2.out.2.2.1, H2.out.2.2.1.size⟩
             case measure => first | (simp [intOf]; done) | (simp [intOf]; omega))
          | (refine ⟨⟨k + 1, by omega, by go_num, H2.out.1, H2.out.2.2.2, H2.out.2.1, H2.out.2.2.1, H2.out.2.2.1.size⟩, ?_⟩
             first | (simp [intOf]; done) | (simp [intOf]; omega))
      · obtain rfl : k = L.length := by omega
        have HTA := Lib.hid (show L.take L.length = L from List.take_length)
        rw [HTA.out] at O HMM
        have HSR := Lib.hid (fun w' h => sortN_any (.slice (some ⟨go, 0, none⟩) m vc) (xyz L) w.heap.size w' h (by simp) (by rw [HMM.out]; omega))
        have HCP := Lib.hid (fun w' (S_ : List Int) (h : Own w' w.heap.size (.slice (some ⟨go, 0, none⟩) m vc) S_) (hp : S_.Perm (xyz L)) => compactN_any go m vc S_ w.heap.size w' h (by rw [hp.length_eq, HMM.out]))
        have H := Lib.hid (And.intro O kwr)
        clear O kwr OT
        go_wp2_with fail
        refine (HSR.out _ H.out.1).mono ?_
        rintro e w4 ⟨rfl, S_, hp, hs, O4, hg4⟩
        have k4 : Below w.heap.size w w4 := Below.grownO hg4 H.out.1 (Nat.le_refl _) H.out.2.size H.out.2
        have HC := Lib.hid (HCZ.out S_ hp hs)
        have HCC := Lib.hid (HCP.out w4 S_ O4 hp)
        clear hg4 hp hs O4
        go_wp2_with fail
        refine HCC.out.mono ?_
        rintro e w5 ⟨v5, rfl, O5, hg5⟩
        have k5 : Below w.heap.size w w5 := k4.grown hg5 k4.size (fun j hj => by cases hj; exact hgo)
        have HO5 := Lib.hid O5
        clear O5 hg5 k4
        go_wp2
        rw [← HGF.out]
        refine ⟨_, by rw [HE.out.2]; rfl, ?_, k5⟩
        rw [HE.out.1, ← HC.out]
        exact HO5.out

end Go.Proofs.Ytbmkpcenjjdflaa
