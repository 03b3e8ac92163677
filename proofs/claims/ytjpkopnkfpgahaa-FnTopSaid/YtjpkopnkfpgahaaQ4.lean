import Derived.Test.YtjpkopnkfpgahaaQ3
/- The points in the order in which they are met: the walks. -/
namespace Go.Proofs.Ytjpkopnkfpgahaa
open Go.RowKit

set_option maxHeartbeats 2000000 in
theorem reached_any (s t : Value) (S T : List Int) (n i : Nat) (w : World) (h : SlIn w .i64 s S ∧ SlIn w .i64 t T) (hS : permB S n) (hT : permB T n) (hi : i < n) (hn : n ≤ 72) :
    Calls Try.prog 64 #[.agg #[s, t], .int .i64 (i : Int)] w fun e w' => ∃ v, e = .returned v ∧ Own w' w.heap.size v ((metL (fn S) (fn T) i n).map Int.ofNat) ∧ Below w.heap.size w w' := by
  obtain ⟨sa, sc, rfl, ha⟩ := perm_open h.1 hS (by omega)
  obtain ⟨ta, tc, rfl, hb⟩ := perm_open h.2 hT (by omega)
  have HS := Lib.hid hS
  have HT := Lib.hid hT
  have HA := Lib.hid ha
  have HB := Lib.hid hb
  have hmk := run_make_row' (P := Try.prog) 111 4 (.bool false) 1 Try.underlying111 infoBool rfl .i64 .i64 n (by omega) (by omega)
  clear ha hb h hS hT
  go_enter Try.func64, Try.ntmps64
  go_wp2_with fail
  go_cut [5, 6] (fun s5 s6 wx => ∃ g1 g2 : Nat, s5 = .slice (some ⟨g1, 0, none⟩) 1 1 ∧ s6 = .slice (some ⟨g2, 0, none⟩) n n ∧ g1 ≠ g2 ∧ w.heap.size + 1 ≤ g1 ∧ w.heap.size + 1 ≤ g2 ∧ Blk wx g1 2 #[.int .i64 (i : Int)] ∧ Blk wx g2 4 (madeCells #[.bool false] n) ∧ Blk wx w.heap.size 44 #[.slice (some sa) n sc, .slice (some ta) n tc] ∧ Below w.heap.size w wx)
  case first =>
    go_region_held3 (fun w' => w'.cell? ⟨w.heap.size, 0, none⟩ = some (.slice (some sa) n sc) ∧ w'.cell? ⟨w.heap.size, 1, none⟩ = some (.slice (some ta) n tc)) (go_keep) (fail)
    all_goals go_wp2_with fail
    all_goals go_meet
    all_goals exact ⟨_, _, rfl, rfl, by simp, by simp, by simp, (by repeat (first | (with_reducible assumption) | ((with_reducible refine Blk.new ?_); · first | omega | (simp; done) | (simp; omega)) | (with_reducible apply Blk.set4) | (with_reducible apply Blk.set3) | (with_reducible apply Blk.set2) | ((with_reducible refine Blk.put ?_ ?_); · first | omega | (simp; omega)) | (with_reducible refine Blk.old ?_) | (with_reducible refine Blk.drew ?_) | (with_reducible refine Blk.drewN ?_) | ((with_reducible refine Blk.below hb ?_ ?_); · first | omega | (simp; done) | (simp; omega)))), (by repeat (first | (with_reducible assumption) | ((with_reducible refine Blk.new ?_); · first | omega | (simp; done) | (simp; omega)) | (with_reducible apply Blk.set4) | (with_reducible apply Blk.set3) | (with_reducible apply Blk.set2) | ((with_reducible refine Blk.put ?_ ?_); · first | omega | (simp; omega)) | (with_reducible refine Blk.old ?_) | (with_reducible refine Blk.drew ?_) | (with_reducible refine Blk.drewN ?_) | ((with_reducible refine Blk.below hb ?_ ?_); · first | omega | (simp; done) | (simp; omega)))), (by repeat (first | (with_reducible assumption) | ((with_reducible refine Blk.new ?_); · first | omega | (simp; done) | (simp; omega)) | (with_reducible apply Blk.set4) | (with_reducible apply Blk.set3) | (with_reducible apply Blk.set2) | ((with_reducible refine Blk.put ?_ ?_); · first | omega | (simp; omega)) | (with_reducible refine Blk.old ?_) | (with_reducible refine Blk.drew ?_) | (with_reducible refine Blk.drewN ?_) | ((with_reducible refine Blk.below hb ?_ ?_); · first | omega | (simp; done) | (simp; omega)))), (by repeat (first | (with_reducible exact Below.refl _ _) | (with_reducible assumption) | (with_reducible refine Below.drew ?_) | (with_reducible refine Below.drewN ?_) | ((with_reducible refine Below.al ?_ ?_); · first | omega | (simp; done) | (simp; omega)) | ((with_reducible refine Below.sc ?_ ?_); · first | omega | (simp; done) | (simp; omega)) | ((with_reducible refine Below.thru hb ?_ ?_); · first | omega | (simp; done) | (simp; omega))))⟩
  case rest =>
    obtain ⟨g1, g2, rfl, rfl, hne, hg1, hg2, B1, B2, B0, hb⟩ := hcut
    have i0 : (0 : Int) ≤ (i : Int) := by omega
    have i1 : (i : Int) < (n : Int) := by omega
    have hz : i < (madeCells #[Value.bool false] n).size := by rw [size_madeCells]; exact hi
    have c0 := B2.at (i := i) (Array.getElem?_eq_getElem hz)
    have f0 := B2.free i
    have lB1 := B1.lt
    have lB2 := B2.lt
    have lB0 := B0.lt
    have HI := Lib.hid (fun k => metAt_inv (f := fn S) (g := fn T) (i := i) (n := n) (fun a h => fn_lt HS.out h) (fun a h => fn_lt HT.out h) hi k)
    have HM := Lib.hid (fun k h => metL_done (f := fn S) (g := fn T) (i := i) (n := n) (k := k) (fun a h => fn_lt HS.out h) (fun a h => fn_lt HT.out h) hi h)
    have O1 : Own (wc.setCell ⟨g2, i, none⟩ (.bool true)) (w.heap.size + 1) (.slice (some ⟨g1, 0, none⟩) 1 1) ((metAt (fn S) (fn T) i 0).map Int.ofNat) :=
      Own.of_blk (xs := [(i : Int)]) (B1.put hne) hg1 rfl (by simp [maxLen])
    have B3 : Blk (wc.setCell ⟨g2, i, none⟩ (.bool true)) g2 4 (inV n (metAt (fn S) (fn T) i 0)) := by
      have := B2.set (i := i) (v := .bool true)
      rw [made_inV, inV_set] at this
      exact this
    have B4 : Blk (wc.setCell ⟨g2, i, none⟩ (.bool true)) w.heap.size 44 #[.slice (some sa) n sc, .slice (some ta) n tc] := B0.put (by omega)
    have k4 : Below w.heap.size w (wc.setCell ⟨g2, i, none⟩ (.bool true)) := hb.setCell (by show w.heap.size ≤ g2; omega) _
    have H := Lib.hid (And.intro O1 (And.intro B3 (And.intro B4 k4)))
    clear O1 B3 B4 k4 hb B0 B1 hg1 hne lB1
    obtain ⟨jI, hi, hz0, hz1, hz2⟩ := info_parts infoI
    have HINF := Lib.hid (And.intro hi (And.intro hz0 (And.intro hz1 hz2)))
    clear hi hz0 hz1 hz2
    go_wp2
    go_loopw [5, 7] (fun v kk wr => ∃ k : Nat, kk = .int .i64 k ∧ Hid (∀ j, j < k → j < (metAt (fn S) (fn T) i j).length) ∧ Own wr (w.heap.size + 1) v ((metAt (fn S) (fn T) i k).map Int.ofNat) ∧ Blk wr g2 4 (inV n (metAt (fn S) (fn T) i k)) ∧ Blk wr w.heap.size 44 #[.slice (some sa) n sc, .slice (some ta) n tc] ∧ Below w.heap.size w wr) (fun _ kk _ => n + 1 - (intOf kk).toNat)
    case atStart => exact ⟨0, rfl, Lib.hid (fun j hj => absurd hj (by omega)), H.out.1, H.out.2.1, H.out.2.2.1, H.out.2.2.2⟩
    case round =>
      clear H B2 hz c0 f0 lB2 lB0
      obtain ⟨k, rfl, hk, O, B2, B0, kwr⟩ := hrel
      have hin := HI.out k
      have hlen := nodup_len hin.1 hin.2
      generalize hM : metAt (fn S) (fn T) i k = M at *
      obtain ⟨ao, c, rfl, hao⟩ := nats_open O.slIn
      by_cases hlt : k < M.length
      · obtain ⟨oa, rfl, hoa⟩ := hao (by omega)
        have c1 := hoa k hlt
        have HP := Lib.hid (show M.getD k 0 < n by
          rw [List.getD, List.getElem?_eq_getElem hlt]
          exact hin.2 _ (List.getElem_mem hlt))
        generalize hp : M.getD k 0 = p at *
        have c2 : wr.cell? (sa.add p) = some (.int .i64 (fn S p : Int)) := by
          have e := HA.out p HP.out
          rw [kwr.cell (block_lt_of_cell e :)]
          exact e
        have c3 : wr.cell? (ta.add p) = some (.int .i64 (fn T p : Int)) := by
          have e := HB.out p HP.out
          rw [kwr.cell (block_lt_of_cell e :)]
          exact e
        have hpn := HP.out
        have j0 : (0 : Int) ≤ (k : Int) := by omega
        have j1 : (k : Int) < (M.length : Int) := by omega
        have j2 : (0 : Int) ≤ (p : Int) := by omega
        have j3 : (p : Int) < (n : Int) := by omega
        have b0 := B0.p2
        clear hao hoa
        go_wp2_with fail
        go_quiet (fail)
        have hxn := fn_lt HS.out hpn
        have hyn := fn_lt HT.out hpn
        have HK := Lib.hid (half_all (f := fn S) (g := fn T) (i := i) (k := k))
        rw [hM, hp] at HK
        have HD := Lib.hid (show ∀ j, j < k + 1 → j < (metAt (fn S) (fn T) i j).length from fun j hj => if e : j < k then hk.out j e else by
          obtain rfl : j = k := by omega
          rw [hM]; exact hlt)
        clear hM hp c1 c2 c3 b0 hk
        generalize fn S p = x at *
        generalize fn T p = y at *
        go_wp2_with fail
        refine forget (fun W_ => Below w.heap.size w W_ ∧ Own W_ (w.heap.size + 1) (.slice (some oa) M.length c) (M.map Int.ofNat) ∧ Blk W_ (g2) 4 (inV n M) ∧ Blk W_ (w.heap.size) 44 (#[.slice (some sa) n sc, .slice (some ta) n tc])) ⟨(by repeat (first | (with_reducible exact Below.refl _ _) | (with_reducible assumption) | (with_reducible refine Below.drew ?_) | (with_reducible refine Below.drewN ?_) | ((with_reducible refine Below.al ?_ ?_); · first | omega | (simp; done) | (simp; omega)) | ((with_reducible refine Below.sc ?_ ?_); · first | omega | (simp; done) | (simp; omega)) | ((with_reducible refine Below.thru hb ?_ ?_); · first | omega | (simp; done) | (simp; omega)))), (by repeat (first | (with_reducible assumption) | (with_reducible refine Own.drew ?_) | (with_reducible refine Own.drewN ?_) | (with_reducible refine Own.alloc ?_) | (with_reducible refine OwnK.drew ?_) | (with_reducible refine OwnK.drewN ?_) | (with_reducible refine OwnK.alloc ?_) | ((with_reducible refine OwnK.put ?_ ?_); · first | omega | (simp; done) | (simp; omega)) | ((with_reducible refine Own.below hb ?_)) | ((with_reducible refine OwnK.below hb ?_)))), (by repeat (first | (with_reducible assumption) | ((with_reducible refine Blk.new ?_); · first | omega | (simp; done) | (simp; omega)) | (with_reducible apply Blk.set4) | (with_reducible apply Blk.set3) | (with_reducible apply Blk.set2) | ((with_reducible refine Blk.put ?_ ?_); · first | omega | (simp; omega)) | (with_reducible refine Blk.old ?_) | (with_reducible refine Blk.drew ?_) | (with_reducible refine Blk.drewN ?_) | ((with_reducible refine Blk.below hb ?_ ?_); · first | omega | (simp; done) | (simp; omega)))), (by repeat (first | (with_reducible assumption) | ((with_reducible refine Blk.new ?_); · first | omega | (simp; done) | (simp; omega)) | (with_reducible apply Blk.set4) | (with_reducible apply Blk.set3) | (with_reducible apply Blk.set2) | ((with_reducible refine Blk.put ?_ ?_); · first | omega | (simp; omega)) | (with_reducible refine Blk.old ?_) | (with_reducible refine Blk.drew ?_) | (with_reducible refine Blk.drewN ?_) | ((with_reducible refine Blk.below hb ?_ ?_); · first | omega | (simp; done) | (simp; omega))))⟩ ?_
        rintro wo ⟨kwo, O1, C2, C0⟩
        have swo := kwo.size
        have lC2 := C2.lt
        have lC0 := C0.lt
        clear O B2 B0 kwr
        go_loopw [5, 42] (fun v qq wr => ∃ q : Nat, q ≤ 2 ∧ qq = .int .i64 q ∧ Own wr (w.heap.size + 1) v ((half M x y q).map Int.ofNat) ∧ Blk wr g2 4 (inV n (half M x y q)) ∧ Blk wr w.heap.size 44 #[.slice (some sa) n sc, .slice (some ta) n tc] ∧ Below w.heap.size w wr) (fun _ qq _ => 2 - (intOf qq).toNat)
        case atStart => exact ⟨0, by omega, rfl, O1, C2, C0, kwo⟩
        case round =>
          clear O1 C2 C0 kwo
          obtain ⟨q, hq2, hqq, O, B2, B0, kwr⟩ := hrel
          have hinq := half_inv hin hxn hyn q
          have hlenq := nodup_len hinq.1 hinq.2
          have HV := Lib.hid hinq
          obtain ⟨ao, co, rfl, hao⟩ := nats_open O.slIn
          clear hinq hao
          by_cases hq : q < 2
          · rcases (show q = 0 ∨ q = 1 by omega) with rfl | rfl
            · obtain rfl : _ = Value.int .i64 0 := hqq
              have hix : ∀ w : World, (Instr.index 39 (.agg #[.int .i64 (x : Int), .int .i64 (y : Int)]) (.int .i64 0)).run Try.prog w = .ok (.int .i64 (x : Int)) w := fun _ => by kernel_rfl
              have q0 : (0 : Int) ≤ (x : Int) := by omega
              have q1 : (x : Int) < (n : Int) := by omega
              have hjn : x < n := by omega
              have cm := B2.at (inV_get (out := half M x y 0) hjn)
              have fm := B2.free x
              have lB2 := B2.lt
              have lB0 := B0.lt
              cases hm : decide (x ∈ half M x y 0) with
              | true =>
                have HE := Lib.hid ((half_step (M := M) (a := x) (b := y) (q := 0) (by omega)).trans (visit_in hm))
                rw [hm] at cm
                have H := Lib.hid (And.intro O (And.intro B2 (And.intro B0 kwr)))
                clear O B2 B0 kwr
                go_wp2
                go_roundw
                case rel => exact ⟨0 + 1, by omega, rfl, by rw [HE.out]; exact H.out.1, by rw [HE.out]; exact H.out.2.1, H.out.2.2.1, H.out.2.2.2⟩
                case measure => simp [intOf]
              | false =>
                have HE := Lib.hid ((half_step (M := M) (a := x) (b := y) (q := 0) (by omega)).trans (visit_new hm))
                rw [hm] at cm
                have H := Lib.hid (And.intro O (And.intro B2 (And.intro B0 kwr)))
                have swr := kwr.size
                clear O B2 B0 kwr
                go_wp2_with (at_builtin; refine wpList_app encI rfl _ _ 35 2 8 rfl Try.underlying35 jI _ HINF.out.1 HINF.out.2.1 HINF.out.2.2.1 HINF.out.2.2.2 rfl (.slice ao (half M x y 0).length co) ((half M x y 0).map Int.ofNat) (w.heap.size + 1) wr.heap.size 1 #[.int .i64 (x : Int)] [(x : Int)] rfl ?o1 rfl ?b1 rfl ?l1 ?l2 (by first | omega | (simp; done) | (simp; omega)) ?_)
                case o1 =>
                  have O1 := H.out.1
                  refine Own.toK ?_
                  refine Own.alloc ?_
                  refine Own.put ?_ O1
                  exact O1.toK.ne_blk H.out.2.1 (by decide)
                case b1 => exact Blk.new (by simp [World.setCell])
                case l1 => (try simp only [List.length_map, List.length_cons, List.length_nil]); unfold maxLen; omega
                case l2 => (try simp only [List.length_map, List.length_cons, List.length_nil]); omega
                intro v' w2 O2 hg
                have N1 : (Value.slice ao (half M x y 0).length co).ownBlock ≠ some g2 := H.out.1.toK.ne_blk H.out.2.1 (by decide)
                have N2 : (Value.slice ao (half M x y 0).length co).ownBlock ≠ some w.heap.size := fun e => by have := (H.out.1.lt e).1; omega
                have C1 : Blk w2 g2 4 (inV n (half M x y 0 ++ [x])) := by
                  rw [← inV_set]
                  exact Blk.grownN hg N1 (Blk.old H.out.2.1.set)
                have C2 : Blk w2 w.heap.size 44 #[.slice (some sa) n sc, .slice (some ta) n tc] := Blk.grownN hg N2 (Blk.old (H.out.2.2.1.put (by omega)))
                have C3 : Below w.heap.size w w2 := by
                  have O1 : Own ((wr.setCell ⟨g2, x, none⟩ (.bool true)).alloc (.cells #[.int .i64 (x : Int)] 2)) (w.heap.size + 1) (.slice ao (half M x y 0).length co) ((half M x y 0).map Int.ofNat) := (H.out.1.put N1).alloc
                  have kk := H.out.2.2.2
                  exact Below.grownO hg O1 (by omega) (by simp [World.setCell]; omega) (by repeat (first | (with_reducible exact Below.refl _ _) | (with_reducible assumption) | (with_reducible refine Below.drew ?_) | (with_reducible refine Below.drewN ?_) | ((with_reducible refine Below.al ?_ ?_); · first | omega | (simp; done) | (simp; omega)) | ((with_reducible refine Below.sc ?_ ?_); · first | omega | (simp; done) | (simp; omega)) | ((with_reducible refine Below.thru hb ?_ ?_); · first | omega | (simp; done) | (simp; omega))))
                have O3 : Own w2 (w.heap.size + 1) v' ((half M x y 0 ++ [x]).map Int.ofNat) := by
                  rw [List.map_append]
                  exact OwnK.toOwn O2
                clear hg O2 H
                go_wp2
                go_roundw
                case rel => exact ⟨0 + 1, by omega, rfl, by rw [HE.out]; exact O3, by rw [HE.out]; exact C1, C2, C3⟩
                case measure => simp [intOf]
            · obtain rfl : _ = Value.int .i64 1 := hqq
              have hix : ∀ w : World, (Instr.index 39 (.agg #[.int .i64 (x : Int), .int .i64 (y : Int)]) (.int .i64 1)).run Try.prog w = .ok (.int .i64 (y : Int)) w := fun _ => by kernel_rfl
              have q0 : (0 : Int) ≤ (y : Int) := by omega
              have q1 : (y : Int) < (n : Int) := by omega
              have hjn : y < n := by omega
              have cm := B2.at (inV_get (out := half M x y 1) hjn)
              have fm := B2.free y
              have lB2 := B2.lt
              have lB0 := B0.lt
              cases hm : decide (y ∈ half M x y 1) with
              | true =>
                have HE := Lib.hid ((half_step (M := M) (a := x) (b := y) (q := 1) (by omega)).trans (visit_in hm))
                rw [hm] at cm
                have H := Lib.hid (And.intro O (And.intro B2 (And.intro B0 kwr)))
                clear O B2 B0 kwr
                go_wp2
                go_roundw
                case rel => exact ⟨1 + 1, by omega, rfl, by rw [HE.out]; exact H.out.1, by rw [HE.out]; exact H.out.2.1, H.out.2.2.1, H.out.2.2.2⟩
                case measure => simp [intOf]
              | false =>
                have HE := Lib.hid ((half_step (M := M) (a := x) (b := y) (q := 1) (by omega)).trans (visit_new hm))
                rw [hm] at cm
                have H := Lib.hid (And.intro O (And.intro B2 (And.intro B0 kwr)))
                have swr := kwr.size
                clear O B2 B0 kwr
                go_wp2_with (at_builtin; refine wpList_app encI rfl _ _ 35 2 8 rfl Try.underlying35 jI _ HINF.out.1 HINF.out.2.1 HINF.out.2.2.1 HINF.out.2.2.2 rfl (.slice ao (half M x y 1).length co) ((half M x y 1).map Int.ofNat) (w.heap.size + 1) wr.heap.size 1 #[.int .i64 (y : Int)] [(y : Int)] rfl ?o1b rfl ?b1b rfl ?l1b ?l2b (by first | omega | (simp; done) | (simp; omega)) ?_)
                case o1b =>
                  have O1 := H.out.1
                  refine Own.toK ?_
                  refine Own.alloc ?_
                  refine Own.put ?_ O1
                  exact O1.toK.ne_blk H.out.2.1 (by decide)
                case b1b => exact Blk.new (by simp [World.setCell])
                case l1b => (try simp only [List.length_map, List.length_cons, List.length_nil]); unfold maxLen; omega
                case l2b => (try simp only [List.length_map, List.length_cons, List.length_nil]); omega
                intro v' w2 O2 hg
                have N1 : (Value.slice ao (half M x y 1).length co).ownBlock ≠ some g2 := H.out.1.toK.ne_blk H.out.2.1 (by decide)
                have N2 : (Value.slice ao (half M x y 1).length co).ownBlock ≠ some w.heap.size := fun e => by have := (H.out.1.lt e).1; omega
                have C1 : Blk w2 g2 4 (inV n (half M x y 1 ++ [y])) := by
                  rw [← inV_set]
                  exact Blk.grownN hg N1 (Blk.old H.out.2.1.set)
                have C2 : Blk w2 w.heap.size 44 #[.slice (some sa) n sc, .slice (some ta) n tc] := Blk.grownN hg N2 (Blk.old (H.out.2.2.1.put (by omega)))
                have C3 : Below w.heap.size w w2 := by
                  have O1 : Own ((wr.setCell ⟨g2, y, none⟩ (.bool true)).alloc (.cells #[.int .i64 (y : Int)] 2)) (w.heap.size + 1) (.slice ao (half M x y 1).length co) ((half M x y 1).map Int.ofNat) := (H.out.1.put N1).alloc
                  have kk := H.out.2.2.2
                  exact Below.grownO hg O1 (by omega) (by simp [World.setCell]; omega) (by repeat (first | (with_reducible exact Below.refl _ _) | (with_reducible assumption) | (with_reducible refine Below.drew ?_) | (with_reducible refine Below.drewN ?_) | ((with_reducible refine Below.al ?_ ?_); · first | omega | (simp; done) | (simp; omega)) | ((with_reducible refine Below.sc ?_ ?_); · first | omega | (simp; done) | (simp; omega)) | ((with_reducible refine Below.thru hb ?_ ?_); · first | omega | (simp; done) | (simp; omega))))
                have O3 : Own w2 (w.heap.size + 1) v' ((half M x y 1 ++ [y]).map Int.ofNat) := by
                  rw [List.map_append]
                  exact OwnK.toOwn O2
                clear hg O2 H
                go_wp2
                go_roundw
                case rel => exact ⟨1 + 1, by omega, rfl, by rw [HE.out]; exact O3, by rw [HE.out]; exact C1, C2, C3⟩
                case measure => simp [intOf]
          · obtain rfl : q = 2 := by omega
            obtain rfl : _ = Value.int .i64 2 := hqq
            go_wp2
            go_roundw
            case rel => exact ⟨k + 1, by go_num, HD, by rw [← HK.out]; exact O, by rw [← HK.out]; exact B2, B0, kwr⟩
            case measure => simp [intOf]; omega
      · have HE := Lib.hid (HM.out k ⟨hk.out, by rw [hM]; exact hlt⟩)
        rw [hM] at HE
        clear hM
        go_wp2
        refine bodyPost_ret (v := .slice ao M.length c) (by simp [results, Try.results64, go_sem]) rfl ?_
        exact ⟨_, rfl, by rw [HE.out]; exact O.mono (by omega), kwr⟩

end Go.Proofs.Ytjpkopnkfpgahaa

/- The points in the order in which they are met: the walks. -/
namespace Go.Proofs.Ytjpkopnkfpgahaa
open Go.RowKit

end Go.Proofs.Ytjpkopnkfpgahaa
