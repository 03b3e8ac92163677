/- All cycles of an action: the reference's walk. -/
import Derived.Test.YtamkbgodenkboaaCysW
namespace Go.Proofs.Ytamkbgodenkboaa
open Go.RowKit

theorem OwnK.grownO {α : Type} {e : Enc α} {E : TypeId} {w w' : World} {B B' : Nat} {v u : Value} {xs : List α} {ys : List Int} (hg : w.grownBy w' u.ownBlock) (hu : Own w B' u ys) (hE : E ≠ 2) (h : OwnK e E w B v xs) : OwnK e E w' B v xs :=
  h.same fun g hk => hg.block g (h.lt hk).2 fun he => h.ne_own hu hE g hk he.symm
theorem OwnK.putN {α : Type} {e : Enc α} {E : TypeId} {w : World} {B g i : Nat} {v u : Value} {xs : List α} (hn : v.ownBlock ≠ some g) (h : OwnK e E w B v xs) : OwnK e E (w.setCell ⟨g, i, none⟩ u) B v xs :=
  h.same fun k hk => Below.heap_setCell _ _ _ _ (fun e => hn (by rw [hk, e]))

set_option maxRecDepth 8000 in
set_option maxHeartbeats 2000000 in
theorem l10Cycles_any (s t : Value) (S T : List Int) (n : Nat) (w : World) (h : SlIn w .i64 s S ∧ SlIn w .i64 t T) (hT : permB T n) (h0 : 1 ≤ n) (hn : n ≤ 72) :
    Calls Try.prog 81 #[.agg #[s, t]] w (GivesSS (cysL (fn T) n n) w) := by
  obtain ⟨ao, sc, rfl, -⟩ := h.1.form
  obtain ⟨ta, tc, rfl, hB⟩ := perm_open h.2 hT (by omega)
  have HB := Lib.hid hB
  have HG := Lib.hid (show ∀ a, a < n → fn T a < n from fun a h => fn_lt hT h)
  have HJ := Lib.hid (perm_inj hT)
  have HINF := Lib.hid (info_parts infoSl)
  have HINI := Lib.hid (info_parts infoI)
  have hmk := run_make_row' (P := Try.prog) 138 4 (.bool false) 1 Try.underlying138 infoBool rfl .i64 .i64 n (by omega) (by omega)
  clear h hT hB
  go_enter Try.func81, Try.ntmps81
  go_wp2_with fail
  go_cut [3, 4] (fun s3 s4 wx => ∃ g1 g2 : Nat, s3 = .slice (some ⟨g1, 0, none⟩) 0 0 ∧ s4 = .slice (some ⟨g2, 0, none⟩) n n ∧ w.heap.size + 1 ≤ g1 ∧ w.heap.size + 1 ≤ g2 ∧ Blk wx g1 22 #[] ∧ Blk wx g2 4 (madeCells #[.bool false] n) ∧ Blk wx w.heap.size 27 #[.slice ao S.length sc, .slice (some ta) n tc] ∧ Below w.heap.size w wx)
  case first =>
    go_region_held3 (fun w' => w'.cell? ⟨w.heap.size, 0, none⟩ = some (.slice ao S.length sc) ∧ w'.cell? ⟨w.heap.size, 1, none⟩ = some (.slice (some ta) n tc)) (go_keep) (fail)
    all_goals go_wp2_with fail
    all_goals go_meet
    all_goals exact ⟨_, _, rfl, rfl, by simp, by simp, (by repeat (first | (with_reducible assumption) | ((with_reducible refine Blk.new ?_); · first | omega | (simp; done) | (simp; omega)) | (with_reducible apply Blk.set4) | (with_reducible apply Blk.set3) | (with_reducible apply Blk.set2) | ((with_reducible refine Blk.put ?_ ?_); · first | omega | (simp; omega)) | (with_reducible refine Blk.old ?_) | (with_reducible refine Blk.drew ?_) | (with_reducible refine Blk.drewN ?_) | ((with_reducible refine Blk.below hb ?_ ?_); · first | omega | (simp; done) | (simp; omega)))), (by repeat (first | (with_reducible assumption) | ((with_reducible refine Blk.new ?_); · first | omega | (simp; done) | (simp; omega)) | (with_reducible apply Blk.set4) | (with_reducible apply Blk.set3) | (with_reducible apply Blk.set2) | ((with_reducible refine Blk.put ?_ ?_); · first | omega | (simp; omega)) | (with_reducible refine Blk.old ?_) | (with_reducible refine Blk.drew ?_) | (with_reducible refine Blk.drewN ?_) | ((with_reducible refine Blk.below hb ?_ ?_); · first | omega | (simp; done) | (simp; omega)))), (by repeat (first | (with_reducible assumption) | ((with_reducible refine Blk.new ?_); · first | omega | (simp; done) | (simp; omega)) | (with_reducible apply Blk.set4) | (with_reducible apply Blk.set3) | (with_reducible apply Blk.set2) | ((with_reducible refine Blk.put ?_ ?_); · first | omega | (simp; omega)) | (with_reducible refine Blk.old ?_) | (with_reducible refine Blk.drew ?_) | (with_reducible refine Blk.drewN ?_) | ((with_reducible refine Blk.below hb ?_ ?_); · first | omega | (simp; done) | (simp; omega)))), (by repeat (first | (with_reducible exact Below.refl _ _) | (with_reducible assumption) | (with_reducible refine Below.drew ?_) | (with_reducible refine Below.drewN ?_) | ((with_reducible refine Below.al ?_ ?_); · first | omega | (simp; done) | (simp; omega)) | ((with_reducible refine Below.sc ?_ ?_); · first | omega | (simp; done) | (simp; omega)) | ((with_reducible refine Below.thru hb ?_ ?_); · first | omega | (simp; done) | (simp; omega))))⟩
  case rest =>
    obtain ⟨g1, g2, rfl, rfl, hg1, hg2, B1, B2, B0, hb⟩ := hcut
    rw [made_inV] at B2
    have O1 : OwnK encV 22 wc (w.heap.size + 1) (.slice (some ⟨g1, 0, none⟩) 0 0) [] := OwnK.of_blk (xs := []) B1 (by omega) rfl (by simp [maxLen])
    clear B1
    go_wp2
    go_loopw [3, 5] (fun v kk wr => ∃ (k : Nat) (vs : List Sl), k ≤ n ∧ kk = .int .i64 k ∧ OwnK encV 22 wr (w.heap.size + 1) v vs ∧ RowS wr (w.heap.size + 1) vs (cysL (fn T) n k) ∧ Blk wr g2 4 (inV n (cysL (fn T) n k).flatten) ∧ Blk wr w.heap.size 27 #[.slice ao S.length sc, .slice (some ta) n tc] ∧ Below w.heap.size w wr) (fun _ kk _ => n - (intOf kk).toNat)
    case atStart => exact ⟨0, [], Nat.zero_le _, rfl, O1, trivial, B2, B0, hb⟩
    case round =>
      clear O1 B2 B0 hb
      obtain ⟨k, vs, hk, rfl, O, R, B2, B0, kwr⟩ := hrel
      have hcl : vs.length ≤ k := by have h1 := R.len; have h2 := cysL_len (fn T) n k; omega
      obtain ⟨vo, vc, rfl⟩ := O.len
      have b0 := B0.p2
      have swr := kwr.size
      have lB0 := B0.lt
      have lB2 := B2.lt
      by_cases hlt : k < n
      · have HX := Lib.hid (show cysL (fn T) n (k + 1) = if isMin (fn T) k n then cysL (fn T) n k ++ [cyL (fn T) k n] else cysL (fn T) n k from rfl)
        have i0 : (0 : Int) ≤ (k : Int) := by omega
        have i1 : (k : Int) < (n : Int) := by omega
        have cm := B2.at (inV_get (out := (cysL (fn T) n k).flatten) hlt)
        rw [met_min HG.out HJ.out hlt] at cm
        cases hx : isMin (fn T) k n with
        | false =>
          rw [hx] at HX cm
          have H := Lib.hid (And.intro O (And.intro R (And.intro B2 (And.intro B0 kwr))))
          clear hx O R B2 B0 kwr
          go_wp2
          go_roundw
          case rel => exact ⟨k + 1, vs, by omega, by go_num, H.out.1, by rw [HX.out]; exact H.out.2.1, by rw [HX.out]; exact H.out.2.2.1, H.out.2.2.2.1, H.out.2.2.2.2⟩
          case measure => simp [intOf]; omega
        | true =>
          have HMIN := Lib.hid hx
          rw [hx] at HX cm
          clear hx
          have HPER := Lib.hid (per_spec HG.out HJ.out hlt)
          have hple := per_le HG.out HJ.out hlt
          have hpo := HPER.out.one
          have HMI := Lib.hid (fun j hj => met_in HG.out HJ.out hlt HMIN.out (j := j) hj)
          have HLT := Lib.hid (fun j => it_lt (g := fn T) (n := n) HG.out hlt j)
          have HCY := Lib.hid (show cyL (fn T) k n = cyK (fn T) k (per (fn T) k n) from rfl)
          obtain ⟨P, hP⟩ : ∃ P, per (fn T) k n = P := ⟨_, rfl⟩
          rw [hP] at HPER hple hpo HMI HCY
          clear hP
          obtain ⟨m0, hm0⟩ : ∃ m, wr.heap.size = m := ⟨_, rfl⟩
          have hrows := Lib.hid (show ∀ t ∈ vs, ∀ g, t.v.ownBlock = some g → g < m0 from fun t ht g hg => hm0 ▸ (R.lt t ht g hg).2)
          go_wp2_with fail
          refine forget (fun W_ => Own W_ m0 (.slice (some ⟨m0, 0, none⟩) 0 0) ((cyK (fn T) k 0).map Int.ofNat) ∧ Blk W_ g2 4 (inV n ((cysL (fn T) n k).flatten ++ cyK (fn T) k 0)) ∧ Blk W_ w.heap.size 27 #[.slice ao S.length sc, .slice (some ta) n tc] ∧ OwnK encV 22 W_ (w.heap.size + 1) (.slice vo vs.length vc) vs ∧ RowS W_ (w.heap.size + 1) vs (cysL (fn T) n k) ∧ Below w.heap.size w W_ ∧ m0 ≤ W_.heap.size) ⟨Own.of_blk (xs := []) (Blk.new (by omega)) (by omega) rfl (by simp [maxLen]), by rw [show cyK (fn T) k 0 = [] from rfl, List.append_nil]; exact (by repeat (first | (with_reducible assumption) | ((with_reducible refine Blk.new ?_); · first | omega | (simp; done) | (simp; omega)) | (with_reducible apply Blk.set4) | (with_reducible apply Blk.set3) | (with_reducible apply Blk.set2) | ((with_reducible refine Blk.put ?_ ?_); · first | omega | (simp; omega)) | (with_reducible refine Blk.old ?_) | (with_reducible refine Blk.drew ?_) | (with_reducible refine Blk.drewN ?_) | ((with_reducible refine Blk.below hb ?_ ?_); · first | omega | (simp; done) | (simp; omega)))), (by repeat (first | (with_reducible assumption) | ((with_reducible refine Blk.new ?_); · first | omega | (simp; done) | (simp; omega)) | (with_reducible apply Blk.set4) | (with_reducible apply Blk.set3) | (with_reducible apply Blk.set2) | ((with_reducible refine Blk.put ?_ ?_); · first | omega | (simp; omega)) | (with_reducible refine Blk.old ?_) | (with_reducible refine Blk.drew ?_) | (with_reducible refine Blk.drewN ?_) | ((with_reducible refine Blk.below hb ?_ ?_); · first | omega | (simp; done) | (simp; omega)))), (by repeat (first | (with_reducible assumption) | (with_reducible refine Own.drew ?_) | (with_reducible refine Own.drewN ?_) | (with_reducible refine Own.alloc ?_) | (with_reducible refine OwnK.drew ?_) | (with_reducible refine OwnK.drewN ?_) | (with_reducible refine OwnK.alloc ?_) | ((with_reducible refine OwnK.put ?_ ?_); · first | omega | (simp; done) | (simp; omega)) | ((with_reducible refine Own.below hb ?_)) | ((with_reducible refine OwnK.below hb ?_)))), R.below ((Below.refl _ _).alloc (Nat.le_refl _) _), (by repeat (first | (with_reducible exact Below.refl _ _) | (with_reducible assumption) | (with_reducible refine Below.drew ?_) | (with_reducible refine Below.drewN ?_) | ((with_reducible refine Below.al ?_ ?_); · first | omega | (simp; done) | (simp; omega)) | ((with_reducible refine Below.sc ?_ ?_); · first | omega | (simp; done) | (simp; omega)) | ((with_reducible refine Below.thru hb ?_ ?_); · first | omega | (simp; done) | (simp; omega)))), by first | omega | (simp; omega)⟩ ?_
          rintro wo ⟨ON, D2, D0, OO, RR, kwo, mo⟩
          have HO := Lib.hid (And.intro ON (And.intro D2 (And.intro D0 (And.intro OO (And.intro RR (And.intro kwo mo))))))
          clear ON D2 D0 OO RR kwo mo O R B2 B0 kwr
          go_loopw [6, 7] (fun ov av wr => ∃ j : Nat, j ≤ P ∧ av = .int .i64 (it (fn T) j k : Nat) ∧ Own wr m0 ov ((cyK (fn T) k j).map Int.ofNat) ∧ Blk wr g2 4 (inV n ((cysL (fn T) n k).flatten ++ cyK (fn T) k j)) ∧ Blk wr w.heap.size 27 #[.slice ao S.length sc, .slice (some ta) n tc] ∧ OwnK encV 22 wr (w.heap.size + 1) (.slice vo vs.length vc) vs ∧ RowS wr (w.heap.size + 1) vs (cysL (fn T) n k) ∧ Below w.heap.size w wr ∧ m0 ≤ wr.heap.size) (fun ov _ _ => P - lenOf ov)
          case atStart => exact ⟨0, Nat.zero_le _, rfl, HO.out.1, HO.out.2.1, HO.out.2.2.1, HO.out.2.2.2.1, HO.out.2.2.2.2.1, HO.out.2.2.2.2.2.1, HO.out.2.2.2.2.2.2⟩
          case round =>
            clear HO
            obtain ⟨j, hjP, rfl, ON, D2, D0, OO, RR, kwr, mwr⟩ := hrel
            have hxl := HLT.out j
            have cx := D2.at (inV_get (out := (cysL (fn T) n k).flatten ++ cyK (fn T) k j) hxl)
            rw [HMI.out j hjP] at cx
            have fx := D2.free (it (fn T) j k)
            have HN := Lib.hid (show it (fn T) (j + 1) k = fn T (it (fn T) j k) from rfl)
            have HK := Lib.hid (cyK_succ (fn T) k j)
            obtain ⟨no, nc, rfl, -⟩ := nats_open ON.slIn
            rw [cyK_len] at *
            have d0 := D0.p2
            have lD0 := D0.lt
            have lD2 := D2.lt
            have sw2 := kwr.size
            generalize it (fn T) j k = x at *
            have x0 : (0 : Int) ≤ (x : Int) := by omega
            have x1 : (x : Int) < (n : Int) := by omega
            by_cases hj : j = P
            · rw [decide_eq_true hj] at cx
              subst hj
              have H := Lib.hid (And.intro ON (And.intro D2 (And.intro D0 (And.intro OO (And.intro RR kwr)))))
              clear ON D2 D0 OO RR kwr
              obtain ⟨jS, hinf⟩ := HINF.out
              replace hinf := Lib.hid hinf
              go_wp2_with (at_builtin; refine wpList_app encV rfl _ _ 49 22 24 rfl Try.underlying49 jS _ hinf.out.1 hinf.out.2.1 hinf.out.2.2.1 hinf.out.2.2.2 rfl (.slice vo vs.length vc) vs (w.heap.size + 1) wr.heap.size 1 #[.slice no j nc] [⟨no, j, nc⟩] rfl ?o1 rfl ?b1 rfl ?l1 ?l2 (by first | omega | (simp; done) | (simp; omega)) ?_)
              case o1 =>
                have O1 := H.out.2.2.2.1
                exact (by repeat (first | (with_reducible assumption) | (with_reducible refine Own.drew ?_) | (with_reducible refine Own.drewN ?_) | (with_reducible refine Own.alloc ?_) | (with_reducible refine OwnK.drew ?_) | (with_reducible refine OwnK.drewN ?_) | (with_reducible refine OwnK.alloc ?_) | ((with_reducible refine OwnK.put ?_ ?_); · first | omega | (simp; done) | (simp; omega)) | ((with_reducible refine Own.below hb ?_)) | ((with_reducible refine OwnK.below hb ?_))))
              case b1 => exact Blk.new (by simp)
              case l1 => (try simp only [List.length_cons, List.length_nil]); unfold maxLen; omega
              case l2 => (try simp only [List.length_cons, List.length_nil]); omega
              intro v' w4 O4 hg
              have O1 := H.out.2.2.2.1
              have kk := H.out.2.2.2.2.2
              have ne2 : (Value.slice vo vs.length vc).ownBlock ≠ some g2 := O1.ne_blk H.out.2.1 (by decide)
              have B4 : Blk w4 w.heap.size 27 #[.slice ao S.length sc, .slice (some ta) n tc] := Blk.grownK hg (e := encV) (E := 22) (B := w.heap.size + 1) (xs := vs) (by repeat (first | (with_reducible assumption) | (with_reducible refine Own.drew ?_) | (with_reducible refine Own.drewN ?_) | (with_reducible refine Own.alloc ?_) | (with_reducible refine OwnK.drew ?_) | (with_reducible refine OwnK.drewN ?_) | (with_reducible refine OwnK.alloc ?_) | ((with_reducible refine OwnK.put ?_ ?_); · first | omega | (simp; done) | (simp; omega)) | ((with_reducible refine Own.below hb ?_)) | ((with_reducible refine OwnK.below hb ?_)))) (by omega) (Blk.old H.out.2.2.1)
              have E4 : Blk w4 g2 4 (inV n ((cysL (fn T) n k).flatten ++ cyK (fn T) k j)) := Blk.grownN hg ne2 (Blk.old H.out.2.1)
              have kw4 : Below w.heap.size w w4 := Below.grownK hg (e := encV) (E := 22) (B := w.heap.size + 1) (xs := vs) (by repeat (first | (with_reducible assumption) | (with_reducible refine Own.drew ?_) | (with_reducible refine Own.drewN ?_) | (with_reducible refine Own.alloc ?_) | (with_reducible refine OwnK.drew ?_) | (with_reducible refine OwnK.drewN ?_) | (with_reducible refine OwnK.alloc ?_) | ((with_reducible refine OwnK.put ?_ ?_); · first | omega | (simp; done) | (simp; omega)) | ((with_reducible refine Own.below hb ?_)) | ((with_reducible refine OwnK.below hb ?_)))) (by omega) (by simp; omega) (by repeat (first | (with_reducible exact Below.refl _ _) | (with_reducible assumption) | (with_reducible refine Below.drew ?_) | (with_reducible refine Below.drewN ?_) | ((with_reducible refine Below.al ?_ ?_); · first | omega | (simp; done) | (simp; omega)) | ((with_reducible refine Below.sc ?_ ?_); · first | omega | (simp; done) | (simp; omega)) | ((with_reducible refine Below.thru hb ?_ ?_); · first | omega | (simp; done) | (simp; omega))))
              have R4 : RowS w4 (w.heap.size + 1) (vs ++ [⟨no, j, nc⟩]) (cysL (fn T) n k ++ [cyL (fn T) k n]) := by
                rw [HCY.out]
                refine RowS.grown hg (e := encV) (E := 22) (B' := w.heap.size + 1) (xs := vs) (by repeat (first | (with_reducible assumption) | (with_reducible refine Own.drew ?_) | (with_reducible refine Own.drewN ?_) | (with_reducible refine Own.alloc ?_) | (with_reducible refine OwnK.drew ?_) | (with_reducible refine OwnK.drewN ?_) | (with_reducible refine OwnK.alloc ?_) | ((with_reducible refine OwnK.put ?_ ?_); · first | omega | (simp; done) | (simp; omega)) | ((with_reducible refine Own.below hb ?_)) | ((with_reducible refine OwnK.below hb ?_)))) (by decide) ((RowS.snoc (s := ⟨no, j, nc⟩) (H.out.1.mono (by omega)) H.out.2.2.2.2.1 (fun t ht g hg e => ?_)).below ((Below.refl _ _).alloc (Nat.le_refl _) _))
                have h1 := hrows.out t ht g hg
                have h2 := (H.out.1.lt e).1
                omega
              clear hg O1 kk H
              go_wp2
              go_roundw
              case rel => exact ⟨k + 1, vs ++ [⟨no, j, nc⟩], by omega, by go_num, O4, by rw [HX.out]; exact R4, by rw [HX.out, if_pos (by first | trivial | rfl), List.flatten_append, HCY.out]; simpa using E4, B4, kw4⟩
              case measure => simp [intOf]; omega
            · rw [decide_eq_false hj] at cx
              have cT : wr.cell? (ta.add x) = some (.int .i64 (fn T x : Int)) := by
                have e := HB.out x hxl
                rw [kwr.cell (block_lt_of_cell e :)]
                exact e
              have nN : (Value.slice no j nc).ownBlock ≠ some g2 := ON.toK.ne_blk D2 (by decide)
              have nO : (Value.slice vo vs.length vc).ownBlock ≠ some g2 := OO.ne_blk D2 (by decide)
              have nR := Lib.hid (RowS.ne_blk D2 (by decide) RR)
              have H := Lib.hid (And.intro ON (And.intro D2 (And.intro D0 (And.intro OO (And.intro RR kwr)))))
              clear ON D2 D0 OO RR kwr cT
              obtain ⟨jI, hinf⟩ := HINI.out
              replace hinf := Lib.hid hinf
              go_wp2_with (at_builtin; refine wpList_app encI rfl _ _ 22 2 8 rfl Try.underlying22 jI _ hinf.out.1 hinf.out.2.1 hinf.out.2.2.1 hinf.out.2.2.2 rfl (.slice no j nc) ((cyK (fn T) k j).map Int.ofNat) m0 wr.heap.size 1 #[.int .i64 (x : Int)] [(x : Int)] rfl ?o2 rfl ?b2 rfl ?l3 ?l4 (by first | omega | (simp; done) | (simp; omega)) ?_)
              case o2 => exact (Own.alloc (Own.put nN H.out.1)).toK
              case b2 => exact Blk.new (by simp [World.setCell])
              case l3 => (try simp only [List.length_map, List.length_cons, List.length_nil, cyK_len]); unfold maxLen; omega
              case l4 => (try simp only [List.length_map, List.length_cons, List.length_nil, cyK_len]); omega
              intro v' w4 O4 hg
              have hgs := hg.size
              have ON2 : Own ((wr.setCell ⟨g2, x, none⟩ (.bool true)).alloc (.cells #[.int .i64 (x : Int)] 2)) m0 (.slice no j nc) ((cyK (fn T) k j).map Int.ofNat) := (H.out.1.put nN).alloc
              have kk := H.out.2.2.2.2.2
              have E4 : Blk w4 g2 4 (inV n ((cysL (fn T) n k).flatten ++ cyK (fn T) k (j + 1))) := by
                rw [HK.out, ← List.append_assoc, ← inV_set]
                exact Blk.grownN hg nN (Blk.old H.out.2.1.set)
              have B4 : Blk w4 w.heap.size 27 #[.slice ao S.length sc, .slice (some ta) n tc] := Blk.grown hg ON2 (by omega) (Blk.old (H.out.2.2.1.put (by omega)))
              have kw4 : Below w.heap.size w w4 := Below.grownO hg ON2 (by omega) (by simp [World.setCell]; omega) (by repeat (first | (with_reducible exact Below.refl _ _) | (with_reducible assumption) | (with_reducible refine Below.drew ?_) | (with_reducible refine Below.drewN ?_) | ((with_reducible refine Below.al ?_ ?_); · first | omega | (simp; done) | (simp; omega)) | ((with_reducible refine Below.sc ?_ ?_); · first | omega | (simp; done) | (simp; omega)) | ((with_reducible refine Below.thru hb ?_ ?_); · first | omega | (simp; done) | (simp; omega))))
              have OO4 : OwnK encV 22 w4 (w.heap.size + 1) (.slice vo vs.length vc) vs := OwnK.grownO hg ON2 (by decide) (OwnK.alloc (OwnK.putN nO H.out.2.2.2.1))
              have RR4 : RowS w4 (w.heap.size + 1) vs (cysL (fn T) n k) := RowS.apart hg ON2 hrows.out ((RowS.put nR.out H.out.2.2.2.2.1).below ((Below.refl _ _).alloc (Nat.le_refl _) _))
              have len4 := O4.lenOf
              simp only [List.length_append, List.length_map, List.length_cons, List.length_nil, cyK_len] at len4
              have O5 : Own w4 m0 v' ((cyK (fn T) k (j + 1)).map Int.ofNat) := by
                rw [HK.out, List.map_append]
                exact OwnK.toOwn O4
              have cT : w4.cell? (ta.add x) = some (.int .i64 (fn T x : Int)) := by
                have e := HB.out x hxl
                rw [kw4.cell (block_lt_of_cell e :)]
                exact e
              have b4 := B4.p2
              clear hg O4 ON2 kk H
              go_wp2
              go_roundw
              case rel => exact ⟨j + 1, by omega, by rw [HN.out], O5, E4, B4, OO4, RR4, kw4, by have := hgs; simp [World.setCell] at this; omega⟩
              case measure => rw [len4]; simp only [lenOf]; omega
      · obtain rfl : k = n := by omega
        go_wp2
        refine bodyPost_ret (v := .slice vo vs.length vc) (by simp [results, Try.results81, go_sem]) rfl ?_
        exact ⟨_, vs, rfl, O.mono (by omega), R.mono (by omega), kwr⟩

end Go.Proofs.Ytamkbgodenkboaa
