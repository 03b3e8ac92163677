/- The cycles of an action: the walk of one cycle, and the least number of a list. -/
import Derived.Test.YtamkbgodenkboaaIs
import Derived.Test.YtamkbgodenkboaaCyc
namespace Go.Proofs.Ytamkbgodenkboaa
open Go.RowKit

set_option maxRecDepth 8000 in
set_option maxHeartbeats 2000000 in
theorem cycleOf_any (s t : Value) (S T : List Int) (n i : Nat) (w : World) (h : SlIn w .i64 s S ∧ SlIn w .i64 t T) (hT : permB T n) (hi : i < n) (hn : n ≤ 72) :
    Calls Try.prog 125 #[.agg #[s, t], .int .i64 (i : Int)] w fun e w' => ∃ v, e = .returned v ∧ Own w' w.heap.size v ((cyL (fn T) i n).map Int.ofNat) ∧ Below w.heap.size w w' := by
  obtain ⟨ao, sc, rfl, -⟩ := h.1.form
  obtain ⟨ta, tc, rfl, hB⟩ := perm_open h.2 hT (by omega)
  have HB := Lib.hid hB
  have HG := Lib.hid (show ∀ a, a < n → fn T a < n from fun a h => fn_lt hT h)
  have HJ := Lib.hid (perm_inj hT)
  have HINF := Lib.hid (info_parts infoI)
  have c0 := hB i hi
  have i0 : (0 : Int) ≤ (i : Int) := by omega
  have i1 : (i : Int) < (n : Int) := by omega
  have l0 := block_lt_of_cell c0
  have hperR := Lib.hid (per_spec HG.out HJ.out hi)
  clear h hB hT
  go_enter Try.func125, Try.ntmps125
  go_wp2_with fail
  refine forget (fun W_ => Below w.heap.size w W_ ∧ Blk W_ (w.heap.size) 27 (#[.slice ao S.length sc, .slice (some ta) n tc]) ∧ Blk W_ (w.heap.size + 1) 2 (#[.int .i64 (i : Int)])) ⟨(by repeat (first | (with_reducible exact Below.refl _ _) | (with_reducible assumption) | (with_reducible refine Below.drew ?_) | (with_reducible refine Below.drewN ?_) | ((with_reducible refine Below.al ?_ ?_); · first | omega | (simp; done) | (simp; omega)) | ((with_reducible refine Below.sc ?_ ?_); · first | omega | (simp; done) | (simp; omega)) | ((with_reducible refine Below.thru hb ?_ ?_); · first | omega | (simp; done) | (simp; omega)))), (by repeat (first | (with_reducible assumption) | ((with_reducible refine Blk.new ?_); · first | omega | (simp; done) | (simp; omega)) | (with_reducible apply Blk.set4) | (with_reducible apply Blk.set3) | (with_reducible apply Blk.set2) | ((with_reducible refine Blk.put ?_ ?_); · first | omega | (simp; omega)) | (with_reducible refine Blk.old ?_) | (with_reducible refine Blk.drew ?_) | (with_reducible refine Blk.drewN ?_) | ((with_reducible refine Blk.below hb ?_ ?_); · first | omega | (simp; done) | (simp; omega)))), (by repeat (first | (with_reducible assumption) | ((with_reducible refine Blk.new ?_); · first | omega | (simp; done) | (simp; omega)) | (with_reducible apply Blk.set4) | (with_reducible apply Blk.set3) | (with_reducible apply Blk.set2) | ((with_reducible refine Blk.put ?_ ?_); · first | omega | (simp; omega)) | (with_reducible refine Blk.old ?_) | (with_reducible refine Blk.drew ?_) | (with_reducible refine Blk.drewN ?_) | ((with_reducible refine Blk.below hb ?_ ?_); · first | omega | (simp; done) | (simp; omega))))⟩ ?_
  rintro w1 ⟨kw1, B0, N1⟩
  have sw1 := kw1.size
  have lB0 := B0.lt
  have lN1 := N1.lt
  have O1 : Own w1 (w.heap.size + 1) (.slice (some ⟨w.heap.size + 1, 0, none⟩) 1 1) ((cyK (fn T) i 1).map Int.ofNat) := Own.of_blk (xs := [(i : Int)]) N1 (by omega) rfl (by simp [maxLen])
  clear N1
  go_wp2
  go_loopw [5, 6] (fun v kk wr => ∃ j : Nat, 1 ≤ j ∧ kk = .int .i64 (it (fn T) j i : Nat) ∧ Hid (NoRet (fn T) i j) ∧ Own wr (w.heap.size + 1) v ((cyK (fn T) i j).map Int.ofNat) ∧ Blk wr w.heap.size 27 #[.slice ao S.length sc, .slice (some ta) n tc] ∧ Below w.heap.size w wr) (fun v _ _ => n + 1 - lenOf v)
  case atStart => exact ⟨1, Nat.le_refl _, rfl, Lib.hid (NoRet.one _ _), O1, B0, kw1⟩
  case round =>
    clear O1 B0 kw1 sw1
    obtain ⟨j, hj1, rfl, hno, O, B0, kwr⟩ := hrel
    have hle := hno.out.le HG.out HJ.out hi
    have HX := Lib.hid (show it (fn T) (j + 1) i = fn T (it (fn T) j i) from rfl)
    have hxl := it_lt HG.out hi j
    have hlen := O.toK.lenOf
    rw [List.length_map, cyK_len] at hlen
    have HS := Lib.hid (fun hk => NoRet.succ (g := fn T) (i := i) (k := j) hno.out hk)
    have HE := Lib.hid (fun (hk : it (fn T) j i = i) => Per.unique (g := fn T) (i := i) ⟨hj1, hk, hno.out⟩ hperR.out)
    have HC := Lib.hid (cyK_succ (fn T) i j)
    generalize it (fn T) j i = x at *
    cases hx : (((x : Nat) : Int) != ((i : Nat) : Int)) with
    | true =>
      have HQ := Lib.hid (HS.out (nat_ne hx))
      have cx : wr.cell? (ta.add x) = some (.int .i64 (fn T x : Int)) := by
        have e := HB.out x hxl
        rw [kwr.cell (block_lt_of_cell e :)]
        exact e
      have lx := block_lt_of_cell cx
      obtain ⟨vo, vc, rfl, -⟩ := nats_open O.slIn
      rw [cyK_len] at *
      have j0 : (0 : Int) ≤ (x : Int) := by omega
      have j1 : (x : Int) < (n : Int) := by omega
      have lB0 := B0.lt
      have swr := kwr.size
      have b0 := B0.p2
      have H := Lib.hid (And.intro O (And.intro B0 kwr))
      clear O B0 kwr b0 cx
      obtain ⟨jI, hinf⟩ := HINF.out
      replace hinf := Lib.hid hinf
      go_wp2_with (at_builtin; refine wpList_app encI rfl _ _ 22 2 8 rfl Try.underlying22 jI _ hinf.out.1 hinf.out.2.1 hinf.out.2.2.1 hinf.out.2.2.2 rfl (.slice vo j vc) ((cyK (fn T) i j).map Int.ofNat) (w.heap.size + 1) wr.heap.size 1 #[.int .i64 (x : Int)] [(x : Int)] rfl ?o1 rfl ?b1 rfl ?l1 ?l2 (by first | omega | (simp; done) | (simp; omega)) ?_)
      case o1 =>
        have O1 := H.out.1.toK
        exact (by repeat (first | (with_reducible assumption) | (with_reducible refine Own.drew ?_) | (with_reducible refine Own.drewN ?_) | (with_reducible refine Own.alloc ?_) | (with_reducible refine OwnK.drew ?_) | (with_reducible refine OwnK.drewN ?_) | (with_reducible refine OwnK.alloc ?_) | ((with_reducible refine OwnK.put ?_ ?_); · first | omega | (simp; done) | (simp; omega)) | ((with_reducible refine Own.below hb ?_)) | ((with_reducible refine OwnK.below hb ?_))))
      case b1 => exact Blk.new (by simp)
      case l1 => simp only [List.length_map, List.length_cons, List.length_nil, cyK_len, maxLen]; omega
      case l2 => simp only [List.length_map, List.length_cons, List.length_nil, cyK_len]; omega
      intro v' w2 O2 hg
      have O1 := H.out.1
      have kk := H.out.2.2
      have B2 : Blk w2 w.heap.size 27 #[.slice ao S.length sc, .slice (some ta) n tc] := Blk.grown hg (B2 := w.heap.size + 1) (ys := (cyK (fn T) i j).map Int.ofNat) (by repeat (first | (with_reducible assumption) | (with_reducible refine Own.drew ?_) | (with_reducible refine Own.drewN ?_) | (with_reducible refine Own.alloc ?_) | (with_reducible refine OwnK.drew ?_) | (with_reducible refine OwnK.drewN ?_) | (with_reducible refine OwnK.alloc ?_) | ((with_reducible refine OwnK.put ?_ ?_); · first | omega | (simp; done) | (simp; omega)) | ((with_reducible refine Own.below hb ?_)) | ((with_reducible refine OwnK.below hb ?_)))) (by omega) (Blk.old H.out.2.1)
      have kw2 : Below w.heap.size w w2 := Below.grownO hg (B2 := w.heap.size + 1) (ys := (cyK (fn T) i j).map Int.ofNat) (by repeat (first | (with_reducible assumption) | (with_reducible refine Own.drew ?_) | (with_reducible refine Own.drewN ?_) | (with_reducible refine Own.alloc ?_) | (with_reducible refine OwnK.drew ?_) | (with_reducible refine OwnK.drewN ?_) | (with_reducible refine OwnK.alloc ?_) | ((with_reducible refine OwnK.put ?_ ?_); · first | omega | (simp; done) | (simp; omega)) | ((with_reducible refine Own.below hb ?_)) | ((with_reducible refine OwnK.below hb ?_)))) (by omega) (by simp; omega) (by repeat (first | (with_reducible exact Below.refl _ _) | (with_reducible assumption) | (with_reducible refine Below.drew ?_) | (with_reducible refine Below.drewN ?_) | ((with_reducible refine Below.al ?_ ?_); · first | omega | (simp; done) | (simp; omega)) | ((with_reducible refine Below.sc ?_ ?_); · first | omega | (simp; done) | (simp; omega)) | ((with_reducible refine Below.thru hb ?_ ?_); · first | omega | (simp; done) | (simp; omega))))
      have len2 := O2.lenOf
      have O3 : Own w2 (w.heap.size + 1) v' ((cyK (fn T) i (j + 1)).map Int.ofNat) := by
        rw [HC.out, List.map_append]
        exact OwnK.toOwn O2
      simp only [List.length_append, List.length_map, List.length_cons, List.length_nil, cyK_len] at len2
      have cx2 : w2.cell? (ta.add x) = some (.int .i64 (fn T x : Int)) := by
        have e := HB.out x hxl
        rw [kw2.cell (block_lt_of_cell e :)]
        exact e
      have b2 := B2.p2
      clear hg O2 O1 kk H
      go_wp2
      go_roundw
      case rel => exact ⟨j + 1, by omega, by rw [HX.out], HQ, O3, B2, kw2⟩
      case measure => rw [len2]; simp only [lenOf]; omega
    | false =>
      have HP := Lib.hid (HE.out (nat_eq hx))
      obtain ⟨vo, vc, rfl, -⟩ := nats_open O.slIn
      have HO := Lib.hid (And.intro O kwr)
      clear O kwr
      go_wp2
      refine bodyPost_ret (v := .slice vo (cyK (fn T) i j).length vc) (by simp [results, Try.results125, go_sem]) rfl ?_
      exact ⟨_, rfl, by unfold cyL; rw [← HP.out]; exact HO.out.1.mono (by omega), HO.out.2⟩

/-- The least number of a list. -/
def minL (xs : List Int) (k : Nat) : Int := (xs.take k).foldl min (xs.getD 0 0)
theorem minL_succ {xs : List Int} {k : Nat} (h : k < xs.length) : minL xs (k + 1) = min (minL xs k) xs[k] := by
  unfold minL
  rw [List.take_add_one, List.getElem?_eq_getElem h, List.foldl_append]
  rfl
set_option maxRecDepth 8000 in
set_option maxHeartbeats 1000000 in
theorem sliceMin_any (v : Value) (xs : List Int) (w : World) (h : SlIn w .i64 v xs) (hl : 1 ≤ xs.length) (hm : xs.length ≤ 1048576) :
    Calls Try.prog 126 #[v] w fun e w' => e = .returned (.int .i64 (minL xs xs.length)) ∧ Below w.heap.size w w' := by
  obtain ⟨ao, c, rfl, ha⟩ := h.form
  obtain ⟨a, rfl, hx⟩ := ha (by omega)
  have HX := Lib.hid hx
  have c0 : w.cell? a = some (.int .i64 xs[0]) := by
    have e := hx 0 (by omega)
    rwa [Addr.add_zero'] at e
  have e1 : (0 : Int) < (xs.length : Int) := by omega
  have H0 := Lib.hid (show minL xs 1 = xs[0] by
    rw [minL_succ (by omega)]
    unfold minL
    simp only [List.take_zero, List.foldl_nil]
    rw [List.getD, List.getElem?_eq_getElem (by omega)]
    simp)
  clear h ha hx
  go_enter Try.func126, Try.ntmps126
  go_wp2
  go_loopw [3, 4] (fun m i wr => ∃ k : Nat, 1 ≤ k ∧ k ≤ xs.length ∧ i = .int .i64 k ∧ m = .int .i64 (minL xs k) ∧ Below w.heap.size w wr) (fun _ i _ => xs.length - (intOf i).toNat)
  case atStart => exact ⟨1, Nat.le_refl _, hl, rfl, by rw [H0.out], (by repeat (first | (with_reducible exact Below.refl _ _) | (with_reducible assumption) | (with_reducible refine Below.drew ?_) | (with_reducible refine Below.drewN ?_) | ((with_reducible refine Below.al ?_ ?_); · first | omega | (simp; done) | (simp; omega)) | ((with_reducible refine Below.sc ?_ ?_); · first | omega | (simp; done) | (simp; omega)) | ((with_reducible refine Below.thru hb ?_ ?_); · first | omega | (simp; done) | (simp; omega))))⟩
  case round =>
    obtain ⟨k, hk1, hk, rfl, rfl, kwr⟩ := hrel
    by_cases hlt : k < xs.length
    · have c1 : wr.cell? (a.add k) = some (.int .i64 xs[k]) := by
        have e := HX.out k hlt
        rw [kwr.cell (block_lt_of_cell e :)]
        exact e
      have HM := Lib.hid (minL_succ hlt)
      have i0 : (0 : Int) ≤ (k : Int) := by omega
      have i1 : (k : Int) < (xs.length : Int) := by omega
      generalize xs[k] = x at *
      generalize minL xs k = m at *
      go_wp2
      go_roundw
      case rel => exact ⟨k + 1, by omega, by omega, by go_num, by rw [HM.out]; congr 1; split <;> omega, kwr⟩
      case measure => simp [intOf]; omega
    · obtain rfl : k = xs.length := by omega
      go_wp2
      go_ret
      exact ⟨rfl, kwr⟩

end Go.Proofs.Ytamkbgodenkboaa
