/- Forms of actions: both walks. -/
import Derived.Test.YtamkbgodenkboaaRnTop
namespace Go.Proofs.Ytamkbgodenkboaa
open Go.RowKit

/-- The places of the points in a list, after k rounds. -/
def posL (M : List Nat) (n : Nat) : Nat → List Int
  | 0 => List.replicate n 0
  | k + 1 => (posL M n k).set (M.getD k 0) (k : Int)
theorem posL_len (M : List Nat) (n k : Nat) : (posL M n k).length = n := by
  induction k with
  | zero => simp [posL]
  | succ k ih => simp [posL, ih]
theorem posL_pts {M : List Nat} {n : Nat} (h0 : 1 ≤ n) (k : Nat) (hk : k ≤ n) : ∀ a, a < n → ∃ q : Nat, q < n ∧ (posL M n k)[a]? = some (q : Int) := by
  induction k with
  | zero => exact fun a ha => ⟨0, by omega, by simp [posL, ha]⟩
  | succ k ih =>
    intro a ha
    simp only [posL, List.getElem?_set, posL_len]
    by_cases e : M.getD k 0 = a
    · rw [if_pos e, if_pos (by omega)]
      exact ⟨k, by omega, rfl⟩
    · rw [if_neg e]
      exact ih (by omega) a ha
theorem posL_ptsB {M : List Nat} {n k : Nat} (h0 : 1 ≤ n) (hk : k ≤ n) : ptsB (posL M n k) n :=
  ⟨posL_len M n k, fun a ha => by
    obtain ⟨q, hq, e⟩ := posL_pts (M := M) h0 k hk a ha
    have : fn (posL M n k) a = q := by
      unfold fn
      rw [List.getD, e]
      simp
    rw [this]
    exact ⟨e, hq⟩⟩
/-- The points' places in the order in which they are met from i on. -/
def posOf (S T : List Int) (i n : Nat) : List Int := posL (metL (fn S) (fn T) i n) n (metL (fn S) (fn T) i n).length
def formOf (S T : List Int) (i n : Nat) : Act := ⟨rnL (posOf S T i n) S n n, rnL (posOf S T i n) T n n⟩

set_option maxRecDepth 8000 in
set_option maxHeartbeats 2000000 in
theorem form_any (s t : Value) (S T : List Int) (n i : Nat) (w : World) (h : SlIn w .i64 s S ∧ SlIn w .i64 t T) (hS : permB S n) (hT : permB T n) (hi : i < n) (hn : n ≤ 72) :
    Calls Try.prog 75 #[.agg #[s, t], .int .i64 (i : Int)] w fun e w' => ∃ s' t', e = .returned (.agg #[s', t']) ∧ OwnA w' w.heap.size s' t' (formOf S T i n) ∧ Below w.heap.size w w' := by
  obtain ⟨sa, sc, hs, -⟩ := perm_open h.1 hS (by omega)
  obtain ⟨ta, tc, ht, -⟩ := perm_open h.2 hT (by omega)
  subst hs ht
  have HI := Lib.hid h
  have HPS := Lib.hid hS
  have HPT := Lib.hid hT
  have hmk := run_make_row' (P := Try.prog) 22 2 (.int .i64 0) 8 Try.underlying22 infoI rfl .i64 .i64 n (by omega) (by omega)
  have HF := Lib.hid (show formOf S T i n = ⟨rnL (posL (metL (fn S) (fn T) i n) n (metL (fn S) (fn T) i n).length) S n n, rnL (posL (metL (fn S) (fn T) i n) n (metL (fn S) (fn T) i n).length) T n n⟩ from rfl)
  have hm := metL_inv (f := fn S) (g := fn T) (i := i) (n := n) (fun a h => fn_lt hS h) (fun a h => fn_lt hT h) hi
  have hlen := nodup_len hm.1 hm.2
  have HM := Lib.hid hm
  obtain ⟨M, hMe⟩ : ∃ M, metL (fn S) (fn T) i n = M := ⟨_, rfl⟩
  rw [hMe] at HM hlen HF
  have HME := Lib.hid hMe
  clear h hS hT hm hMe
  go_enter Try.func75, Try.ntmps75
  go_wp2_with fail
  refine (reached_any _ _ S T n i _ (SlIn2.below HI.out (by repeat (first | (with_reducible exact Below.refl _ _) | (with_reducible assumption) | (with_reducible refine Below.drew ?_) | (with_reducible refine Below.drewN ?_) | ((with_reducible refine Below.al ?_ ?_); · first | omega | (simp; done) | (simp; omega)) | ((with_reducible refine Below.sc ?_ ?_); · first | omega | (simp; done) | (simp; omega)) | ((with_reducible refine Below.thru hb ?_ ?_); · first | omega | (simp; done) | (simp; omega))))) HPS.out HPT.out hi hn).mono ?_
  rw [HME.out]
  rintro e w1 ⟨v, rfl, O, hb⟩
  have B0 : Blk w1 w.heap.size 27 #[.slice (some sa) n sc, .slice (some ta) n tc] := (by repeat (first | (with_reducible assumption) | ((with_reducible refine Blk.new ?_); · first | omega | (simp; done) | (simp; omega)) | (with_reducible apply Blk.set4) | (with_reducible apply Blk.set3) | (with_reducible apply Blk.set2) | ((with_reducible refine Blk.put ?_ ?_); · first | omega | (simp; omega)) | (with_reducible refine Blk.old ?_) | (with_reducible refine Blk.drew ?_) | (with_reducible refine Blk.drewN ?_) | ((with_reducible refine Blk.below hb ?_ ?_); · first | omega | (simp; done) | (simp; omega))))
  have B1 : Blk w1 (w.heap.size + 1) 27 #[.slice none 0 0, .slice none 0 0] := (by repeat (first | (with_reducible assumption) | ((with_reducible refine Blk.new ?_); · first | omega | (simp; done) | (simp; omega)) | (with_reducible apply Blk.set4) | (with_reducible apply Blk.set3) | (with_reducible apply Blk.set2) | ((with_reducible refine Blk.put ?_ ?_); · first | omega | (simp; omega)) | (with_reducible refine Blk.old ?_) | (with_reducible refine Blk.drew ?_) | (with_reducible refine Blk.drewN ?_) | ((with_reducible refine Blk.below hb ?_ ?_); · first | omega | (simp; done) | (simp; omega))))
  have B2 : Blk w1 (w.heap.size + 1 + 1) 2 (madeCells #[.int .i64 0] n) := (by repeat (first | (with_reducible assumption) | ((with_reducible refine Blk.new ?_); · first | omega | (simp; done) | (simp; omega)) | (with_reducible apply Blk.set4) | (with_reducible apply Blk.set3) | (with_reducible apply Blk.set2) | ((with_reducible refine Blk.put ?_ ?_); · first | omega | (simp; omega)) | (with_reducible refine Blk.old ?_) | (with_reducible refine Blk.drew ?_) | (with_reducible refine Blk.drewN ?_) | ((with_reducible refine Blk.below hb ?_ ?_); · first | omega | (simp; done) | (simp; omega))))
  have kw1 : Below w.heap.size w w1 := (by repeat (first | (with_reducible exact Below.refl _ _) | (with_reducible assumption) | (with_reducible refine Below.drew ?_) | (with_reducible refine Below.drewN ?_) | ((with_reducible refine Below.al ?_ ?_); · first | omega | (simp; done) | (simp; omega)) | ((with_reducible refine Below.sc ?_ ?_); · first | omega | (simp; done) | (simp; omega)) | ((with_reducible refine Below.thru hb ?_ ?_); · first | omega | (simp; done) | (simp; omega))))
  have O1 : Own w1 (w.heap.size + 3) v (M.map Int.ofNat) := Own.mono (by first | omega | (simp; done) | (simp; omega)) O
  rw [made_ic] at B2
  obtain ⟨ao, c, rfl, -⟩ := nats_open O1.slIn
  have R1 := Lib.hid O.rng
  clear hb O
  go_wp2
  go_loopw [16] (fun i wr => ∃ k : Nat, k ≤ M.length ∧ i = .int .i64 k ∧ Blk wr (w.heap.size + 1 + 1) 2 (ic (posL M n k)) ∧ Own wr (w.heap.size + 3) (.slice ao M.length c) (M.map Int.ofNat) ∧ Blk wr w.heap.size 27 #[.slice (some sa) n sc, .slice (some ta) n tc] ∧ Blk wr (w.heap.size + 1) 27 #[.slice none 0 0, .slice none 0 0] ∧ Below w.heap.size w wr) (fun i _ => M.length - (intOf i).toNat)
  case atStart => exact ⟨0, Nat.zero_le _, rfl, B2, O1, B0, B1, kw1⟩
  case round =>
    clear B2 O1 B0 B1 kw1
    obtain ⟨k, hk, rfl, B2, O, B0, B1, kwr⟩ := hrel
    have lB2 := B2.lt
    have lB0 := B0.lt
    have lB1 := B1.lt
    have swr := kwr.size
    by_cases hlt : k < M.length
    · obtain ⟨ao', c', he, hx⟩ := nats_open O.slIn
      obtain ⟨oa, rfl, hx2⟩ := hx (by omega)
      cases he
      have cm := hx2 k hlt
      have HX := Lib.hid (show posL M n (k + 1) = (posL M n k).set (M.getD k 0) (k : Int) from rfl)
      have hq : M.getD k 0 < n := by
        rw [List.getD, List.getElem?_eq_getElem hlt]
        exact HM.out.2 _ (List.getElem_mem hlt)
      generalize M.getD k 0 = q at *
      have z1 : q < (posL M n k).length := by rw [posL_len]; exact hq
      have cs := B2.at (ic_get z1)
      have fs := B2.free q
      have i0 : (0 : Int) ≤ (k : Int) := by omega
      have i1 : (k : Int) < (M.length : Int) := by omega
      have i2 : (0 : Int) ≤ (q : Int) := by omega
      have i3 : (q : Int) < (n : Int) := by omega
      have H := Lib.hid (And.intro B2 (And.intro O (And.intro B0 (And.intro B1 kwr))))
      clear B2 O B0 B1 kwr hx hx2
      go_wp2
      go_roundw
      case rel => exact ⟨k + 1, by omega, by go_num, by rw [HX.out, ← ic_set]; exact Blk.set H.out.1, Own.put (fun e => by have := (H.out.2.1.lt e).1; omega) H.out.2.1, Blk.put (by omega) H.out.2.2.1, Blk.put (by omega) H.out.2.2.2.1, H.out.2.2.2.2.setCell (by dsimp only; omega) _⟩
      case measure => simp [intOf]; omega
    · obtain rfl : k = M.length := by omega
      have b0 := B0.p2
      have hpo : SlIn wr .i64 (.slice (some ⟨w.heap.size + 1 + 1, 0, none⟩) n n) (posL M n M.length) := by
        have e := Own.of_ic (B := w.heap.size) B2 (by omega) (by rw [posL_len]; unfold maxLen; omega)
        rw [posL_len] at e
        exact e.slIn
      have HPO := Lib.hid hpo
      clear hpo O
      go_wp2_with fail
      refine (renumbered_any _ _ _ S T (posL M n M.length) n _ (SlIn2.below HI.out (by repeat (first | (with_reducible exact Below.refl _ _) | (with_reducible assumption) | (with_reducible refine Below.drew ?_) | (with_reducible refine Below.drewN ?_) | ((with_reducible refine Below.al ?_ ?_); · first | omega | (simp; done) | (simp; omega)) | ((with_reducible refine Below.sc ?_ ?_); · first | omega | (simp; done) | (simp; omega)) | ((with_reducible refine Below.thru hb ?_ ?_); · first | omega | (simp; done) | (simp; omega))))) (HPO.out.below (by repeat (first | (with_reducible exact Below.refl _ _) | (with_reducible assumption) | (with_reducible refine Below.drew ?_) | (with_reducible refine Below.drewN ?_) | ((with_reducible refine Below.al ?_ ?_); · first | omega | (simp; done) | (simp; omega)) | ((with_reducible refine Below.sc ?_ ?_); · first | omega | (simp; done) | (simp; omega)) | ((with_reducible refine Below.thru hb ?_ ?_); · first | omega | (simp; done) | (simp; omega))))) HPS.out HPT.out (posL_ptsB (by omega) hlen) (by omega) hn).mono ?_
      rintro e w3 ⟨s', t', rfl, O, hb⟩
      obtain ⟨xa, xc, hx, -⟩ := O.1.slIn.form
      obtain ⟨ya, yc, hy, -⟩ := O.2.1.slIn.form
      subst hx hy
      have B4 : Blk w3 (w.heap.size + 1) 27 #[.slice none 0 0, .slice none 0 0] := (by repeat (first | (with_reducible assumption) | ((with_reducible refine Blk.new ?_); · first | omega | (simp; done) | (simp; omega)) | (with_reducible apply Blk.set4) | (with_reducible apply Blk.set3) | (with_reducible apply Blk.set2) | ((with_reducible refine Blk.put ?_ ?_); · first | omega | (simp; omega)) | (with_reducible refine Blk.old ?_) | (with_reducible refine Blk.drew ?_) | (with_reducible refine Blk.drewN ?_) | ((with_reducible refine Blk.below hb ?_ ?_); · first | omega | (simp; done) | (simp; omega))))
      have kw3 : Below w.heap.size w w3 := (by repeat (first | (with_reducible exact Below.refl _ _) | (with_reducible assumption) | (with_reducible refine Below.drew ?_) | (with_reducible refine Below.drewN ?_) | ((with_reducible refine Below.al ?_ ?_); · first | omega | (simp; done) | (simp; omega)) | ((with_reducible refine Below.sc ?_ ?_); · first | omega | (simp; done) | (simp; omega)) | ((with_reducible refine Below.thru hb ?_ ?_); · first | omega | (simp; done) | (simp; omega))))
      have b4 := B4.p2
      have f0 := B4.free 0
      have f1 := B4.free 1
      have lB4 := B4.lt
      have HO := Lib.hid O
      clear hb O
      generalize rnL (posL M n M.length) S n n = X at *
      generalize rnL (posL M n M.length) T n n = Y at *
      go_wp2
      refine ret_at (v := .agg #[.slice xa X.length xc, .slice ya Y.length yc]) (fun w' => Blk w' (w.heap.size + 1) 27 (#[.slice xa X.length xc, .slice ya Y.length yc])) (by repeat (first | (with_reducible assumption) | ((with_reducible refine Blk.new ?_); · first | omega | (simp; done) | (simp; omega)) | (with_reducible apply Blk.set4) | (with_reducible apply Blk.set3) | (with_reducible apply Blk.set2) | ((with_reducible refine Blk.put ?_ ?_); · first | omega | (simp; omega)) | (with_reducible refine Blk.old ?_) | (with_reducible refine Blk.drew ?_) | (with_reducible refine Blk.drewN ?_) | ((with_reducible refine Blk.below hb ?_ ?_); · first | omega | (simp; done) | (simp; omega)))) (fun w' hB => by have q := hB.p2; simp [results, Try.results75, go_sem, q]) rfl ?_
      exact ⟨_, _, rfl, by rw [HF.out]; exact ((HO.out.put (by omega)).put (by omega)).mono (by omega), (by repeat (first | (with_reducible exact Below.refl _ _) | (with_reducible assumption) | (with_reducible refine Below.drew ?_) | (with_reducible refine Below.drewN ?_) | ((with_reducible refine Below.al ?_ ?_); · first | omega | (simp; done) | (simp; omega)) | ((with_reducible refine Below.sc ?_ ?_); · first | omega | (simp; done) | (simp; omega)) | ((with_reducible refine Below.thru hb ?_ ?_); · first | omega | (simp; done) | (simp; omega))))⟩

end Go.Proofs.Ytamkbgodenkboaa
