/- Points led by powers of T: the walks. -/
import Derived.Test.YtamkbgodenkboaaCycW
import Derived.Test.YtamkbgodenkboaaAct2
import Derived.Deep.LoopGhost
namespace Go.Proofs.Ytamkbgodenkboaa
open Go.RowKit

theorem rest_eq (a n : Int) (hn : 1 ≤ n) : (a.tmod n + n).tmod n = a % n := by
  by_cases ha : 0 ≤ a
  · rw [Int.tmod_eq_emod_of_nonneg ha]
    have h1 := Int.emod_nonneg a (show n ≠ 0 by omega)
    rw [Int.tmod_eq_emod_of_nonneg (by omega), Int.add_emod_right, Int.emod_emod]
  · obtain ⟨b, rfl⟩ : ∃ b, a = -b := ⟨-a, by omega⟩
    rw [Int.neg_tmod, Int.tmod_eq_emod_of_nonneg (show 0 ≤ b by omega)]
    have h2 := Int.emod_lt_of_pos b (show 0 < n by omega)
    rw [Int.tmod_eq_emod_of_nonneg (by omega), Int.add_emod_right, show -(b % n) = 0 - b % n by omega, show -b = 0 - b by omega, Int.sub_emod, Int.emod_emod, ← Int.sub_emod]
theorem tmod_bd (a n : Int) (hn : 1 ≤ n) : -n < a.tmod n ∧ a.tmod n < n := by
  by_cases ha : 0 ≤ a
  · rw [Int.tmod_eq_emod_of_nonneg ha]
    have h1 := Int.emod_nonneg a (show n ≠ 0 by omega)
    have h2 := Int.emod_lt_of_pos a (show 0 < n by omega)
    omega
  · obtain ⟨b, rfl⟩ : ∃ b, a = -b := ⟨-a, by omega⟩
    rw [Int.neg_tmod, Int.tmod_eq_emod_of_nonneg (show 0 ≤ b by omega)]
    have h1 := Int.emod_nonneg b (show n ≠ 0 by omega)
    have h2 := Int.emod_lt_of_pos b (show 0 < n by omega)
    omega

set_option maxRecDepth 8000 in
set_option maxHeartbeats 400000 in
theorem rest_any (a n : Int) (w : World) (hn : 1 ≤ n) (hn2 : n ≤ 1000000000) :
    Calls Try.prog 137 #[.int .i64 a, .int .i64 n] w fun e w' => e = .returned (.int .i64 (a % n)) ∧ Below w.heap.size w w' := by
  have hb := tmod_bd a n hn
  have HR := Lib.hid (show (a.tmod n + n) % n = a % n by rw [← Int.tmod_eq_emod_of_nonneg (by omega)]; exact rest_eq a n hn)
  go_enter Try.func137, Try.ntmps137
  go_wp2
  go_ret
  exact ⟨ret_int HR.out, (by repeat (first | (with_reducible exact Below.refl _ _) | (with_reducible assumption) | (with_reducible refine Below.drew ?_) | (with_reducible refine Below.drewN ?_) | ((with_reducible refine Below.al ?_ ?_); · first | omega | (simp; done) | (simp; omega)) | ((with_reducible refine Below.sc ?_ ?_); · first | omega | (simp; done) | (simp; omega)) | ((with_reducible refine Below.thru hb ?_ ?_); · first | omega | (simp; done) | (simp; omega))))⟩

/-- The point that g leads to i. -/
def bk (g : Nat → Nat) (i n : Nat) : Nat := it g (per g i n - 1) i
theorem bk_lt {g : Nat → Nat} {n i : Nat} (hg : ∀ a, a < n → g a < n) (hi : i < n) : bk g i n < n := it_lt hg hi _
theorem neg_one_mod (m : Nat) (h : 1 ≤ m) : (-1 : Int) % (m : Int) = ((m - 1 : Nat) : Int) := by
  rw [show (-1 : Int) = ((m - 1 : Nat) : Int) - (m : Int) by omega, Int.sub_emod_right]
  exact Int.emod_eq_of_lt (by omega) (by omega)

set_option maxRecDepth 8000 in
set_option maxHeartbeats 1000000 in
theorem turn_any (s t : Value) (S T : List Int) (n i : Nat) (q : Int) (w : World) (h : SlIn w .i64 s S ∧ SlIn w .i64 t T) (hT : permB T n) (hi : i < n) (hn : n ≤ 72) :
    Calls Try.prog 100 #[.agg #[s, t], .int .i64 (i : Int), .int .i64 q] w fun e w' => e = .returned (.int .i64 (it (fn T) (q % (per (fn T) i n : Int)).toNat i : Nat)) ∧ Below w.heap.size w w' := by
  obtain ⟨sa, sc, hs, -⟩ := h.1.form
  obtain ⟨ta, tc, ht, -⟩ := h.2.form
  subst hs ht
  have HI := Lib.hid h
  have HPT := Lib.hid hT
  have HG := Lib.hid (show ∀ a, a < n → fn T a < n from fun a h => fn_lt hT h)
  have hp1 := (per_spec HG.out (perm_inj hT) hi).one
  have hp2 := per_le HG.out (perm_inj hT) hi
  have HC := Lib.hid (show cyL (fn T) i n = cyK (fn T) i (per (fn T) i n) from rfl)
  clear h hT
  generalize hm : per (fn T) i n = m at *
  replace hm := Lib.hid hm
  go_enter Try.func100, Try.ntmps100
  go_wp2_with fail
  refine (cycleOf_any _ _ S T n i _ (SlIn2.below HI.out (by repeat (first | (with_reducible exact Below.refl _ _) | (with_reducible assumption) | (with_reducible refine Below.drew ?_) | (with_reducible refine Below.drewN ?_) | ((with_reducible refine Below.al ?_ ?_); · first | omega | (simp; done) | (simp; omega)) | ((with_reducible refine Below.sc ?_ ?_); · first | omega | (simp; done) | (simp; omega)) | ((with_reducible refine Below.thru hb ?_ ?_); · first | omega | (simp; done) | (simp; omega))))) HPT.out hi hn).mono ?_
  rw [HC.out]
  rintro e w1 ⟨v, rfl, O, hb⟩
  have kw1 : Below w.heap.size w w1 := (by repeat (first | (with_reducible exact Below.refl _ _) | (with_reducible assumption) | (with_reducible refine Below.drew ?_) | (with_reducible refine Below.drewN ?_) | ((with_reducible refine Below.al ?_ ?_); · first | omega | (simp; done) | (simp; omega)) | ((with_reducible refine Below.sc ?_ ?_); · first | omega | (simp; done) | (simp; omega)) | ((with_reducible refine Below.thru hb ?_ ?_); · first | omega | (simp; done) | (simp; omega))))
  have sw1 := kw1.size
  obtain ⟨ao, c, rfl, hx⟩ := nats_open O.slIn
  rw [cyK_len] at *
  obtain ⟨a, rfl, hx2⟩ := hx (by omega)
  have h1 := Int.emod_nonneg q (show (m : Int) ≠ 0 by omega)
  have h2 := Int.emod_lt_of_pos q (show (0 : Int) < (m : Int) by omega)
  obtain ⟨r, hr⟩ : ∃ r : Nat, q % (m : Int) = (r : Int) := ⟨(q % (m : Int)).toNat, by omega⟩
  have c1 := hx2 r (by omega)
  rw [show (cyK (fn T) i m).getD r 0 = it (fn T) r i by
    rw [List.getD, List.getElem?_eq_getElem (by rw [cyK_len]; omega)]
    simp [cyK]] at c1
  have HR := Lib.hid hr
  have i0 : (0 : Int) ≤ (r : Int) := by omega
  have i1 : (r : Int) < (m : Int) := by omega
  clear hb hx hx2 O hr h1 h2
  go_wp2_with fail
  refine (rest_any q m _ (by omega) (by omega)).mono ?_
  rw [HR.out]
  rintro e w2 ⟨rfl, hb⟩
  have kw2 : Below w.heap.size w w2 := (by repeat (first | (with_reducible exact Below.refl _ _) | (with_reducible assumption) | (with_reducible refine Below.drew ?_) | (with_reducible refine Below.drewN ?_) | ((with_reducible refine Below.al ?_ ?_); · first | omega | (simp; done) | (simp; omega)) | ((with_reducible refine Below.sc ?_ ?_); · first | omega | (simp; done) | (simp; omega)) | ((with_reducible refine Below.thru hb ?_ ?_); · first | omega | (simp; done) | (simp; omega))))
  have l1 := block_lt_of_cell c1
  have c2 : w2.cell? (a.add r) = some (.int .i64 (it (fn T) r i : Nat)) := by
    rw [hb.cell (block_lt_of_cell c1 :)]
    exact c1
  clear hb c1
  go_wp2
  go_ret
  exact ⟨by rw [HR.out]; rfl, kw2⟩

set_option maxRecDepth 8000 in
set_option maxHeartbeats 1000000 in
theorem l10Back_any (s t : Value) (S T : List Int) (n i : Nat) (w : World) (h : SlIn w .i64 s S ∧ SlIn w .i64 t T) (hT : permB T n) (hi : i < n) (hn : n ≤ 72) :
    Calls Try.prog 132 #[.agg #[s, t], .int .i64 (i : Int)] w fun e w' => e = .returned (.int .i64 (bk (fn T) i n : Nat)) ∧ Below w.heap.size w w' := by
  obtain ⟨sa, sc, rfl, -⟩ := h.1.form
  obtain ⟨ta, tc, rfl, hB⟩ := perm_open h.2 hT (by omega)
  have HB := Lib.hid hB
  have HG := Lib.hid (show ∀ a, a < n → fn T a < n from fun a h => fn_lt hT h)
  have HJ := Lib.hid (perm_inj hT)
  have HPER := Lib.hid (per_spec HG.out HJ.out hi)
  clear h hB hT
  go_enter Try.func132, Try.ntmps132
  go_wp2
  obtain ⟨m, hm⟩ : ∃ m, per (fn T) i n = m + 1 := ⟨per (fn T) i n - 1, by have := HPER.out.one; omega⟩
  have HBK := Lib.hid (show bk (fn T) i n = it (fn T) m i by unfold bk; rw [hm]; rfl)
  rw [hm] at HPER
  clear hm
  go_loopg [5] m (fun k at_ wr => ∃ j : Nat, j + k = m ∧ at_ = .int .i64 (it (fn T) j i : Nat) ∧ Blk wr w.heap.size 27 #[.slice sa S.length sc, .slice (some ta) n tc] ∧ Below w.heap.size w wr)
  case atStart => exact ⟨0, by omega, rfl, (by repeat (first | (with_reducible assumption) | ((with_reducible refine Blk.new ?_); · first | omega | (simp; done) | (simp; omega)) | (with_reducible apply Blk.set4) | (with_reducible apply Blk.set3) | (with_reducible apply Blk.set2) | ((with_reducible refine Blk.put ?_ ?_); · first | omega | (simp; omega)) | (with_reducible refine Blk.old ?_) | (with_reducible refine Blk.drew ?_) | (with_reducible refine Blk.drewN ?_) | ((with_reducible refine Blk.below hb ?_ ?_); · first | omega | (simp; done) | (simp; omega)))), (by repeat (first | (with_reducible exact Below.refl _ _) | (with_reducible assumption) | (with_reducible refine Below.drew ?_) | (with_reducible refine Below.drewN ?_) | ((with_reducible refine Below.al ?_ ?_); · first | omega | (simp; done) | (simp; omega)) | ((with_reducible refine Below.sc ?_ ?_); · first | omega | (simp; done) | (simp; omega)) | ((with_reducible refine Below.thru hb ?_ ?_); · first | omega | (simp; done) | (simp; omega))))⟩
  case round =>
    obtain ⟨j, hjk, rfl, B, kwr⟩ := hrel
    have b0 := B.p2
    have swr := kwr.size
    have hxl := it_lt HG.out hi j
    have HN := Lib.hid (show it (fn T) (j + 1) i = fn T (it (fn T) j i) from rfl)
    have HQ := Lib.hid (fun (h : j + 1 < m + 1) => HPER.out.no (j + 1) (by omega) h)
    have HE := Lib.hid (fun (h : j = m) => h ▸ HPER.out.ret)
    have HBJ := Lib.hid (fun (h : j = m) => (h ▸ HBK.out : bk (fn T) i n = it (fn T) j i))
    have cx : wr.cell? (ta.add (it (fn T) j i)) = some (.int .i64 (fn T (it (fn T) j i) : Int)) := by
      have e := HB.out _ hxl
      rw [kwr.cell (block_lt_of_cell e :)]
      exact e
    rw [HN.out] at HQ HE
    generalize it (fn T) j i = x at *
    generalize fn T x = y at *
    have i0 : (0 : Int) ≤ (x : Int) := by omega
    have i1 : (x : Int) < (n : Int) := by omega
    have K := Lib.hid (And.intro B kwr)
    clear B kwr
    cases hy : (((y : Nat) : Int) != ((i : Nat) : Int)) with
    | true =>
      have hk : gk ≠ 0 := fun e => nat_ne hy (HE.out (by omega))
      go_wp2
      go_roundg (gk - 1)
      case rel => exact ⟨j + 1, by omega, by rw [HN.out], K.out.1, K.out.2⟩
      case measure => omega
    | false =>
      have hk : j = m := by
        by_cases h : j = m
        · exact h
        · exact absurd (nat_eq hy) (HQ.out (by omega))
      have HF := Lib.hid (HBJ.out hk)
      clear hk
      go_wp2
      go_ret
      exact ⟨by rw [HF.out]; rfl, K.out.2⟩

end Go.Proofs.Ytamkbgodenkboaa
