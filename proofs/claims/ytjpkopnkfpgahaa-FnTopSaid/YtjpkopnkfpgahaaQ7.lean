import Derived.Test.YtjpkopnkfpgahaaQ6
import Derived.Deep.LoopGhost
import Derived.Deep.RegionWith
import Derived.Lib.Bytealg
import Derived.Laws.Externs
/- Points led by powers of T: the walks. -/
namespace Go.Proofs.Ytjpkopnkfpgahaa
open Go.RowKit

theorem rest_eq (a n : Int) (hn : 1 ≤ n) : (a.tmod n + n).tmod n = a % n := by
  by_cases ha : 0 ≤ a
  · rw [Int.tmod_eq_emod_of_nonneg ha]
    have h1 := Int.emod_nonneg a (show n ≠ 0 by omega)
    rw [Int.tmod_eq_emod_of_nonneg (by omega), Int.add_emod_right, Int.emod_emod]
  · obtain ⟨b, rfl⟩ : ∃ b, a = -b := ⟨-a, by omega⟩
    rw [Int.neg_tmod, Int.tmod_eq_emod_of_nonneg (show 0 ≤ b by omega)]
    have h2 := Int.emod_lt_of_pos b (show 0 < n by omega)
    rw [Int.tmod_eq_emod_of_nonneg (by omega), Int.add_emod_right, show -(b % n) = 0 - b % n by omega, show -b = 0 - b by omega, Int.sub_emod, Int.emod_emod, ← Int.sub_emod]
theorem tmod_bd (a n : Int) (hn : 1 ≤ n) : -n < a.tmod n ∧ a.tmod n < n := by
  by_cases ha : 0 ≤ a
  · rw [Int.tmod_eq_emod_of_nonneg ha]
    have h1 := Int.emod_nonneg a (show n ≠ 0 by omega)
    have h2 := Int.emod_lt_of_pos a (show 0 < n by omega)
    omega
  · obtain ⟨b, rfl⟩ : ∃ b, a = -b := ⟨-a, by omega⟩
    rw [Int.neg_tmod, Int.tmod_eq_emod_of_nonneg (show 0 ≤ b by omega)]
    have h1 := Int.emod_nonneg b (show n ≠ 0 by omega)
    have h2 := Int.emod_lt_of_pos b (show 0 < n by omega)
    omega

set_option maxRecDepth 8000 in
set_option maxHeartbeats 400000 in
theorem rest_any (a n : Int) (w : World) (hn : 1 ≤ n) (hn2 : n ≤ 1000000000) :
    Calls Try.prog 62 #[.int .i64 a, .int .i64 n] w fun e w' => e = .returned (.int .i64 (a % n)) ∧ Below w.heap.size w w' := by
  have hb := tmod_bd a n hn
  have HR := Lib.hid (show (a.tmod n + n) % n = a % n by rw [← Int.tmod_eq_emod_of_nonneg (by omega)]; exact rest_eq a n hn)
  go_enter Try.func62, Try.ntmps62
  go_wp2
  go_ret
  exact ⟨ret_int HR.out, (by repeat (first | (with_reducible exact Below.refl _ _) | (with_reducible assumption) | (with_reducible refine Below.drew ?_) | (with_reducible refine Below.drewN ?_) | ((with_reducible refine Below.al ?_ ?_); · first | omega | (simp; done) | (simp; omega)) | ((with_reducible refine Below.sc ?_ ?_); · first | omega | (simp; done) | (simp; omega)) | ((with_reducible refine Below.thru hb ?_ ?_); · first | omega | (simp; done) | (simp; omega))))⟩

/-- The point that g leads to i. -/
def bk (g : Nat → Nat) (i n : Nat) : Nat := it g (per g i n - 1) i
theorem bk_lt {g : Nat → Nat} {n i : Nat} (hg : ∀ a, a < n → g a < n) (hi : i < n) : bk g i n < n := it_lt hg hi _
theorem neg_one_mod (m : Nat) (h : 1 ≤ m) : (-1 : Int) % (m : Int) = ((m - 1 : Nat) : Int) := by
  rw [show (-1 : Int) = ((m - 1 : Nat) : Int) - (m : Int) by omega, Int.sub_emod_right]
  exact Int.emod_eq_of_lt (by omega) (by omega)

set_option maxRecDepth 8000 in
set_option maxHeartbeats 1000000 in
theorem turn_any (s t : Value) (S T : List Int) (n i : Nat) (q : Int) (w : World) (h : SlIn w .i64 s S ∧ SlIn w .i64 t T) (hT : permB T n) (hi : i < n) (hn : n ≤ 72) :
    Calls Try.prog 40 #[.agg #[s, t], .int .i64 (i : Int), .int .i64 q] w fun e w' => e = .returned (.int .i64 (it (fn T) (q % (per (fn T) i n : Int)).toNat i : Nat)) ∧ Below w.heap.size w w' := by
  obtain ⟨sa, sc, hs, -⟩ := h.1.form
  obtain ⟨ta, tc, ht, -⟩ := h.2.form
  subst hs ht
  have HI := Lib.hid h
  have HPT := Lib.hid hT
  have HG := Lib.hid (show ∀ a, a < n → fn T a < n from fun a h => fn_lt hT h)
  have hp1 := (per_spec HG.out (perm_inj hT) hi).one
  have hp2 := per_le HG.out (perm_inj hT) hi
  have HC := Lib.hid (show cyL (fn T) i n = cyK (fn T) i (per (fn T) i n) from rfl)
  clear h hT
  generalize hm : per (fn T) i n = m at *
  replace hm := Lib.hid hm
  go_enter Try.func40, Try.ntmps40
  go_wp2_with fail
  refine (cycleOf_any _ _ S T n i _ (SlIn2.below HI.out (by repeat (first | (with_reducible exact Below.refl _ _) | (with_reducible assumption) | (with_reducible refine Below.drew ?_) | (with_reducible refine Below.drewN ?_) | ((with_reducible refine Below.al ?_ ?_); · first | omega | (simp; done) | (simp; omega)) | ((with_reducible refine Below.sc ?_ ?_); · first | omega | (simp; done) | (simp; omega)) | ((with_reducible refine Below.thru hb ?_ ?_); · first | omega | (simp; done) | (simp; omega))))) HPT.out hi hn).mono ?_
  rw [HC.out]
  rintro e w1 ⟨v, rfl, O, hb⟩
  have kw1 : Below w.heap.size w w1 := (by repeat (first | (with_reducible exact Below.refl _ _) | (with_reducible assumption) | (with_reducible refine Below.drew ?_) | (with_reducible refine Below.drewN ?_) | ((with_reducible refine Below.al ?_ ?_); · first | omega | (simp; done) | (simp; omega)) | ((with_reducible refine Below.sc ?_ ?_); · first | omega | (simp; done) | (simp; omega)) | ((with_reducible refine Below.thru hb ?_ ?_); · first | omega | (simp; done) | (simp; omega))))
  have sw1 := kw1.size
  obtain ⟨ao, c, rfl, hx⟩ := nats_open O.slIn
  rw [cyK_len] at *
  obtain ⟨a, rfl, hx2⟩ := hx (by omega)
  have h1 := Int.emod_nonneg q (show (m : Int) ≠ 0 by omega)
  have h2 := Int.emod_lt_of_pos q (show (0 : Int) < (m : Int) by omega)
  obtain ⟨r, hr⟩ : ∃ r : Nat, q % (m : Int) = (r : Int) := ⟨(q % (m : Int)).toNat, by omega⟩
  have c1 := hx2 r (by omega)
  rw [show (cyK (fn T) i m).getD r 0 = it (fn T) r i by
    rw [List.getD, List.getElem?_eq_getElem (by rw [cyK_len]; omega)]
    simp [cyK]] at c1
  have HR := Lib.hid hr
  have i0 : (0 : Int) ≤ (r : Int) := by omega
  have i1 : (r : Int) < (m : Int) := by omega
  clear hb hx hx2 O hr h1 h2
  go_wp2_with fail
  refine (rest_any q m _ (by omega) (by omega)).mono ?_
  rw [HR.out]
  rintro e w2 ⟨rfl, hb⟩
  have kw2 : Below w.heap.size w w2 := (by repeat (first | (with_reducible exact Below.refl _ _) | (with_reducible assumption) | (with_reducible refine Below.drew ?_) | (with_reducible refine Below.drewN ?_) | ((with_reducible refine Below.al ?_ ?_); · first | omega | (simp; done) | (simp; omega)) | ((with_reducible refine Below.sc ?_ ?_); · first | omega | (simp; done) | (simp; omega)) | ((with_reducible refine Below.thru hb ?_ ?_); · first | omega | (simp; done) | (simp; omega))))
  have l1 := block_lt_of_cell c1
  have c2 : w2.cell? (a.add r) = some (.int .i64 (it (fn T) r i : Nat)) := by
    rw [hb.cell (block_lt_of_cell c1 :)]
    exact c1
  clear hb c1
  go_wp2
  go_ret
  exact ⟨by rw [HR.out]; rfl, kw2⟩

end Go.Proofs.Ytjpkopnkfpgahaa

/- Points led by letters: both walks. -/
namespace Go.Proofs.Ytjpkopnkfpgahaa
open Go.RowKit

/-- The point to which a letter leads i. -/
def lp (S T : List Int) (n b i : Nat) : Nat := if b = 83 then fn S i else if b = 84 then fn T i else if b = 116 then bk (fn T) i n else if b = 76 then fn S (bk (fn T) (fn S i) n) else fn S (fn T (fn S i))
theorem turn1_any (s t : Value) (S T : List Int) (n i : Nat) (w : World) (h : SlIn w .i64 s S ∧ SlIn w .i64 t T) (hT : permB T n) (hi : i < n) (hn : n ≤ 72) :
    Calls Try.prog 40 #[.agg #[s, t], .int .i64 (i : Int), .int .i64 (-1)] w fun e w' => e = .returned (.int .i64 (bk (fn T) i n : Nat)) ∧ Below w.heap.size w w' := by
  have hp := (per_spec (fun a h => fn_lt hT h) (perm_inj hT) hi).one
  have := turn_any s t S T n i (-1) w h hT hi hn
  rw [neg_one_mod _ hp, Int.toNat_natCast] at this
  exact this

set_option maxRecDepth 8000 in
set_option maxHeartbeats 1000000 in
theorem step_any (s t : Value) (S T : List Int) (n b i : Nat) (w : World) (h : SlIn w .i64 s S ∧ SlIn w .i64 t T) (hS : permB S n) (hT : permB T n) (hi : i < n) (hn : n ≤ 72) :
    Calls Try.prog 39 #[.agg #[s, t], .int .u8 (b : Int), .int .i64 (i : Int)] w fun e w' => e = .returned (.int .i64 (lp S T n b i : Nat)) ∧ Below w.heap.size w w' := by
  obtain ⟨sa, sc, hs, hA⟩ := perm_open h.1 hS (by omega)
  obtain ⟨ta, tc, ht, hB⟩ := perm_open h.2 hT (by omega)
  subst hs ht
  have HI := Lib.hid h
  have HPT := Lib.hid hT
  have HPS := Lib.hid hS
  have HA := Lib.hid hA
  have HB := Lib.hid hB
  have cs := hA i hi
  have ct := hB i hi
  have ls := block_lt_of_cell cs
  have lt := block_lt_of_cell ct
  have i0 : (0 : Int) ≤ (i : Int) := by omega
  have i1 : (i : Int) < (n : Int) := by omega
  have x1 := fn_lt hS hi
  clear h hS hT hA hB
  by_cases h1 : b = 83
  · subst h1
    have HF := Lib.hid (show lp S T n 83 i = fn S i from rfl)
    clear ct lt
    generalize fn S i = x at *
    go_enter Try.func39, Try.ntmps39
    go_wp2
    go_ret
    exact ⟨by rw [HF.out]; rfl, (by repeat (first | (with_reducible exact Below.refl _ _) | (with_reducible assumption) | (with_reducible refine Below.drew ?_) | (with_reducible refine Below.drewN ?_) | ((with_reducible refine Below.al ?_ ?_); · first | omega | (simp; done) | (simp; omega)) | ((with_reducible refine Below.sc ?_ ?_); · first | omega | (simp; done) | (simp; omega)) | ((with_reducible refine Below.thru hb ?_ ?_); · first | omega | (simp; done) | (simp; omega))))⟩
  by_cases h2 : b = 84
  · subst h2
    have HF := Lib.hid (show lp S T n 84 i = fn T i from rfl)
    clear cs ls x1
    generalize fn T i = x at *
    go_enter Try.func39, Try.ntmps39
    go_wp2
    go_ret
    exact ⟨by rw [HF.out]; rfl, (by repeat (first | (with_reducible exact Below.refl _ _) | (with_reducible assumption) | (with_reducible refine Below.drew ?_) | (with_reducible refine Below.drewN ?_) | ((with_reducible refine Below.al ?_ ?_); · first | omega | (simp; done) | (simp; omega)) | ((with_reducible refine Below.sc ?_ ?_); · first | omega | (simp; done) | (simp; omega)) | ((with_reducible refine Below.thru hb ?_ ?_); · first | omega | (simp; done) | (simp; omega))))⟩
  by_cases h3 : b = 116
  · subst h3
    have HF := Lib.hid (show lp S T n 116 i = bk (fn T) i n from rfl)
    clear cs ls x1 ct lt
    go_enter Try.func39, Try.ntmps39
    go_wp2_with fail
    refine (turn1_any _ _ S T n i _ (SlIn2.below HI.out (by repeat (first | (with_reducible exact Below.refl _ _) | (with_reducible assumption) | (with_reducible refine Below.drew ?_) | (with_reducible refine Below.drewN ?_) | ((with_reducible refine Below.al ?_ ?_); · first | omega | (simp; done) | (simp; omega)) | ((with_reducible refine Below.sc ?_ ?_); · first | omega | (simp; done) | (simp; omega)) | ((with_reducible refine Below.thru hb ?_ ?_); · first | omega | (simp; done) | (simp; omega))))) HPT.out hi hn).mono ?_
    rintro e w1 ⟨rfl, hb⟩
    have kw1 : Below w.heap.size w w1 := (by repeat (first | (with_reducible exact Below.refl _ _) | (with_reducible assumption) | (with_reducible refine Below.drew ?_) | (with_reducible refine Below.drewN ?_) | ((with_reducible refine Below.al ?_ ?_); · first | omega | (simp; done) | (simp; omega)) | ((with_reducible refine Below.sc ?_ ?_); · first | omega | (simp; done) | (simp; omega)) | ((with_reducible refine Below.thru hb ?_ ?_); · first | omega | (simp; done) | (simp; omega))))
    clear hb
    go_wp2
    go_ret
    exact ⟨by rw [HF.out]; rfl, kw1⟩
  by_cases h4 : b = 76
  · subst h4
    have HF := Lib.hid (show lp S T n 76 i = fn S (bk (fn T) (fn S i) n) from rfl)
    clear ct lt
    generalize fn S i = x at *
    have hbk := bk_lt (g := fn T) (fun a h => fn_lt HPT.out h) x1
    obtain ⟨y, hy⟩ : ∃ y, bk (fn T) x n = y := ⟨_, rfl⟩
    rw [hy] at HF hbk
    replace hy := Lib.hid hy
    have cy := HA.out y hbk
    have ly := block_lt_of_cell cy
    generalize fn S y = z at *
    have j0 : (0 : Int) ≤ (x : Int) := by omega
    have j1 : (x : Int) < (n : Int) := by omega
    have j2 : (0 : Int) ≤ (y : Int) := by omega
    have j3 : (y : Int) < (n : Int) := by omega
    go_enter Try.func39, Try.ntmps39
    go_wp2_with fail
    go_region_held3 (fun w' => w'.cell? ⟨w.heap.size, 0, none⟩ = some (.slice (some sa) n sc) ∧ w'.cell? ⟨w.heap.size, 1, none⟩ = some (.slice (some ta) n tc) ∧ w'.cell? (sa.add i) = some (.int .i64 (x : Int)) ∧ w'.cell? (sa.add y) = some (.int .i64 (z : Int))) (first | go_keep | exact ⟨d1, d2, d3, d4⟩) (first
      | (go_at_call 40; refine (turn1_any _ _ S T n x _ (SlIn2.below HI.out (by repeat (first | (with_reducible exact Below.refl _ _) | (with_reducible assumption) | (with_reducible refine Below.drew ?_) | (with_reducible refine Below.drewN ?_) | ((with_reducible refine Below.al ?_ ?_); · first | omega | (simp; done) | (simp; omega)) | ((with_reducible refine Below.sc ?_ ?_); · first | omega | (simp; done) | (simp; omega)) | ((with_reducible refine Below.thru hb ?_ ?_); · first | omega | (simp; done) | (simp; omega))))) HPT.out x1 hn).mono ?_; rw [hy.out]; rintro e w3 ⟨rfl, hb⟩; have B3 : Blk w3 w.heap.size 44 #[.slice (some sa) n sc, .slice (some ta) n tc] := (by repeat (first | (with_reducible assumption) | ((with_reducible refine Blk.new ?_); · first | omega | (simp; done) | (simp; omega)) | (with_reducible apply Blk.set4) | (with_reducible apply Blk.set3) | (with_reducible apply Blk.set2) | ((with_reducible refine Blk.put ?_ ?_); · first | omega | (simp; omega)) | (with_reducible refine Blk.old ?_) | (with_reducible refine Blk.drew ?_) | (with_reducible refine Blk.drewN ?_) | ((with_reducible refine Blk.below hb ?_ ?_); · first | omega | (simp; done) | (simp; omega)))); have kw3 : Below w.heap.size w w3 := (by repeat (first | (with_reducible exact Below.refl _ _) | (with_reducible assumption) | (with_reducible refine Below.drew ?_) | (with_reducible refine Below.drewN ?_) | ((with_reducible refine Below.al ?_ ?_); · first | omega | (simp; done) | (simp; omega)) | ((with_reducible refine Below.sc ?_ ?_); · first | omega | (simp; done) | (simp; omega)) | ((with_reducible refine Below.thru hb ?_ ?_); · first | omega | (simp; done) | (simp; omega)))); have d1 := B3.p2.1; have d2 := B3.p2.2; have d3 : w3.cell? (sa.add i) = some (.int .i64 (x : Int)) := (kw3.cell ls).trans cs; have d4 : w3.cell? (sa.add y) = some (.int .i64 (z : Int)) := (kw3.cell ly).trans cy; clear hb))
    go_wp2
    go_ret
    exact ⟨by rw [HF.out]; rfl, (by repeat (first | (with_reducible exact Below.refl _ _) | (with_reducible assumption) | (with_reducible refine Below.drew ?_) | (with_reducible refine Below.drewN ?_) | ((with_reducible refine Below.al ?_ ?_); · first | omega | (simp; done) | (simp; omega)) | ((with_reducible refine Below.sc ?_ ?_); · first | omega | (simp; done) | (simp; omega)) | ((with_reducible refine Below.thru hb ?_ ?_); · first | omega | (simp; done) | (simp; omega))))⟩
  have HF := Lib.hid (show lp S T n b i = fn S (fn T (fn S i)) by unfold lp; rw [if_neg h1, if_neg h2, if_neg h3, if_neg h4])
  have e1 : ¬ (b : Int) = 83 := by omega
  have e2 : ¬ (b : Int) = 84 := by omega
  have e3 : ¬ (b : Int) = 116 := by omega
  have e4 : ¬ (b : Int) = 76 := by omega
  clear ct lt h1 h2 h3 h4
  generalize fn S i = x at *
  have cy := HB.out x x1
  have y1 := fn_lt HPT.out x1
  generalize fn T x = y at *
  have cz := HA.out y y1
  generalize fn S y = z at *
  have ly := block_lt_of_cell cy
  have lz := block_lt_of_cell cz
  have j0 : (0 : Int) ≤ (x : Int) := by omega
  have j1 : (x : Int) < (n : Int) := by omega
  have j2 : (0 : Int) ≤ (y : Int) := by omega
  have j3 : (y : Int) < (n : Int) := by omega
  go_enter Try.func39, Try.ntmps39
  go_wp2_with fail
  go_quiet (fail)
  go_wp2
  go_ret
  exact ⟨by rw [HF.out]; rfl, (by repeat (first | (with_reducible exact Below.refl _ _) | (with_reducible assumption) | (with_reducible refine Below.drew ?_) | (with_reducible refine Below.drewN ?_) | ((with_reducible refine Below.al ?_ ?_); · first | omega | (simp; done) | (simp; omega)) | ((with_reducible refine Below.sc ?_ ?_); · first | omega | (simp; done) | (simp; omega)) | ((with_reducible refine Below.thru hb ?_ ?_); · first | omega | (simp; done) | (simp; omega))))⟩

end Go.Proofs.Ytjpkopnkfpgahaa

/- Words of letters: both tests. -/
namespace Go.Proofs.Ytjpkopnkfpgahaa
open Go.RowKit

set_option maxRecDepth 100000 in
set_option maxHeartbeats 1000000 in
theorem sliteIndexByte_any (s : ByteArray) (c : Int) (w : World) :
    Calls Try.prog 66 #[.string s, .int .u8 c] w fun e w' => e = .returned (.int .i64 (Lib.indexByte s.data.toList c.toNat.toUInt8)) ∧ w = w' := by
  go_enter Try.func66, Try.ntmps66
  go_wp2
  rw [run_callFunc_extern Try.func74 (by kernel_rfl) (by kernel_rfl) (by kernel_rfl) (e := Extern.BytealgIndexByte.indexByte) (by kernel_rfl), Lib.run_indexByteString]
  simp only [Result.andThen]
  rw [Oper.upon_value]
  go_wp2
  go_ret
  exact ⟨rfl, rfl⟩
set_option maxRecDepth 100000 in
set_option maxHeartbeats 1000000 in
theorem stringsIndexByte_any (s : ByteArray) (c : Int) (w : World) :
    Calls Try.prog 41 #[.string s, .int .u8 c] w fun e w' => e = .returned (.int .i64 (Lib.indexByte s.data.toList c.toNat.toUInt8)) ∧ w = w' := by
  go_enter Try.func41, Try.ntmps41
  go_wp2_with (go_at_call 66; refine (sliteIndexByte_any _ _ _).mono ?_; rintro e w' ⟨rfl, rfl⟩)
  go_ret
  exact ⟨rfl, rfl⟩

/-- Is it one of the letters S, T, t, L, l? -/
def letB (c : UInt8) : Bool := c == 83 || c == 84 || c == 116 || c == 76 || c == 108
theorem letB_index (c : UInt8) : (decide (Lib.indexByte [83, 84, 116, 76, 108] c < 0)) = !letB c := by
  by_cases h1 : c = 83
  · subst h1; decide
  by_cases h2 : c = 84
  · subst h2; decide
  by_cases h3 : c = 116
  · subst h3; decide
  by_cases h4 : c = 76
  · subst h4; decide
  by_cases h5 : c = 108
  · subst h5; decide
  have e1 : ((83 : UInt8) == c) = false := beq_eq_false_iff_ne.2 (fun e => h1 e.symm)
  have e2 : ((84 : UInt8) == c) = false := beq_eq_false_iff_ne.2 (fun e => h2 e.symm)
  have e3 : ((116 : UInt8) == c) = false := beq_eq_false_iff_ne.2 (fun e => h3 e.symm)
  have e4 : ((76 : UInt8) == c) = false := beq_eq_false_iff_ne.2 (fun e => h4 e.symm)
  have e5 : ((108 : UInt8) == c) = false := beq_eq_false_iff_ne.2 (fun e => h5 e.symm)
  have f1 : (c == 83) = false := beq_eq_false_iff_ne.2 h1
  have f2 : (c == 84) = false := beq_eq_false_iff_ne.2 h2
  have f3 : (c == 116) = false := beq_eq_false_iff_ne.2 h3
  have f4 : (c == 76) = false := beq_eq_false_iff_ne.2 h4
  have f5 : (c == 108) = false := beq_eq_false_iff_ne.2 h5
  simp only [Lib.indexByte, letB, e1, e2, e3, e4, e5, f1, f2, f3, f4, f5]
  rfl
theorem indexByte5_any (c : UInt8) (w : World) :
    Calls Try.prog 41 #[.string ⟨#[83, 84, 116, 76, 108]⟩, .int .u8 (c.toNat : Int)] w fun e w' => e = .returned (.int .i64 (Lib.indexByte [83, 84, 116, 76, 108] c)) ∧ w = w' := by
  have := stringsIndexByte_any ⟨#[83, 84, 116, 76, 108]⟩ (c.toNat : Int) w
  rw [Int.toNat_natCast, show c.toNat.toUInt8 = c by simp] at this
  exact this
/-- Is it a word of these letters? -/
def wordTo (s : ByteArray) (k : Nat) : Prop := ∀ j (h : j < s.size), j < k → letB s[j] = true
def wordB (s : ByteArray) : Bool := decide (s.size ≤ 200) && (List.range s.size).all fun j => letB s[j]!
theorem wordB_no {s : ByteArray} {j : Nat} (h : j < s.size) (hn : letB s[j] = false) : wordB s = false := by
  unfold wordB
  rw [Bool.and_eq_false_iff]
  right
  rw [List.all_eq_false]
  exact ⟨j, List.mem_range.2 h, by rw [getElem!_pos s j h, hn]; decide⟩
theorem wordB_all {s : ByteArray} (h : wordTo s s.size) : wordB s = decide (s.size ≤ 200) := by
  unfold wordB
  rw [List.all_eq_true.2, Bool.and_true]
  intro j hj
  have hj := List.mem_range.1 hj
  rw [getElem!_pos s j hj]
  exact h j hj hj

set_option maxRecDepth 100000 in
set_option maxHeartbeats 1000000 in
theorem isWord_any (s : ByteArray) (w : World) (hs : s.size ≤ 140737488351232) :
    Calls Try.prog 17 #[.string s, .string ⟨#[83, 84, 116, 76, 108]⟩] w fun e w' => e = .returned (.bool (wordB s)) ∧ Below w.heap.size w w' := by
  go_enter Try.func17, Try.ntmps17
  go_wp2
  go_loopw [8] (fun i wr => ∃ k : Nat, k ≤ s.size ∧ i = .int .i64 k ∧ Hid (wordTo s k) ∧ Below w.heap.size w wr) (fun i _ => s.size - (intOf i).toNat)
  case atStart => exact ⟨0, Nat.zero_le _, rfl, Lib.hid (fun j h hj => absurd hj (by omega)), (by repeat (first | (with_reducible exact Below.refl _ _) | (with_reducible assumption) | (with_reducible refine Below.drew ?_) | (with_reducible refine Below.drewN ?_) | ((with_reducible refine Below.al ?_ ?_); · first | omega | (simp; done) | (simp; omega)) | ((with_reducible refine Below.sc ?_ ?_); · first | omega | (simp; done) | (simp; omega)) | ((with_reducible refine Below.thru hb ?_ ?_); · first | omega | (simp; done) | (simp; omega))))⟩
  case round =>
    obtain ⟨k, hk, rfl, hp, kwr⟩ := hrel
    have swr := kwr.size
    by_cases hlt : k < s.size
    · have i0 : (0 : Int) ≤ (k : Int) := by omega
      have i1 : (k : Int) < (s.size : Int) := by omega
      have HN := Lib.hid (fun h => wordB_no (s := s) hlt h)
      have HS := Lib.hid (fun (h : letB s[k] = true) => (show wordTo s (k + 1) from fun j h1 h2 => if e : j < k then hp.out j h1 e else by
        obtain rfl : j = k := by omega
        exact h))
      have HI := letB_index s[k]
      go_wp2_with fail
      refine (indexByte5_any s[k] _).mono ?_
      generalize Lib.indexByte [83, 84, 116, 76, 108] s[k] = r at *
      rintro e w1 ⟨rfl, rfl⟩
      cases hl : letB s[k] with
      | false =>
        rw [hl] at HI
        have HF := Lib.hid (HN.out hl)
        have hr : r < 0 := of_decide_eq_true HI
        clear HI hl
        go_wp2
        go_ret
        exact ⟨ret_bool HF.out.symm, kwr⟩
      | true =>
        rw [hl] at HI
        have HF := Lib.hid (HS.out hl)
        have hr : ¬ r < 0 := of_decide_eq_false HI
        clear HI hl
        go_wp2
        go_roundw
        case rel => exact ⟨k + 1, by omega, by go_num, HF, kwr⟩
        case measure => simp [intOf]; omega
    · obtain rfl : k = s.size := by omega
      have HF := Lib.hid (wordB_all hp.out)
      go_wp2
      go_ret
      exact ⟨ret_bool (by rw [HF.out]; first | rfl | (rw [Bool.eq_iff_iff]; simp; omega)), kwr⟩

end Go.Proofs.Ytjpkopnkfpgahaa
