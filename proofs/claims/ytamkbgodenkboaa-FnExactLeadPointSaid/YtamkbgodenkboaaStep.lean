/- Points led by letters: both walks. -/
import Derived.Test.YtamkbgodenkboaaTurn
import Derived.Deep.RegionWith
namespace Go.Proofs.Ytamkbgodenkboaa
open Go.RowKit

/-- The point to which a letter leads i. -/
def lp (S T : List Int) (n b i : Nat) : Nat := if b = 83 then fn S i else if b = 84 then fn T i else if b = 116 then bk (fn T) i n else if b = 76 then fn S (bk (fn T) (fn S i) n) else fn S (fn T (fn S i))
theorem turn1_any (s t : Value) (S T : List Int) (n i : Nat) (w : World) (h : SlIn w .i64 s S ∧ SlIn w .i64 t T) (hT : permB T n) (hi : i < n) (hn : n ≤ 72) :
    Calls Try.prog 100 #[.agg #[s, t], .int .i64 (i : Int), .int .i64 (-1)] w fun e w' => e = .returned (.int .i64 (bk (fn T) i n : Nat)) ∧ Below w.heap.size w w' := by
  have hp := (per_spec (fun a h => fn_lt hT h) (perm_inj hT) hi).one
  have := turn_any s t S T n i (-1) w h hT hi hn
  rw [neg_one_mod _ hp, Int.toNat_natCast] at this
  exact this

set_option maxRecDepth 8000 in
set_option maxHeartbeats 1000000 in
theorem step_any (s t : Value) (S T : List Int) (n b i : Nat) (w : World) (h : SlIn w .i64 s S ∧ SlIn w .i64 t T) (hS : permB S n) (hT : permB T n) (hi : i < n) (hn : n ≤ 72) :
    Calls Try.prog 95 #[.agg #[s, t], .int .u8 (b : Int), .int .i64 (i : Int)] w fun e w' => e = .returned (.int .i64 (lp S T n b i : Nat)) ∧ Below w.heap.size w w' := by
  obtain ⟨sa, sc, hs, hA⟩ := perm_open h.1 hS (by omega)
  obtain ⟨ta, tc, ht, hB⟩ := perm_open h.2 hT (by omega)
  subst hs ht
  have HI := Lib.hid h
  have HPT := Lib.hid hT
  have HPS := Lib.hid hS
  have HA := Lib.hid hA
  have HB := Lib.hid hB
  have cs := hA i hi
  have ct := hB i hi
  have ls := block_lt_of_cell cs
  have lt := block_lt_of_cell ct
  have i0 : (0 : Int) ≤ (i : Int) := by omega
  have i1 : (i : Int) < (n : Int) := by omega
  have x1 := fn_lt hS hi
  clear h hS hT hA hB
  by_cases h1 : b = 83
  · subst h1
    have HF := Lib.hid (show lp S T n 83 i = fn S i from rfl)
    clear ct lt
    generalize fn S i = x at *
    go_enter Try.func95, Try.ntmps95
    go_wp2
    go_ret
    exact ⟨by rw [HF.out]; rfl, (by repeat (first | (with_reducible exact Below.refl _ _) | (with_reducible assumption) | (with_reducible refine Below.drew ?_) | (with_reducible refine Below.drewN ?_) | ((with_reducible refine Below.al ?_ ?_); · first | omega | (simp; done) | (simp; omega)) | ((with_reducible refine Below.sc ?_ ?_); · first | omega | (simp; done) | (simp; omega)) | ((with_reducible refine Below.thru hb ?_ ?_); · first | omega | (simp; done) | (simp; omega))))⟩
  by_cases h2 : b = 84
  · subst h2
    have HF := Lib.hid (show lp S T n 84 i = fn T i from rfl)
    clear cs ls x1
    generalize fn T i = x at *
    go_enter Try.func95, Try.ntmps95
    go_wp2
    go_ret
    exact ⟨by rw [HF.out]; rfl, (by repeat (first | (with_reducible exact Below.refl _ _) | (with_reducible assumption) | (with_reducible refine Below.drew ?_) | (with_reducible refine Below.drewN ?_) | ((with_reducible refine Below.al ?_ ?_); · first | omega | (simp; done) | (simp; omega)) | ((with_reducible refine Below.sc ?_ ?_); · first | omega | (simp; done) | (simp; omega)) | ((with_reducible refine Below.thru hb ?_ ?_); · first | omega | (simp; done) | (simp; omega))))⟩
  by_cases h3 : b = 116
  · subst h3
    have HF := Lib.hid (show lp S T n 116 i = bk (fn T) i n from rfl)
    clear cs ls x1 ct lt
    go_enter Try.func95, Try.ntmps95
    go_wp2_with fail
    refine (turn1_any _ _ S T n i _ (SlIn2.below HI.out (by repeat (first | (with_reducible exact Below.refl _ _) | (with_reducible assumption) | (with_reducible refine Below.drew ?_) | (with_reducible refine Below.drewN ?_) | ((with_reducible refine Below.al ?_ ?_); · first | omega | (simp; done) | (simp; omega)) | ((with_reducible refine Below.sc ?_ ?_); · first | omega | (simp; done) | (simp; omega)) | ((with_reducible refine Below.thru hb ?_ ?_); · first | omega | (simp; done) | (simp; omega))))) HPT.out hi hn).mono ?_
    rintro e w1 ⟨rfl, hb⟩
    have kw1 : Below w.heap.size w w1 := (by repeat (first | (with_reducible exact Below.refl _ _) | (with_reducible assumption) | (with_reducible refine Below.drew ?_) | (with_reducible refine Below.drewN ?_) | ((with_reducible refine Below.al ?_ ?_); · first | omega | (simp; done) | (simp; omega)) | ((with_reducible refine Below.sc ?_ ?_); · first | omega | (simp; done) | (simp; omega)) | ((with_reducible refine Below.thru hb ?_ ?_); · first | omega | (simp; done) | (simp; omega))))
    clear hb
    go_wp2
    go_ret
    exact ⟨by rw [HF.out]; rfl, kw1⟩
  by_cases h4 : b = 76
  · subst h4
    have HF := Lib.hid (show lp S T n 76 i = fn S (bk (fn T) (fn S i) n) from rfl)
    clear ct lt
    generalize fn S i = x at *
    have hbk := bk_lt (g := fn T) (fun a h => fn_lt HPT.out h) x1
    obtain ⟨y, hy⟩ : ∃ y, bk (fn T) x n = y := ⟨_, rfl⟩
    rw [hy] at HF hbk
    replace hy := Lib.hid hy
    have cy := HA.out y hbk
    have ly := block_lt_of_cell cy
    generalize fn S y = z at *
    have j0 : (0 : Int) ≤ (x : Int) := by omega
    have j1 : (x : Int) < (n : Int) := by omega
    have j2 : (0 : Int) ≤ (y : Int) := by omega
    have j3 : (y : Int) < (n : Int) := by omega
    go_enter Try.func95, Try.ntmps95
    go_wp2_with fail
    go_region_held3 (fun w' => w'.cell? ⟨w.heap.size, 0, none⟩ = some (.slice (some sa) n sc) ∧ w'.cell? ⟨w.heap.size, 1, none⟩ = some (.slice (some ta) n tc) ∧ w'.cell? (sa.add i) = some (.int .i64 (x : Int)) ∧ w'.cell? (sa.add y) = some (.int .i64 (z : Int))) (first | go_keep | exact ⟨d1, d2, d3, d4⟩) (first
      | (go_at_call 100; refine (turn1_any _ _ S T n x _ (SlIn2.below HI.out (by repeat (first | (with_reducible exact Below.refl _ _) | (with_reducible assumption) | (with_reducible refine Below.drew ?_) | (with_reducible refine Below.drewN ?_) | ((with_reducible refine Below.al ?_ ?_); · first | omega | (simp; done) | (simp; omega)) | ((with_reducible refine Below.sc ?_ ?_); · first | omega | (simp; done) | (simp; omega)) | ((with_reducible refine Below.thru hb ?_ ?_); · first | omega | (simp; done) | (simp; omega))))) HPT.out x1 hn).mono ?_; rw [hy.out]; rintro e w3 ⟨rfl, hb⟩; have B3 : Blk w3 w.heap.size 27 #[.slice (some sa) n sc, .slice (some ta) n tc] := (by repeat (first | (with_reducible assumption) | ((with_reducible refine Blk.new ?_); · first | omega | (simp; done) | (simp; omega)) | (with_reducible apply Blk.set4) | (with_reducible apply Blk.set3) | (with_reducible apply Blk.set2) | ((with_reducible refine Blk.put ?_ ?_); · first | omega | (simp; omega)) | (with_reducible refine Blk.old ?_) | (with_reducible refine Blk.drew ?_) | (with_reducible refine Blk.drewN ?_) | ((with_reducible refine Blk.below hb ?_ ?_); · first | omega | (simp; done) | (simp; omega)))); have kw3 : Below w.heap.size w w3 := (by repeat (first | (with_reducible exact Below.refl _ _) | (with_reducible assumption) | (with_reducible refine Below.drew ?_) | (with_reducible refine Below.drewN ?_) | ((with_reducible refine Below.al ?_ ?_); · first | omega | (simp; done) | (simp; omega)) | ((with_reducible refine Below.sc ?_ ?_); · first | omega | (simp; done) | (simp; omega)) | ((with_reducible refine Below.thru hb ?_ ?_); · first | omega | (simp; done) | (simp; omega)))); have d1 := B3.p2.1; have d2 := B3.p2.2; have d3 : w3.cell? (sa.add i) = some (.int .i64 (x : Int)) := (kw3.cell ls).trans cs; have d4 : w3.cell? (sa.add y) = some (.int .i64 (z : Int)) := (kw3.cell ly).trans cy; clear hb))
    go_wp2
    go_ret
    exact ⟨by rw [HF.out]; rfl, (by repeat (first | (with_reducible exact Below.refl _ _) | (with_reducible assumption) | (with_reducible refine Below.drew ?_) | (with_reducible refine Below.drewN ?_) | ((with_reducible refine Below.al ?_ ?_); · first | omega | (simp; done) | (simp; omega)) | ((with_reducible refine Below.sc ?_ ?_); · first | omega | (simp; done) | (simp; omega)) | ((with_reducible refine Below.thru hb ?_ ?_); · first | omega | (simp; done) | (simp; omega))))⟩
  have HF := Lib.hid (show lp S T n b i = fn S (fn T (fn S i)) by unfold lp; rw [if_neg h1, if_neg h2, if_neg h3, if_neg h4])
  have e1 : ¬ (b : Int) = 83 := by omega
  have e2 : ¬ (b : Int) = 84 := by omega
  have e3 : ¬ (b : Int) = 116 := by omega
  have e4 : ¬ (b : Int) = 76 := by omega
  clear ct lt h1 h2 h3 h4
  generalize fn S i = x at *
  have cy := HB.out x x1
  have y1 := fn_lt HPT.out x1
  generalize fn T x = y at *
  have cz := HA.out y y1
  generalize fn S y = z at *
  have ly := block_lt_of_cell cy
  have lz := block_lt_of_cell cz
  have j0 : (0 : Int) ≤ (x : Int) := by omega
  have j1 : (x : Int) < (n : Int) := by omega
  have j2 : (0 : Int) ≤ (y : Int) := by omega
  have j3 : (y : Int) < (n : Int) := by omega
  go_enter Try.func95, Try.ntmps95
  go_wp2_with fail
  go_quiet (fail)
  go_wp2
  go_ret
  exact ⟨by rw [HF.out]; rfl, (by repeat (first | (with_reducible exact Below.refl _ _) | (with_reducible assumption) | (with_reducible refine Below.drew ?_) | (with_reducible refine Below.drewN ?_) | ((with_reducible refine Below.al ?_ ?_); · first | omega | (simp; done) | (simp; omega)) | ((with_reducible refine Below.sc ?_ ?_); · first | omega | (simp; done) | (simp; omega)) | ((with_reducible refine Below.thru hb ?_ ?_); · first | omega | (simp; done) | (simp; omega))))⟩

set_option maxRecDepth 8000 in
set_option maxHeartbeats 1000000 in
theorem l10Letter_any (s t : Value) (S T : List Int) (n b i : Nat) (w : World) (h : SlIn w .i64 s S ∧ SlIn w .i64 t T) (hS : permB S n) (hT : permB T n) (hi : i < n) (hn : n ≤ 72) :
    Calls Try.prog 93 #[.agg #[s, t], .int .u8 (b : Int), .int .i64 (i : Int)] w fun e w' => e = .returned (.int .i64 (lp S T n b i : Nat)) ∧ Below w.heap.size w w' := by
  obtain ⟨sa, sc, hs, hA⟩ := perm_open h.1 hS (by omega)
  obtain ⟨ta, tc, ht, hB⟩ := perm_open h.2 hT (by omega)
  subst hs ht
  have HI := Lib.hid h
  have HPT := Lib.hid hT
  have HPS := Lib.hid hS
  have HA := Lib.hid hA
  have HB := Lib.hid hB
  have cs := hA i hi
  have ct := hB i hi
  have ls := block_lt_of_cell cs
  have lt := block_lt_of_cell ct
  have i0 : (0 : Int) ≤ (i : Int) := by omega
  have i1 : (i : Int) < (n : Int) := by omega
  have x1 := fn_lt hS hi
  clear h hS hT hA hB
  by_cases h1 : b = 83
  · subst h1
    have HF := Lib.hid (show lp S T n 83 i = fn S i from rfl)
    clear ct lt
    generalize fn S i = x at *
    go_enter Try.func93, Try.ntmps93
    go_wp2
    go_ret
    exact ⟨by rw [HF.out]; rfl, (by repeat (first | (with_reducible exact Below.refl _ _) | (with_reducible assumption) | (with_reducible refine Below.drew ?_) | (with_reducible refine Below.drewN ?_) | ((with_reducible refine Below.al ?_ ?_); · first | omega | (simp; done) | (simp; omega)) | ((with_reducible refine Below.sc ?_ ?_); · first | omega | (simp; done) | (simp; omega)) | ((with_reducible refine Below.thru hb ?_ ?_); · first | omega | (simp; done) | (simp; omega))))⟩
  by_cases h2 : b = 84
  · subst h2
    have HF := Lib.hid (show lp S T n 84 i = fn T i from rfl)
    clear cs ls x1
    generalize fn T i = x at *
    go_enter Try.func93, Try.ntmps93
    go_wp2
    go_ret
    exact ⟨by rw [HF.out]; rfl, (by repeat (first | (with_reducible exact Below.refl _ _) | (with_reducible assumption) | (with_reducible refine Below.drew ?_) | (with_reducible refine Below.drewN ?_) | ((with_reducible refine Below.al ?_ ?_); · first | omega | (simp; done) | (simp; omega)) | ((with_reducible refine Below.sc ?_ ?_); · first | omega | (simp; done) | (simp; omega)) | ((with_reducible refine Below.thru hb ?_ ?_); · first | omega | (simp; done) | (simp; omega))))⟩
  by_cases h3 : b = 116
  · subst h3
    have HF := Lib.hid (show lp S T n 116 i = bk (fn T) i n from rfl)
    clear cs ls x1 ct lt
    go_enter Try.func93, Try.ntmps93
    go_wp2_with fail
    refine (l10Back_any _ _ S T n i _ (SlIn2.below HI.out (by repeat (first | (with_reducible exact Below.refl _ _) | (with_reducible assumption) | (with_reducible refine Below.drew ?_) | (with_reducible refine Below.drewN ?_) | ((with_reducible refine Below.al ?_ ?_); · first | omega | (simp; done) | (simp; omega)) | ((with_reducible refine Below.sc ?_ ?_); · first | omega | (simp; done) | (simp; omega)) | ((with_reducible refine Below.thru hb ?_ ?_); · first | omega | (simp; done) | (simp; omega))))) HPT.out hi hn).mono ?_
    rintro e w1 ⟨rfl, hb⟩
    have kw1 : Below w.heap.size w w1 := (by repeat (first | (with_reducible exact Below.refl _ _) | (with_reducible assumption) | (with_reducible refine Below.drew ?_) | (with_reducible refine Below.drewN ?_) | ((with_reducible refine Below.al ?_ ?_); · first | omega | (simp; done) | (simp; omega)) | ((with_reducible refine Below.sc ?_ ?_); · first | omega | (simp; done) | (simp; omega)) | ((with_reducible refine Below.thru hb ?_ ?_); · first | omega | (simp; done) | (simp; omega))))
    clear hb
    go_wp2
    go_ret
    exact ⟨by rw [HF.out]; rfl, kw1⟩
  by_cases h4 : b = 76
  · subst h4
    have HF := Lib.hid (show lp S T n 76 i = fn S (bk (fn T) (fn S i) n) from rfl)
    clear ct lt
    generalize fn S i = x at *
    have hbk := bk_lt (g := fn T) (fun a h => fn_lt HPT.out h) x1
    obtain ⟨y, hy⟩ : ∃ y, bk (fn T) x n = y := ⟨_, rfl⟩
    rw [hy] at HF hbk
    replace hy := Lib.hid hy
    have cy := HA.out y hbk
    have ly := block_lt_of_cell cy
    generalize fn S y = z at *
    have j0 : (0 : Int) ≤ (x : Int) := by omega
    have j1 : (x : Int) < (n : Int) := by omega
    have j2 : (0 : Int) ≤ (y : Int) := by omega
    have j3 : (y : Int) < (n : Int) := by omega
    go_enter Try.func93, Try.ntmps93
    go_wp2_with fail
    go_region_held3 (fun w' => w'.cell? ⟨w.heap.size, 0, none⟩ = some (.slice (some sa) n sc) ∧ w'.cell? ⟨w.heap.size, 1, none⟩ = some (.slice (some ta) n tc) ∧ w'.cell? (sa.add i) = some (.int .i64 (x : Int)) ∧ w'.cell? (sa.add y) = some (.int .i64 (z : Int))) (first | go_keep | exact ⟨d1, d2, d3, d4⟩) (first
      | (go_at_call 132; refine (l10Back_any _ _ S T n x _ (SlIn2.below HI.out (by repeat (first | (with_reducible exact Below.refl _ _) | (with_reducible assumption) | (with_reducible refine Below.drew ?_) | (with_reducible refine Below.drewN ?_) | ((with_reducible refine Below.al ?_ ?_); · first | omega | (simp; done) | (simp; omega)) | ((with_reducible refine Below.sc ?_ ?_); · first | omega | (simp; done) | (simp; omega)) | ((with_reducible refine Below.thru hb ?_ ?_); · first | omega | (simp; done) | (simp; omega))))) HPT.out x1 hn).mono ?_; rw [hy.out]; rintro e w3 ⟨rfl, hb⟩; have B3 : Blk w3 w.heap.size 27 #[.slice (some sa) n sc, .slice (some ta) n tc] := (by repeat (first | (with_reducible assumption) | ((with_reducible refine Blk.new ?_); · first | omega | (simp; done) | (simp; omega)) | (with_reducible apply Blk.set4) | (with_reducible apply Blk.set3) | (with_reducible apply Blk.set2) | ((with_reducible refine Blk.put ?_ ?_); · first | omega | (simp; omega)) | (with_reducible refine Blk.old ?_) | (with_reducible refine Blk.drew ?_) | (with_reducible refine Blk.drewN ?_) | ((with_reducible refine Blk.below hb ?_ ?_); · first | omega | (simp; done) | (simp; omega)))); have kw3 : Below w.heap.size w w3 := (by repeat (first | (with_reducible exact Below.refl _ _) | (with_reducible assumption) | (with_reducible refine Below.drew ?_) | (with_reducible refine Below.drewN ?_) | ((with_reducible refine Below.al ?_ ?_); · first | omega | (simp; done) | (simp; omega)) | ((with_reducible refine Below.sc ?_ ?_); · first | omega | (simp; done) | (simp; omega)) | ((with_reducible refine Below.thru hb ?_ ?_); · first | omega | (simp; done) | (simp; omega)))); have d1 := B3.p2.1; have d2 := B3.p2.2; have d3 : w3.cell? (sa.add i) = some (.int .i64 (x : Int)) := (kw3.cell ls).trans cs; have d4 : w3.cell? (sa.add y) = some (.int .i64 (z : Int)) := (kw3.cell ly).trans cy; clear hb))
    go_wp2
    go_ret
    exact ⟨by rw [HF.out]; rfl, (by repeat (first | (with_reducible exact Below.refl _ _) | (with_reducible assumption) | (with_reducible refine Below.drew ?_) | (with_reducible refine Below.drewN ?_) | ((with_reducible refine Below.al ?_ ?_); · first | omega | (simp; done) | (simp; omega)) | ((with_reducible refine Below.sc ?_ ?_); · first | omega | (simp; done) | (simp; omega)) | ((with_reducible refine Below.thru hb ?_ ?_); · first | omega | (simp; done) | (simp; omega))))⟩
  have HF := Lib.hid (show lp S T n b i = fn S (fn T (fn S i)) by unfold lp; rw [if_neg h1, if_neg h2, if_neg h3, if_neg h4])
  have e1 : ¬ (b : Int) = 83 := by omega
  have e2 : ¬ (b : Int) = 84 := by omega
  have e3 : ¬ (b : Int) = 116 := by omega
  have e4 : ¬ (b : Int) = 76 := by omega
  clear ct lt h1 h2 h3 h4
  generalize fn S i = x at *
  have cy := HB.out x x1
  have y1 := fn_lt HPT.out x1
  generalize fn T x = y at *
  have cz := HA.out y y1
  generalize fn S y = z at *
  have ly := block_lt_of_cell cy
  have lz := block_lt_of_cell cz
  have j0 : (0 : Int) ≤ (x : Int) := by omega
  have j1 : (x : Int) < (n : Int) := by omega
  have j2 : (0 : Int) ≤ (y : Int) := by omega
  have j3 : (y : Int) < (n : Int) := by omega
  go_enter Try.func93, Try.ntmps93
  go_wp2_with fail
  go_quiet (fail)
  go_wp2
  go_ret
  exact ⟨by rw [HF.out]; rfl, (by repeat (first | (with_reducible exact Below.refl _ _) | (with_reducible assumption) | (with_reducible refine Below.drew ?_) | (with_reducible refine Below.drewN ?_) | ((with_reducible refine Below.al ?_ ?_); · first | omega | (simp; done) | (simp; omega)) | ((with_reducible refine Below.sc ?_ ?_); · first | omega | (simp; done) | (simp; omega)) | ((with_reducible refine Below.thru hb ?_ ?_); · first | omega | (simp; done) | (simp; omega))))⟩

end Go.Proofs.Ytamkbgodenkboaa
