/- Slices of triples: the laws' functions that compare, mark and hold them. -/
import Derived.Test.YtbmkpcenjjdflaaTr
import Derived.Test.YtbmkpcenjjdflaaRow
namespace Go.Proofs.Ytbmkpcenjjdflaa
open Go.RowKit

def encT : Enc T3 := ⟨3, fun t => [.int .i64 t.x, .int .i64 t.y, .int .i64 t.z], fun _ => rfl, by decide, fun x u hu => by simp at hu; rcases hu with rfl | rfl | rfl <;> rfl⟩
abbrev OwnT (w : World) (B : Nat) (v : Value) (xs : List T3) : Prop := OwnK encT 36 w B v xs
theorem OwnT.cells {w : World} {B g j : Nat} {v : Value} {xs : List T3} (h : OwnT w B v xs) (hg : v.ownBlock = some g) (hj : j < xs.length) :
    w.cell? ⟨g, j * 3, none⟩ = some (.int .i64 xs[j].x) ∧ w.cell? ⟨g, j * 3 + 1, none⟩ = some (.int .i64 xs[j].y) ∧ w.cell? ⟨g, j * 3 + 2, none⟩ = some (.int .i64 xs[j].z) :=
  ⟨h.at (j := j) (i := 0) hg (List.getElem?_eq_getElem hj) rfl, h.at (j := j) (i := 1) hg (List.getElem?_eq_getElem hj) rfl, h.at (j := j) (i := 2) hg (List.getElem?_eq_getElem hj) rfl⟩

set_option maxHeartbeats 1000000 in
theorem eqTripleS_same (v u : Value) (xs : List T3) (B B2 : Nat) (w : World) (hv : OwnT w B v xs) (hu : OwnT w B2 u xs) (hl : xs.length ≤ 1000000000000000000) :
    Calls Try.prog 8 #[v, u] w fun e w' => e = .returned (.bool true) ∧ Below w.heap.size w w' := by
  by_cases h0 : xs.length = 0
  · obtain ⟨ao, c, rfl⟩ := hv.len
    obtain ⟨bo, c', rfl⟩ := hu.len
    obtain rfl : xs = [] := List.eq_nil_of_length_eq_zero h0
    clear h0 hv hu
    go_enter Try.func8, Try.ntmps8
    go_wp2
    refine wp_loop_rounds 1 ?_
    rw [rounds_succ]
    go_wp2
    go_ret
    exact ⟨rfl, (by repeat (first | (with_reducible exact Below.refl _ _) | (with_reducible assumption) | (with_reducible refine Below.drew ?_) | (with_reducible refine Below.drewN ?_) | ((with_reducible refine Below.al ?_ ?_); · first | omega | (simp; done) | (simp; omega)) | ((with_reducible refine Below.sc ?_ ?_); · first | omega | (simp; done) | (simp; omega)) | ((with_reducible refine Below.thru hb ?_ ?_); · first | omega | (simp; done) | (simp; omega))))⟩
  · rcases hv.form with ⟨rfl, e⟩ | ⟨g, c, rfl, hgB, hg, _, _, _⟩
    · exact absurd (by rw [e]; rfl) h0
    rcases hu.form with ⟨rfl, e⟩ | ⟨g', c', rfl, hgB', hg', _, _, _⟩
    · exact absurd (by rw [e]; rfl) h0
    have HV := Lib.hid hv
    have HU := Lib.hid hu
    clear hv hu
    go_enter Try.func8, Try.ntmps8
    go_wp2
    go_loopw [5] (fun i wr => ∃ k : Nat, k ≤ xs.length ∧ i = .int .i64 k ∧ Below w.heap.size w wr) (fun i _ => xs.length - (intOf i).toNat)
    case atStart => exact ⟨0, Nat.zero_le _, rfl, (by repeat (first | (with_reducible exact Below.refl _ _) | (with_reducible assumption) | (with_reducible refine Below.drew ?_) | (with_reducible refine Below.drewN ?_) | ((with_reducible refine Below.al ?_ ?_); · first | omega | (simp; done) | (simp; omega)) | ((with_reducible refine Below.sc ?_ ?_); · first | omega | (simp; done) | (simp; omega)) | ((with_reducible refine Below.thru hb ?_ ?_); · first | omega | (simp; done) | (simp; omega))))⟩
    case round =>
      obtain ⟨k, hk, rfl, kwr⟩ := hrel
      by_cases hlt : k < xs.length
      · have q0 := fun x : Later wr => OwnT.cells (HV.out.below (kwr.trans (x.h.mono kwr.size))) rfl hlt
        have q1 := fun x : Later wr => OwnT.cells (HU.out.below (kwr.trans (x.h.mono kwr.size))) rfl hlt
        have q00 := fun x => (q0 x).1
        have q01 := fun x => (q0 x).2.1
        have q02 := fun x => (q0 x).2.2
        have q10 := fun x => (q1 x).1
        have q11 := fun x => (q1 x).2.1
        have q12 := fun x => (q1 x).2.2
        have i0 : (0 : Int) ≤ (k : Int) := by omega
        have i1 : (k : Int) < (xs.length : Int) := by omega
        have swr := kwr.size
        clear q0 q1
        go_wp2_with fail
        have E1 : decide (xs[k] = xs[k]) = true := decide_eq_true rfl
        have E2 : ∀ w : World, _ := fun w => eqTriple_any xs[k] xs[k] w
        rw [E1] at E2
        refine wp_region_calm (by kernel_rfl) (by kernel_rfl) ?_
        repeat (go_big_quiet_step (first | (go_at_call 33; with_reducible exact Calls.calm (E2 _))))
        refine wpQuiet_nil ?_
        rintro w2 ⟨⟨_, hb⟩, rfl⟩
        have kw2 : Below w.heap.size w w2 := (by repeat (first | (with_reducible exact Below.refl _ _) | (with_reducible assumption) | (with_reducible refine Below.drew ?_) | (with_reducible refine Below.drewN ?_) | ((with_reducible refine Below.al ?_ ?_); · first | omega | (simp; done) | (simp; omega)) | ((with_reducible refine Below.sc ?_ ?_); · first | omega | (simp; done) | (simp; omega)) | ((with_reducible refine Below.thru hb ?_ ?_); · first | omega | (simp; done) | (simp; omega))))
        have sw2 := kw2.size
        clear hb
        go_wp2
        go_roundw
        case rel => exact ⟨k + 1, by omega, by go_num, kw2⟩
        case measure => simp [intOf]; omega
      · go_wp2
        go_ret
        exact ⟨rfl, kwr⟩

/-- n triples of the numbers from k on. -/
def runT (k : Int) (n : Nat) : List T3 := (List.range n).map fun (i : Nat) => ⟨k + (i * 3 : Nat), k + (i * 3 + 1 : Nat), k + (i * 3 + 2 : Nat)⟩
theorem runT_length (k : Int) (n : Nat) : (runT k n).length = n := by simp [runT]
theorem runT_get (k : Int) (n j : Nat) (h : j < (runT k n).length) : (runT k n)[j] = ⟨k + (j * 3 : Nat), k + (j * 3 + 1 : Nat), k + (j * 3 + 2 : Nat)⟩ := by simp [runT]
theorem runT_flat (k : Int) (n : Nat) : (runT k n).flatMap encT.enc = (runOf k (n * 3)).map (Value.int .i64) := by
  induction n with
  | zero => rfl
  | succ n ih =>
    rw [show (n + 1) * 3 = n * 3 + 1 + 1 + 1 by omega]
    unfold runT runOf at *
    rw [List.range_succ, List.map_append, List.flatMap_append, ih, List.range_succ, List.range_succ, List.range_succ]
    simp [encT]

theorem fill3 {w : World} {g j : Nat} {E : TypeId} {cur : Array Value} {k : Int} (h : Blk w g E (fillTo cur k (j * 3))) :
    Blk (((w.setCell ⟨g, j * 3, none⟩ (.int .i64 (k + (j : Int) * 3))).setCell ⟨g, j * 3 + 1, none⟩ (.int .i64 (k + (j : Int) * 3 + 1))).setCell ⟨g, j * 3 + 2, none⟩ (.int .i64 (k + (j : Int) * 3 + 1 + 1))) g E (fillTo cur k ((j + 1) * 3)) := by
  rw [show (j + 1) * 3 = j * 3 + 1 + 1 + 1 by omega]
  have e := ((h.set (i := j * 3) (v := .int .i64 (k + (j : Int) * 3))).set (i := j * 3 + 1) (v := .int .i64 (k + (j : Int) * 3 + 1))).set (i := j * 3 + 2) (v := .int .i64 (k + (j : Int) * 3 + 1 + 1))
  have e0 : k + ((j * 3 : Nat) : Int) = k + (j : Int) * 3 := by omega
  have e1 : k + ((j * 3 + 1 : Nat) : Int) = k + (j : Int) * 3 + 1 := by omega
  have e2 : k + ((j * 3 + 1 + 1 : Nat) : Int) = k + (j : Int) * 3 + 1 + 1 := by omega
  simp only [fillTo, e0, e1, e2]
  exact e

set_option maxHeartbeats 1000000 in
theorem markTripleS_any (v : Value) (xs : List T3) (B : Nat) (k : Int) (w : World) (h : OwnT w B v xs) (hl : xs.length ≤ 1000000000000000000) (hk0 : 0 ≤ k) (hk : k ≤ 1000000000000000000) :
    Calls Try.prog 9 #[v, .int .i64 k] w fun e w' => e = .returned (.int .i64 (k + (xs.length * 3 : Nat))) ∧ (OwnT w' B v (runT k xs.length) ∧ w.grownBy w' v.ownBlock ∧ w'.heap.size = w.heap.size) := by
  obtain ⟨h1, h2⟩ := h
  rcases h2 with ⟨rfl, h2⟩ | ⟨g, cap, cur, rfl, hg, hh, hn, hc, hs, ht⟩
  · obtain rfl : xs = [] := List.eq_nil_of_length_eq_zero h2
    clear h1 h2
    have O : OwnT w B (.slice none 0 0) [] := OwnK.nil w B
    go_enter Try.func9, Try.ntmps9
    go_wp2
    refine wp_loop_rounds 1 ?_
    rw [rounds_succ]
    go_wp2
    go_ret
    exact ⟨ret_int (by simp), O, ⟨rfl, rfl, rfl, Nat.le_refl _, fun _ _ _ => rfl⟩, rfl⟩
  · have hB : Blk w g 36 cur := hh
    have HS := Lib.hid hs
    have hs' : xs.length * 3 ≤ cur.size := by rw [hs]; show xs.length * 3 ≤ cap * 3; omega
    clear hh ht hs h1
    go_enter Try.func9, Try.ntmps9
    go_wp2
    go_loopw [1, 5] (fun q i wr => ∃ j : Nat, j ≤ xs.length ∧ i = .int .i64 j ∧ q = .int .i64 (k + (j * 3 : Nat)) ∧ Blk wr g 36 (fillTo cur k (j * 3)) ∧ Only g w wr) (fun _ i _ => xs.length - (intOf i).toNat)
    case atStart => exact ⟨0, Nat.zero_le _, rfl, by simp, hB, Only.refl _ _⟩
    case round =>
      obtain ⟨j, hj, rfl, rfl, hblk, hon⟩ := hrel
      by_cases hlt : j < xs.length
      · have hz : j * 3 + 2 < (fillTo cur k (j * 3)).size := by rw [fillTo_size]; omega
        have c0 := hblk.at (i := j * 3) (Array.getElem?_eq_getElem (by omega))
        have c1 := hblk.at (i := j * 3 + 1) (Array.getElem?_eq_getElem (by omega))
        have c2 := hblk.at (i := j * 3 + 2) (Array.getElem?_eq_getElem hz)
        have f0 := hblk.free (j * 3)
        have f1 := hblk.free (j * 3 + 1)
        have f2 := hblk.free (j * 3 + 2)
        have C := Lib.hid (And.intro hblk hon)
        clear hblk hon
        go_wp2
        refine wp_loop_rounds 4 ?_
        rw [rounds_succ]
        go_wp2
        rw [rounds_succ]
        go_wp2
        rw [rounds_succ]
        go_wp2
        rw [rounds_succ]
        go_wp2
        go_roundw
        case rel => exact ⟨j + 1, by omega, by go_num, by go_num, fill3 C.out.1, C.out.2.set.set.set⟩
        case measure => simp [intOf]; omega
      · go_wp2
        go_ret
        obtain rfl : j = xs.length := by omega
        exact ⟨rfl, ⟨by rw [flat_len, runT_length], .inr ⟨g, cap, _, by rw [runT_length], hg, hblk, by rw [runT_length]; exact hn, hc, by rw [fillTo_size]; exact HS.out, by
          rw [runT_length, runT_flat, show xs.length * encT.k = xs.length * 3 from rfl]; exact fillTo_take _ _ _ hs'⟩⟩, hon.grown, hon.size⟩

set_option maxHeartbeats 1000000 in
theorem heldTripleS_any (v : Value) (n B : Nat) (k : Int) (w : World) (h : OwnT w B v (runT k n)) (hl : n ≤ 1000000000000000000) (hk0 : 0 ≤ k) (hk : k ≤ 1000000000000000000) :
    Calls Try.prog 10 #[v, .int .i64 k] w fun e w' => e = .returned (.int .i64 (k + (n * 3 : Nat))) ∧ w = w' := by
  rcases h.form with ⟨rfl, e⟩ | ⟨g, cap, rfl, hgB, hg, _, _, _⟩
  · obtain rfl : n = 0 := by rw [← runT_length k n, e]; rfl
    clear e h
    go_enter Try.func10, Try.ntmps10
    go_wp2
    refine wp_loop_rounds 1 ?_
    rw [rounds_succ]
    go_wp2
    go_ret
    exact ⟨ret_int (by simp), rfl⟩
  · have H : ∀ j, j < n → w.cell? ⟨g, j * 3, none⟩ = some (.int .i64 (k + (j : Int) * 3)) ∧ w.cell? ⟨g, j * 3 + 1, none⟩ = some (.int .i64 (k + (j : Int) * 3 + 1)) ∧ w.cell? ⟨g, j * 3 + 2, none⟩ = some (.int .i64 (k + (j : Int) * 3 + 1 + 1)) := fun j hj => by
      have q := OwnT.cells h rfl (j := j) (by rw [runT_length]; exact hj)
      rw [runT_get] at q
      have e0 : k + ((j * 3 : Nat) : Int) = k + (j : Int) * 3 := by omega
      have e1 : k + ((j * 3 + 1 : Nat) : Int) = k + (j : Int) * 3 + 1 := by omega
      have e2 : k + ((j * 3 + 2 : Nat) : Int) = k + (j : Int) * 3 + 1 + 1 := by omega
      rw [e0, e1, e2] at q
      exact q
    have HX := Lib.hid H
    rw [runT_length]
    clear h H
    go_enter Try.func10, Try.ntmps10
    go_wp2
    go_loop [1, 5] (fun q i => ∃ j : Nat, j ≤ n ∧ i = .int .i64 j ∧ q = .int .i64 (k + (j * 3 : Nat))) (fun _ i => n - (intOf i).toNat)
    case atStart => exact ⟨0, Nat.zero_le _, rfl, by simp⟩
    case round =>
      obtain ⟨j, hj, rfl, rfl⟩ := hrel
      by_cases hlt : j < n
      · obtain ⟨c0, c1, c2⟩ := HX.out j hlt
        go_wp2
        refine wp_loop_rounds 4 ?_
        rw [rounds_succ]
        go_wp2
        rw [rounds_succ]
        go_wp2
        rw [rounds_succ]
        go_wp2
        rw [rounds_succ]
        go_wp2
        go_round
        case rel => exact ⟨j + 1, by omega, by go_num, by go_num⟩
        case measure => simp [intOf]; omega
      · go_wp2
        go_ret
        obtain rfl : j = n := by omega
        exact ⟨rfl, rfl⟩

end Go.Proofs.Ytbmkpcenjjdflaa
