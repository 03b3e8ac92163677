/- Actions renumbered: both walks. -/
import Derived.Test.YtamkbgodenkboaaIs
import Derived.Test.YtamkbgodenkboaaAct2
import Derived.Test.YtamkbgodenkboaaTail
namespace Go.Proofs.Ytamkbgodenkboaa
open Go.RowKit

/-- The numbers as cells. -/
def ic (xs : List Int) : Array Value := (xs.map (Value.int .i64)).toArray
theorem ic_size (xs : List Int) : (ic xs).size = xs.length := by simp [ic]
theorem ic_get {xs : List Int} {i : Nat} (h : i < xs.length) : (ic xs)[i]? = some (.int .i64 xs[i]) := by simp [ic, h]
theorem ic_set (xs : List Int) (i : Nat) (v : Int) : (ic xs).setIfInBounds i (.int .i64 v) = ic (xs.set i v) := by
  apply Array.toList_inj.1
  simp [ic, List.map_set]
theorem made_ic (n : Nat) : madeCells #[Value.int .i64 0] n = ic (List.replicate n 0) := by
  apply Array.ext
  · rw [size_madeCells, ic_size, List.length_replicate]
  · intro j h1 h2
    simp [madeCells, ic, Nat.mod_one]
theorem Own.of_ic {w : World} {B g : Nat} {xs : List Int} (h : Blk w g 2 (ic xs)) (hB : B ≤ g) (hl : xs.length ≤ maxLen) :
    Own w B (.slice (some ⟨g, 0, none⟩) xs.length xs.length) xs := Own.of_blk h hB (by simp [ic]) hl

/-- n numbers below n. -/
def ptsB (p : List Int) (n : Nat) : Prop := p.length = n ∧ ∀ a, a < n → p[a]? = some (fn p a : Int) ∧ fn p a < n
theorem permB.pts {p : List Int} {n : Nat} (h : permB p n) : ptsB p n := ⟨h.1, fun _ ha => ⟨fn_at h ha, fn_lt h ha⟩⟩
theorem pts_open {w : World} {s : Value} {S : List Int} {n : Nat} (h : SlIn w .i64 s S) (hS : ptsB S n) (hn : 0 < n) :
    ∃ sa sc, s = .slice (some sa) n sc ∧ ∀ a, a < n → w.cell? (sa.add a) = some (.int .i64 (fn S a : Int)) := by
  obtain ⟨sa, sc, rfl, ha⟩ := h.form
  have hl := hS.1
  obtain ⟨sa, rfl, hx⟩ := ha (by omega)
  refine ⟨sa, sc, by rw [hl], fun a h => ?_⟩
  have e := (hS.2 a h).1
  have hl2 : a < S.length := by omega
  rw [hx a hl2, (List.getElem?_eq_some_iff.1 e).2]

theorem keepC_drew {w : World} {a : Addr} {v : Option Value} (h : w.cell? a = v) : w.drew.cell? a = v := h
theorem keepF_drew {w : World} {a : Addr} {v : Bool} (h : w.frozen? a = v) : w.drew.frozen? a = v := h
theorem keepC_set {w : World} {a : Addr} {g i : Nat} {u : Value} {v : Option Value} (hn : a.block ≠ g) (h : w.cell? a = v) : (w.setCell ⟨g, i, none⟩ u).cell? a = v := by
  rw [← h]
  exact World.cell?_of_block (w := w) (Below.heap_setCell _ _ _ _ hn)
theorem keepF_set {w : World} {a p : Addr} {u : Value} {v : Bool} (h : w.frozen? a = v) : (w.setCell p u).frozen? a = v := by
  rw [← h]
  exact World.frozen?_setCell _ _ _ _

/-- The numbers of S renumbered by p, after k rounds. -/
def rnL (p S : List Int) (n : Nat) : Nat → List Int
  | 0 => List.replicate n 0
  | k + 1 => (rnL p S n k).set (fn p k) (fn p (fn S k) : Int)
theorem rnL_len (p S : List Int) (n k : Nat) : (rnL p S n k).length = n := by
  induction k with
  | zero => simp [rnL]
  | succ k ih => simp [rnL, ih]

set_option maxHeartbeats 2000000 in
theorem renumbered_any (s t v : Value) (S T p : List Int) (n : Nat) (w : World) (h : SlIn w .i64 s S ∧ SlIn w .i64 t T) (hv : SlIn w .i64 v p) (hS : permB S n) (hT : permB T n) (hp : ptsB p n) (h0 : 1 ≤ n) (hn : n ≤ 72) :
    Calls Try.prog 79 #[.agg #[s, t], v] w fun e w' => ∃ s' t', e = .returned (.agg #[s', t']) ∧ OwnA w' w.heap.size s' t' ⟨rnL p S n n, rnL p T n n⟩ ∧ Below w.heap.size w w' := by
  obtain ⟨sa, sc, rfl, hA⟩ := perm_open h.1 hS (by omega)
  obtain ⟨ta, tc, rfl, hB⟩ := perm_open h.2 hT (by omega)
  obtain ⟨pa, pc, rfl, hP⟩ := pts_open hv hp (by omega)
  have HPS := Lib.hid hS
  have HPT := Lib.hid hT
  have HPP := Lib.hid hp
  have HA := Lib.hid hA
  have HB := Lib.hid hB
  have HP := Lib.hid hP
  have hmk := run_make_row' (P := Try.prog) 22 2 (.int .i64 0) 8 Try.underlying22 infoI rfl .i64 .i64 n (by omega) (by omega)
  clear h hv hA hB hP hS hT hp
  go_enter Try.func79, Try.ntmps79
  go_wp2_with fail
  go_cut [5] (fun s5 wx => ∃ g1 g2 g3 : Nat, s5 = .pointer (some ⟨g3, 0, none⟩) ∧ g1 ≠ g2 ∧ g1 ≠ g3 ∧ g2 ≠ g3 ∧ w.heap.size + 2 ≤ g1 ∧ w.heap.size + 2 ≤ g2 ∧ w.heap.size + 2 ≤ g3 ∧ Blk wx g1 2 (madeCells #[.int .i64 0] n) ∧ Blk wx g2 2 (madeCells #[.int .i64 0] n) ∧ Blk wx g3 27 #[.slice (some ⟨g1, 0, none⟩) n n, .slice (some ⟨g2, 0, none⟩) n n] ∧ Blk wx w.heap.size 27 #[.slice (some sa) n sc, .slice (some ta) n tc] ∧ Blk wx (w.heap.size + 1) 27 #[.slice none 0 0, .slice none 0 0] ∧ Below w.heap.size w wx)
  case first =>
    go_region_held3 (fun _ => True) (trivial) (fail)
    all_goals go_wp2_with fail
    all_goals go_meet
    all_goals first
      | exact ⟨w.heap.size + 1 + 1, w.heap.size + 1 + 1 + 1, w.heap.size + 1 + 1 + 1 + 1, rfl, by omega, by omega, by omega, by omega, by omega, by omega, (by (repeat (first | (with_reducible assumption) | ((with_reducible refine Blk.new ?_); · first | omega | (simp; done) | (simp; omega)) | (with_reducible apply Blk.set4) | (with_reducible apply Blk.set3) | (with_reducible apply Blk.set2) | ((with_reducible refine Blk.put ?_ ?_); · first | omega | (simp; omega)) | (with_reducible refine Blk.old ?_) | (with_reducible refine Blk.drew ?_) | (with_reducible refine Blk.drewN ?_) | ((with_reducible refine Blk.below hb ?_ ?_); · first | omega | (simp; done) | (simp; omega)))); first | done | fail), (by (repeat (first | (with_reducible assumption) | ((with_reducible refine Blk.new ?_); · first | omega | (simp; done) | (simp; omega)) | (with_reducible apply Blk.set4) | (with_reducible apply Blk.set3) | (with_reducible apply Blk.set2) | ((with_reducible refine Blk.put ?_ ?_); · first | omega | (simp; omega)) | (with_reducible refine Blk.old ?_) | (with_reducible refine Blk.drew ?_) | (with_reducible refine Blk.drewN ?_) | ((with_reducible refine Blk.below hb ?_ ?_); · first | omega | (simp; done) | (simp; omega)))); first | done | fail), (by (repeat (first | (with_reducible assumption) | ((with_reducible refine Blk.new ?_); · first | omega | (simp; done) | (simp; omega)) | (with_reducible apply Blk.set4) | (with_reducible apply Blk.set3) | (with_reducible apply Blk.set2) | ((with_reducible refine Blk.put ?_ ?_); · first | omega | (simp; omega)) | (with_reducible refine Blk.old ?_) | (with_reducible refine Blk.drew ?_) | (with_reducible refine Blk.drewN ?_) | ((with_reducible refine Blk.below hb ?_ ?_); · first | omega | (simp; done) | (simp; omega)))); first | done | fail), (by (repeat (first | (with_reducible assumption) | ((with_reducible refine Blk.new ?_); · first | omega | (simp; done) | (simp; omega)) | (with_reducible apply Blk.set4) | (with_reducible apply Blk.set3) | (with_reducible apply Blk.set2) | ((with_reducible refine Blk.put ?_ ?_); · first | omega | (simp; omega)) | (with_reducible refine Blk.old ?_) | (with_reducible refine Blk.drew ?_) | (with_reducible refine Blk.drewN ?_) | ((with_reducible refine Blk.below hb ?_ ?_); · first | omega | (simp; done) | (simp; omega)))); first | done | fail), (by (repeat (first | (with_reducible assumption) | ((with_reducible refine Blk.new ?_); · first | omega | (simp; done) | (simp; omega)) | (with_reducible apply Blk.set4) | (with_reducible apply Blk.set3) | (with_reducible apply Blk.set2) | ((with_reducible refine Blk.put ?_ ?_); · first | omega | (simp; omega)) | (with_reducible refine Blk.old ?_) | (with_reducible refine Blk.drew ?_) | (with_reducible refine Blk.drewN ?_) | ((with_reducible refine Blk.below hb ?_ ?_); · first | omega | (simp; done) | (simp; omega)))); first | done | fail), (by repeat (first | (with_reducible exact Below.refl _ _) | (with_reducible assumption) | (with_reducible refine Below.drew ?_) | (with_reducible refine Below.drewN ?_) | ((with_reducible refine Below.al ?_ ?_); · first | omega | (simp; done) | (simp; omega)) | ((with_reducible refine Below.sc ?_ ?_); · first | omega | (simp; done) | (simp; omega)) | ((with_reducible refine Below.thru hb ?_ ?_); · first | omega | (simp; done) | (simp; omega))))⟩
      | exact ⟨w.heap.size + 1 + 1, w.heap.size + 1 + 1 + 1 + 1, w.heap.size + 1 + 1 + 1, rfl, by omega, by omega, by omega, by omega, by omega, by omega, (by (repeat (first | (with_reducible assumption) | ((with_reducible refine Blk.new ?_); · first | omega | (simp; done) | (simp; omega)) | (with_reducible apply Blk.set4) | (with_reducible apply Blk.set3) | (with_reducible apply Blk.set2) | ((with_reducible refine Blk.put ?_ ?_); · first | omega | (simp; omega)) | (with_reducible refine Blk.old ?_) | (with_reducible refine Blk.drew ?_) | (with_reducible refine Blk.drewN ?_) | ((with_reducible refine Blk.below hb ?_ ?_); · first | omega | (simp; done) | (simp; omega)))); first | done | fail), (by (repeat (first | (with_reducible assumption) | ((with_reducible refine Blk.new ?_); · first | omega | (simp; done) | (simp; omega)) | (with_reducible apply Blk.set4) | (with_reducible apply Blk.set3) | (with_reducible apply Blk.set2) | ((with_reducible refine Blk.put ?_ ?_); · first | omega | (simp; omega)) | (with_reducible refine Blk.old ?_) | (with_reducible refine Blk.drew ?_) | (with_reducible refine Blk.drewN ?_) | ((with_reducible refine Blk.below hb ?_ ?_); · first | omega | (simp; done) | (simp; omega)))); first | done | fail), (by (repeat (first | (with_reducible assumption) | ((with_reducible refine Blk.new ?_); · first | omega | (simp; done) | (simp; omega)) | (with_reducible apply Blk.set4) | (with_reducible apply Blk.set3) | (with_reducible apply Blk.set2) | ((with_reducible refine Blk.put ?_ ?_); · first | omega | (simp; omega)) | (with_reducible refine Blk.old ?_) | (with_reducible refine Blk.drew ?_) | (with_reducible refine Blk.drewN ?_) | ((with_reducible refine Blk.below hb ?_ ?_); · first | omega | (simp; done) | (simp; omega)))); first | done | fail), (by (repeat (first | (with_reducible assumption) | ((with_reducible refine Blk.new ?_); · first | omega | (simp; done) | (simp; omega)) | (with_reducible apply Blk.set4) | (with_reducible apply Blk.set3) | (with_reducible apply Blk.set2) | ((with_reducible refine Blk.put ?_ ?_); · first | omega | (simp; omega)) | (with_reducible refine Blk.old ?_) | (with_reducible refine Blk.drew ?_) | (with_reducible refine Blk.drewN ?_) | ((with_reducible refine Blk.below hb ?_ ?_); · first | omega | (simp; done) | (simp; omega)))); first | done | fail), (by (repeat (first | (with_reducible assumption) | ((with_reducible refine Blk.new ?_); · first | omega | (simp; done) | (simp; omega)) | (with_reducible apply Blk.set4) | (with_reducible apply Blk.set3) | (with_reducible apply Blk.set2) | ((with_reducible refine Blk.put ?_ ?_); · first | omega | (simp; omega)) | (with_reducible refine Blk.old ?_) | (with_reducible refine Blk.drew ?_) | (with_reducible refine Blk.drewN ?_) | ((with_reducible refine Blk.below hb ?_ ?_); · first | omega | (simp; done) | (simp; omega)))); first | done | fail), (by repeat (first | (with_reducible exact Below.refl _ _) | (with_reducible assumption) | (with_reducible refine Below.drew ?_) | (with_reducible refine Below.drewN ?_) | ((with_reducible refine Below.al ?_ ?_); · first | omega | (simp; done) | (simp; omega)) | ((with_reducible refine Below.sc ?_ ?_); · first | omega | (simp; done) | (simp; omega)) | ((with_reducible refine Below.thru hb ?_ ?_); · first | omega | (simp; done) | (simp; omega))))⟩
      | exact ⟨w.heap.size + 1 + 1 + 1, w.heap.size + 1 + 1, w.heap.size + 1 + 1 + 1 + 1, rfl, by omega, by omega, by omega, by omega, by omega, by omega, (by (repeat (first | (with_reducible assumption) | ((with_reducible refine Blk.new ?_); · first | omega | (simp; done) | (simp; omega)) | (with_reducible apply Blk.set4) | (with_reducible apply Blk.set3) | (with_reducible apply Blk.set2) | ((with_reducible refine Blk.put ?_ ?_); · first | omega | (simp; omega)) | (with_reducible refine Blk.old ?_) | (with_reducible refine Blk.drew ?_) | (with_reducible refine Blk.drewN ?_) | ((with_reducible refine Blk.below hb ?_ ?_); · first | omega | (simp; done) | (simp; omega)))); first | done | fail), (by (repeat (first | (with_reducible assumption) | ((with_reducible refine Blk.new ?_); · first | omega | (simp; done) | (simp; omega)) | (with_reducible apply Blk.set4) | (with_reducible apply Blk.set3) | (with_reducible apply Blk.set2) | ((with_reducible refine Blk.put ?_ ?_); · first | omega | (simp; omega)) | (with_reducible refine Blk.old ?_) | (with_reducible refine Blk.drew ?_) | (with_reducible refine Blk.drewN ?_) | ((with_reducible refine Blk.below hb ?_ ?_); · first | omega | (simp; done) | (simp; omega)))); first | done | fail), (by (repeat (first | (with_reducible assumption) | ((with_reducible refine Blk.new ?_); · first | omega | (simp; done) | (simp; omega)) | (with_reducible apply Blk.set4) | (with_reducible apply Blk.set3) | (with_reducible apply Blk.set2) | ((with_reducible refine Blk.put ?_ ?_); · first | omega | (simp; omega)) | (with_reducible refine Blk.old ?_) | (with_reducible refine Blk.drew ?_) | (with_reducible refine Blk.drewN ?_) | ((with_reducible refine Blk.below hb ?_ ?_); · first | omega | (simp; done) | (simp; omega)))); first | done | fail), (by (repeat (first | (with_reducible assumption) | ((with_reducible refine Blk.new ?_); · first | omega | (simp; done) | (simp; omega)) | (with_reducible apply Blk.set4) | (with_reducible apply Blk.set3) | (with_reducible apply Blk.set2) | ((with_reducible refine Blk.put ?_ ?_); · first | omega | (simp; omega)) | (with_reducible refine Blk.old ?_) | (with_reducible refine Blk.drew ?_) | (with_reducible refine Blk.drewN ?_) | ((with_reducible refine Blk.below hb ?_ ?_); · first | omega | (simp; done) | (simp; omega)))); first | done | fail), (by (repeat (first | (with_reducible assumption) | ((with_reducible refine Blk.new ?_); · first | omega | (simp; done) | (simp; omega)) | (with_reducible apply Blk.set4) | (with_reducible apply Blk.set3) | (with_reducible apply Blk.set2) | ((with_reducible refine Blk.put ?_ ?_); · first | omega | (simp; omega)) | (with_reducible refine Blk.old ?_) | (with_reducible refine Blk.drew ?_) | (with_reducible refine Blk.drewN ?_) | ((with_reducible refine Blk.below hb ?_ ?_); · first | omega | (simp; done) | (simp; omega)))); first | done | fail), (by repeat (first | (with_reducible exact Below.refl _ _) | (with_reducible assumption) | (with_reducible refine Below.drew ?_) | (with_reducible refine Below.drewN ?_) | ((with_reducible refine Below.al ?_ ?_); · first | omega | (simp; done) | (simp; omega)) | ((with_reducible refine Below.sc ?_ ?_); · first | omega | (simp; done) | (simp; omega)) | ((with_reducible refine Below.thru hb ?_ ?_); · first | omega | (simp; done) | (simp; omega))))⟩
      | exact ⟨w.heap.size + 1 + 1 + 1, w.heap.size + 1 + 1 + 1 + 1, w.heap.size + 1 + 1, rfl, by omega, by omega, by omega, by omega, by omega, by omega, (by (repeat (first | (with_reducible assumption) | ((with_reducible refine Blk.new ?_); · first | omega | (simp; done) | (simp; omega)) | (with_reducible apply Blk.set4) | (with_reducible apply Blk.set3) | (with_reducible apply Blk.set2) | ((with_reducible refine Blk.put ?_ ?_); · first | omega | (simp; omega)) | (with_reducible refine Blk.old ?_) | (with_reducible refine Blk.drew ?_) | (with_reducible refine Blk.drewN ?_) | ((with_reducible refine Blk.below hb ?_ ?_); · first | omega | (simp; done) | (simp; omega)))); first | done | fail), (by (repeat (first | (with_reducible assumption) | ((with_reducible refine Blk.new ?_); · first | omega | (simp; done) | (simp; omega)) | (with_reducible apply Blk.set4) | (with_reducible apply Blk.set3) | (with_reducible apply Blk.set2) | ((with_reducible refine Blk.put ?_ ?_); · first | omega | (simp; omega)) | (with_reducible refine Blk.old ?_) | (with_reducible refine Blk.drew ?_) | (with_reducible refine Blk.drewN ?_) | ((with_reducible refine Blk.below hb ?_ ?_); · first | omega | (simp; done) | (simp; omega)))); first | done | fail), (by (repeat (first | (with_reducible assumption) | ((with_reducible refine Blk.new ?_); · first | omega | (simp; done) | (simp; omega)) | (with_reducible apply Blk.set4) | (with_reducible apply Blk.set3) | (with_reducible apply Blk.set2) | ((with_reducible refine Blk.put ?_ ?_); · first | omega | (simp; omega)) | (with_reducible refine Blk.old ?_) | (with_reducible refine Blk.drew ?_) | (with_reducible refine Blk.drewN ?_) | ((with_reducible refine Blk.below hb ?_ ?_); · first | omega | (simp; done) | (simp; omega)))); first | done | fail), (by (repeat (first | (with_reducible assumption) | ((with_reducible refine Blk.new ?_); · first | omega | (simp; done) | (simp; omega)) | (with_reducible apply Blk.set4) | (with_reducible apply Blk.set3) | (with_reducible apply Blk.set2) | ((with_reducible refine Blk.put ?_ ?_); · first | omega | (simp; omega)) | (with_reducible refine Blk.old ?_) | (with_reducible refine Blk.drew ?_) | (with_reducible refine Blk.drewN ?_) | ((with_reducible refine Blk.below hb ?_ ?_); · first | omega | (simp; done) | (simp; omega)))); first | done | fail), (by (repeat (first | (with_reducible assumption) | ((with_reducible refine Blk.new ?_); · first | omega | (simp; done) | (simp; omega)) | (with_reducible apply Blk.set4) | (with_reducible apply Blk.set3) | (with_reducible apply Blk.set2) | ((with_reducible refine Blk.put ?_ ?_); · first | omega | (simp; omega)) | (with_reducible refine Blk.old ?_) | (with_reducible refine Blk.drew ?_) | (with_reducible refine Blk.drewN ?_) | ((with_reducible refine Blk.below hb ?_ ?_); · first | omega | (simp; done) | (simp; omega)))); first | done | fail), (by repeat (first | (with_reducible exact Below.refl _ _) | (with_reducible assumption) | (with_reducible refine Below.drew ?_) | (with_reducible refine Below.drewN ?_) | ((with_reducible refine Below.al ?_ ?_); · first | omega | (simp; done) | (simp; omega)) | ((with_reducible refine Below.sc ?_ ?_); · first | omega | (simp; done) | (simp; omega)) | ((with_reducible refine Below.thru hb ?_ ?_); · first | omega | (simp; done) | (simp; omega))))⟩
      | exact ⟨w.heap.size + 1 + 1 + 1 + 1, w.heap.size + 1 + 1, w.heap.size + 1 + 1 + 1, rfl, by omega, by omega, by omega, by omega, by omega, by omega, (by (repeat (first | (with_reducible assumption) | ((with_reducible refine Blk.new ?_); · first | omega | (simp; done) | (simp; omega)) | (with_reducible apply Blk.set4) | (with_reducible apply Blk.set3) | (with_reducible apply Blk.set2) | ((with_reducible refine Blk.put ?_ ?_); · first | omega | (simp; omega)) | (with_reducible refine Blk.old ?_) | (with_reducible refine Blk.drew ?_) | (with_reducible refine Blk.drewN ?_) | ((with_reducible refine Blk.below hb ?_ ?_); · first | omega | (simp; done) | (simp; omega)))); first | done | fail), (by (repeat (first | (with_reducible assumption) | ((with_reducible refine Blk.new ?_); · first | omega | (simp; done) | (simp; omega)) | (with_reducible apply Blk.set4) | (with_reducible apply Blk.set3) | (with_reducible apply Blk.set2) | ((with_reducible refine Blk.put ?_ ?_); · first | omega | (simp; omega)) | (with_reducible refine Blk.old ?_) | (with_reducible refine Blk.drew ?_) | (with_reducible refine Blk.drewN ?_) | ((with_reducible refine Blk.below hb ?_ ?_); · first | omega | (simp; done) | (simp; omega)))); first | done | fail), (by (repeat (first | (with_reducible assumption) | ((with_reducible refine Blk.new ?_); · first | omega | (simp; done) | (simp; omega)) | (with_reducible apply Blk.set4) | (with_reducible apply Blk.set3) | (with_reducible apply Blk.set2) | ((with_reducible refine Blk.put ?_ ?_); · first | omega | (simp; omega)) | (with_reducible refine Blk.old ?_) | (with_reducible refine Blk.drew ?_) | (with_reducible refine Blk.drewN ?_) | ((with_reducible refine Blk.below hb ?_ ?_); · first | omega | (simp; done) | (simp; omega)))); first | done | fail), (by (repeat (first | (with_reducible assumption) | ((with_reducible refine Blk.new ?_); · first | omega | (simp; done) | (simp; omega)) | (with_reducible apply Blk.set4) | (with_reducible apply Blk.set3) | (with_reducible apply Blk.set2) | ((with_reducible refine Blk.put ?_ ?_); · first | omega | (simp; omega)) | (with_reducible refine Blk.old ?_) | (with_reducible refine Blk.drew ?_) | (with_reducible refine Blk.drewN ?_) | ((with_reducible refine Blk.below hb ?_ ?_); · first | omega | (simp; done) | (simp; omega)))); first | done | fail), (by (repeat (first | (with_reducible assumption) | ((with_reducible refine Blk.new ?_); · first | omega | (simp; done) | (simp; omega)) | (with_reducible apply Blk.set4) | (with_reducible apply Blk.set3) | (with_reducible apply Blk.set2) | ((with_reducible refine Blk.put ?_ ?_); · first | omega | (simp; omega)) | (with_reducible refine Blk.old ?_) | (with_reducible refine Blk.drew ?_) | (with_reducible refine Blk.drewN ?_) | ((with_reducible refine Blk.below hb ?_ ?_); · first | omega | (simp; done) | (simp; omega)))); first | done | fail), (by repeat (first | (with_reducible exact Below.refl _ _) | (with_reducible assumption) | (with_reducible refine Below.drew ?_) | (with_reducible refine Below.drewN ?_) | ((with_reducible refine Below.al ?_ ?_); · first | omega | (simp; done) | (simp; omega)) | ((with_reducible refine Below.sc ?_ ?_); · first | omega | (simp; done) | (simp; omega)) | ((with_reducible refine Below.thru hb ?_ ?_); · first | omega | (simp; done) | (simp; omega))))⟩
      | exact ⟨w.heap.size + 1 + 1 + 1 + 1, w.heap.size + 1 + 1 + 1, w.heap.size + 1 + 1, rfl, by omega, by omega, by omega, by omega, by omega, by omega, (by (repeat (first | (with_reducible assumption) | ((with_reducible refine Blk.new ?_); · first | omega | (simp; done) | (simp; omega)) | (with_reducible apply Blk.set4) | (with_reducible apply Blk.set3) | (with_reducible apply Blk.set2) | ((with_reducible refine Blk.put ?_ ?_); · first | omega | (simp; omega)) | (with_reducible refine Blk.old ?_) | (with_reducible refine Blk.drew ?_) | (with_reducible refine Blk.drewN ?_) | ((with_reducible refine Blk.below hb ?_ ?_); · first | omega | (simp; done) | (simp; omega)))); first | done | fail), (by (repeat (first | (with_reducible assumption) | ((with_reducible refine Blk.new ?_); · first | omega | (simp; done) | (simp; omega)) | (with_reducible apply Blk.set4) | (with_reducible apply Blk.set3) | (with_reducible apply Blk.set2) | ((with_reducible refine Blk.put ?_ ?_); · first | omega | (simp; omega)) | (with_reducible refine Blk.old ?_) | (with_reducible refine Blk.drew ?_) | (with_reducible refine Blk.drewN ?_) | ((with_reducible refine Blk.below hb ?_ ?_); · first | omega | (simp; done) | (simp; omega)))); first | done | fail), (by (repeat (first | (with_reducible assumption) | ((with_reducible refine Blk.new ?_); · first | omega | (simp; done) | (simp; omega)) | (with_reducible apply Blk.set4) | (with_reducible apply Blk.set3) | (with_reducible apply Blk.set2) | ((with_reducible refine Blk.put ?_ ?_); · first | omega | (simp; omega)) | (with_reducible refine Blk.old ?_) | (with_reducible refine Blk.drew ?_) | (with_reducible refine Blk.drewN ?_) | ((with_reducible refine Blk.below hb ?_ ?_); · first | omega | (simp; done) | (simp; omega)))); first | done | fail), (by (repeat (first | (with_reducible assumption) | ((with_reducible refine Blk.new ?_); · first | omega | (simp; done) | (simp; omega)) | (with_reducible apply Blk.set4) | (with_reducible apply Blk.set3) | (with_reducible apply Blk.set2) | ((with_reducible refine Blk.put ?_ ?_); · first | omega | (simp; omega)) | (with_reducible refine Blk.old ?_) | (with_reducible refine Blk.drew ?_) | (with_reducible refine Blk.drewN ?_) | ((with_reducible refine Blk.below hb ?_ ?_); · first | omega | (simp; done) | (simp; omega)))); first | done | fail), (by (repeat (first | (with_reducible assumption) | ((with_reducible refine Blk.new ?_); · first | omega | (simp; done) | (simp; omega)) | (with_reducible apply Blk.set4) | (with_reducible apply Blk.set3) | (with_reducible apply Blk.set2) | ((with_reducible refine Blk.put ?_ ?_); · first | omega | (simp; omega)) | (with_reducible refine Blk.old ?_) | (with_reducible refine Blk.drew ?_) | (with_reducible refine Blk.drewN ?_) | ((with_reducible refine Blk.below hb ?_ ?_); · first | omega | (simp; done) | (simp; omega)))); first | done | fail), (by repeat (first | (with_reducible exact Below.refl _ _) | (with_reducible assumption) | (with_reducible refine Below.drew ?_) | (with_reducible refine Below.drewN ?_) | ((with_reducible refine Below.al ?_ ?_); · first | omega | (simp; done) | (simp; omega)) | ((with_reducible refine Below.sc ?_ ?_); · first | omega | (simp; done) | (simp; omega)) | ((with_reducible refine Below.thru hb ?_ ?_); · first | omega | (simp; done) | (simp; omega))))⟩
  case rest =>
    obtain ⟨g1, g2, g3, rfl, n12, n13, n23, m1, m2, m3, B1, B2, B3, B0, B4, hb⟩ := hcut
    rw [made_ic] at B1 B2
    have b3 := B3.p2
    have lB3 := B3.lt
    have lB0 := B0.lt
    have lB4 := B4.lt
    go_wp2
    go_loopw [17] (fun i wr => ∃ k : Nat, k ≤ n ∧ i = .int .i64 k ∧ Blk wr g1 2 (ic (rnL p S n k)) ∧ Blk wr g2 2 (ic (rnL p T n k)) ∧ Blk wr g3 27 #[.slice (some ⟨g1, 0, none⟩) n n, .slice (some ⟨g2, 0, none⟩) n n] ∧ Blk wr w.heap.size 27 #[.slice (some sa) n sc, .slice (some ta) n tc] ∧ Blk wr (w.heap.size + 1) 27 #[.slice none 0 0, .slice none 0 0] ∧ Below w.heap.size w wr) (fun i _ => n - (intOf i).toNat)
    case atStart => exact ⟨0, Nat.zero_le _, rfl, B1, B2, B3, B0, B4, hb⟩
    case round =>
      clear B1 B2 B3 B0 B4 hb b3 lB3 lB0 lB4
      obtain ⟨k, hk, rfl, B1, B2, B3, B0, B4, kwr⟩ := hrel
      obtain ⟨b30, b31⟩ := B3.p2
      obtain ⟨b00, b01⟩ := B0.p2
      obtain ⟨b40, b41⟩ := B4.p2
      have f4 := B4.free 0
      have f5 := B4.free 1
      have lB1 := B1.lt
      have lB2 := B2.lt
      have lB3 := B3.lt
      have lB0 := B0.lt
      have lB4 := B4.lt
      have swr := kwr.size
      by_cases hlt : k < n
      · have ck := perm_cells HP.out kwr k hlt
        have lq := (HPP.out.2 k hlt).2
        have cx := perm_cells HA.out kwr k hlt
        have lx := fn_lt HPS.out hlt
        have cy := perm_cells HB.out kwr k hlt
        have ly := fn_lt HPT.out hlt
        have HX := Lib.hid (show rnL p S n (k + 1) = (rnL p S n k).set (fn p k) (fn p (fn S k) : Int) from rfl)
        have HY := Lib.hid (show rnL p T n (k + 1) = (rnL p T n k).set (fn p k) (fn p (fn T k) : Int) from rfl)
        generalize fn p k = q at *
        generalize fn S k = x at *
        generalize fn T k = y at *
        have cpx := perm_cells HP.out kwr x lx
        have cpy := perm_cells HP.out kwr y ly
        generalize fn p x = px at *
        generalize fn p y = py at *
        have z1 : q < (rnL p S n k).length := by rw [rnL_len]; exact lq
        have z2 : q < (rnL p T n k).length := by rw [rnL_len]; exact lq
        have cs := B1.at (ic_get z1)
        have ct := B2.at (ic_get z2)
        have fs := B1.free q
        have ft := B2.free q
        have i0 : (0 : Int) ≤ (k : Int) := by omega
        have i1 : (k : Int) < (n : Int) := by omega
        have i2 : (0 : Int) ≤ (q : Int) := by omega
        have i3 : (q : Int) < (n : Int) := by omega
        have i4 : (0 : Int) ≤ (x : Int) := by omega
        have i5 : (x : Int) < (n : Int) := by omega
        have i6 : (0 : Int) ≤ (y : Int) := by omega
        have i7 : (y : Int) < (n : Int) := by omega
        have l1 := block_lt_of_cell (HP.out k hlt)
        have l2 := block_lt_of_cell (HA.out k hlt)
        have l3 := block_lt_of_cell (HB.out k hlt)
        have l4 := block_lt_of_cell (HP.out x lx)
        have l5 := block_lt_of_cell (HP.out y ly)
        have H := Lib.hid (And.intro B1 (And.intro B2 (And.intro B3 (And.intro B0 (And.intro B4 kwr)))))
        clear B1 B2 B3 B0 B4 kwr
        go_wp2_with fail
        go_region_held3 (fun w' => w'.cell? ⟨g3, 0, none⟩ = some (.slice (some ⟨g1, 0, none⟩) n n) ∧ w'.cell? ⟨g3, 1, none⟩ = some (.slice (some ⟨g2, 0, none⟩) n n) ∧ w'.cell? ⟨w.heap.size, 0, none⟩ = some (.slice (some sa) n sc) ∧ w'.cell? ⟨w.heap.size, 1, none⟩ = some (.slice (some ta) n tc) ∧ w'.cell? (pa.add k) = some (.int .i64 (q : Int)) ∧ w'.cell? (sa.add k) = some (.int .i64 (x : Int)) ∧ w'.cell? (ta.add k) = some (.int .i64 (y : Int)) ∧ w'.cell? (pa.add x) = some (.int .i64 (px : Int)) ∧ w'.cell? (pa.add y) = some (.int .i64 (py : Int)) ∧ w'.frozen? ⟨g1, q, none⟩ = false ∧ w'.frozen? ⟨g2, q, none⟩ = false) (refine ⟨?_, ?_, ?_, ?_, ?_, ?_, ?_, ?_, ?_, ?_, ?_⟩ <;> (repeat (first | assumption | refine keepC_drew ?_ | refine keepF_drew ?_ | (refine keepC_set ?_ ?_; · first | omega | (dsimp only; omega)) | refine keepF_set ?_))) (fail)
        go_wp2
        go_roundw
        case rel => exact ⟨k + 1, by omega, by go_num, by rw [HX.out, ← ic_set]; exact Blk.drew (Blk.put n12 (Blk.set H.out.1)), by rw [HY.out, ← ic_set]; exact Blk.drew (Blk.set (Blk.put (Ne.symm n12) H.out.2.1)), Blk.drew (Blk.put (Ne.symm n23) (Blk.put (Ne.symm n13) H.out.2.2.1)), Blk.drew (Blk.put (by omega) (Blk.put (by omega) H.out.2.2.2.1)), Blk.drew (Blk.put (by omega) (Blk.put (by omega) H.out.2.2.2.2.1)), ((H.out.2.2.2.2.2.setCell (by dsimp only; omega) _).setCell (by dsimp only; omega) _).drew⟩
        case measure => simp [intOf]; omega
      · obtain rfl : k = n := by omega
        have e1 := rnL_len p S k k
        have e2 := rnL_len p T k k
        go_wp2
        refine ret_at (v := .agg #[.slice (some ⟨g1, 0, none⟩) k k, .slice (some ⟨g2, 0, none⟩) k k]) (fun w' => Blk w' (w.heap.size + 1) 27 (#[.slice (some ⟨g1, 0, none⟩) k k, .slice (some ⟨g2, 0, none⟩) k k])) (by repeat (first | (with_reducible assumption) | ((with_reducible refine Blk.new ?_); · first | omega | (simp; done) | (simp; omega)) | (with_reducible apply Blk.set4) | (with_reducible apply Blk.set3) | (with_reducible apply Blk.set2) | ((with_reducible refine Blk.put ?_ ?_); · first | omega | (simp; omega)) | (with_reducible refine Blk.old ?_) | (with_reducible refine Blk.drew ?_) | (with_reducible refine Blk.drewN ?_) | ((with_reducible refine Blk.below hb ?_ ?_); · first | omega | (simp; done) | (simp; omega)))) (fun w' hB => by have q := hB.p2; simp [results, Try.results79, go_sem, q]) rfl ?_
        have O1 : Own wr w.heap.size (.slice (some ⟨g1, 0, none⟩) k k) (rnL p S k k) := by
          have := Own.of_ic (B := w.heap.size) B1 (by omega) (by rw [e1]; unfold maxLen; omega)
          rwa [e1] at this
        have O2 : Own wr w.heap.size (.slice (some ⟨g2, 0, none⟩) k k) (rnL p T k k) := by
          have := Own.of_ic (B := w.heap.size) B2 (by omega) (by rw [e2]; unfold maxLen; omega)
          rwa [e2] at this
        have nb1 : (Value.slice (some ⟨g1, 0, none⟩) k k).ownBlock ≠ some (w.heap.size + 1) := fun e => by simp only [Value.ownBlock, Option.some.injEq] at e; omega
        have nb2 : (Value.slice (some ⟨g2, 0, none⟩) k k).ownBlock ≠ some (w.heap.size + 1) := fun e => by simp only [Value.ownBlock, Option.some.injEq] at e; omega
        exact ⟨_, _, rfl, ⟨Own.put nb1 (Own.put nb1 O1), Own.put nb2 (Own.put nb2 O2), fun g e e2 => by
          have h1 : g1 = g := by simpa [Value.ownBlock] using e
          have h2 : g2 = g := by simpa [Value.ownBlock] using e2
          exact n12 (h1.trans h2.symm)⟩, (by repeat (first | (with_reducible exact Below.refl _ _) | (with_reducible assumption) | (with_reducible refine Below.drew ?_) | (with_reducible refine Below.drewN ?_) | ((with_reducible refine Below.al ?_ ?_); · first | omega | (simp; done) | (simp; omega)) | ((with_reducible refine Below.sc ?_ ?_); · first | omega | (simp; done) | (simp; omega)) | ((with_reducible refine Below.thru hb ?_ ?_); · first | omega | (simp; done) | (simp; omega))))⟩

end Go.Proofs.Ytamkbgodenkboaa
