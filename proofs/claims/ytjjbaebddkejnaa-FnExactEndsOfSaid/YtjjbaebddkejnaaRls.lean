/- The relations of a level: what both sides list (plain law). -/
import Derived.Test.YtjjbaebddkejnaaFin
import Derived.Test.YtjjbaebddkejnaaLn
import Derived.Deep.OwnRows
namespace Go.Proofs.Ytjjbaebddkejnaa
open Go.RowKit
set_option linter.unusedSimpArgs false

theorem isPr_iff (n c d : Nat) : isPr n c d = true ↔ ∀ g, g ∣ c → g ∣ d → g ∣ n → g = 1 := by
  unfold isPr
  rw [decide_eq_true_eq]
  constructor
  · intro h g h1 h2 h3
    exact Nat.eq_one_of_dvd_one (h ▸ Nat.dvd_gcd (Nat.dvd_gcd h1 h2) h3)
  · intro h
    refine h _ ?_ ?_ (Nat.gcd_dvd_right _ _)
    · exact Nat.dvd_trans (Nat.gcd_dvd_left _ _) (Nat.gcd_dvd_left _ _)
    · exact Nat.dvd_trans (Nat.gcd_dvd_left _ _) (Nat.gcd_dvd_right _ _)
theorem neg_mod (c n : Nat) (h : c ≤ n) : ((-(c : Int)) % (n : Int)).toNat = (n - c) % n := by
  have e : (-(c : Int)) % (n : Int) = ((n - c : Nat) : Int) % (n : Int) := by
    rw [show ((n - c : Nat) : Int) = -(c : Int) + n by omega, Int.add_emod_right]
  rw [e, ← Int.natCast_emod, Int.toNat_natCast]
theorem neg_mod2 (c d n : Nat) (h : c + d ≤ 2 * n) : ((-(c : Int) - d) % (n : Int)).toNat = (2 * n - c - d) % n := by
  have e : (-(c : Int) - d) % (n : Int) = ((2 * n - c - d : Nat) : Int) % (n : Int) := by
    rw [show ((2 * n - c - d : Nat) : Int) = -(c : Int) - d + n + n by omega, Int.add_emod_right, Int.add_emod_right]
  rw [e, ← Int.natCast_emod, Int.toNat_natCast]
theorem pos_mod (c n : Nat) (h : c < n) : ((c : Int) % (n : Int)).toNat = c := by
  rw [← Int.natCast_emod, Int.toNat_natCast, Nat.mod_eq_of_lt h]
theorem add_mod2 (c d n : Nat) : (((c : Int) + d) % (n : Int)).toNat = (c + d) % n := by
  rw [← Int.natCast_add, ← Int.natCast_emod, Int.toNat_natCast]
/-- The three products of a pair. -/
theorem line_pair {n : Nat} {x : Nat × Nat} (hx : x ∈ lineL n) : x.1 < n ∧ x.2 < n ∧ isPr n x.1 x.2 = true := by
  obtain ⟨h1, h2, h3⟩ := lnTo_mem.1 hx
  unfold isLn at h3
  exact ⟨h1, h2, (Bool.and_eq_true_iff.1 h3).1⟩
theorem nrmC_s {n : Nat} {x : Nat × Nat} (hx : x ∈ lineL n) : nrmC n (x.2 : Int) (-(x.1 : Int)) = nrmN n x.2 ((n - x.1) % n) := by
  obtain ⟨h1, h2, _⟩ := line_pair hx
  unfold nrmC
  rw [pos_mod _ _ h2, neg_mod _ _ (by omega)]
theorem nrmC_u {n : Nat} {x : Nat × Nat} (hx : x ∈ lineL n) : nrmC n ((x.1 : Int) + x.2) (-(x.1 : Int)) = nrmN n ((x.1 + x.2) % n) ((n - x.1) % n) := by
  obtain ⟨h1, h2, _⟩ := line_pair hx
  unfold nrmC
  rw [add_mod2, neg_mod _ _ (by omega)]
theorem nrmC_v {n : Nat} {x : Nat × Nat} (hx : x ∈ lineL n) : nrmC n (x.2 : Int) (-(x.1 : Int) - x.2) = nrmN n x.2 ((2 * n - x.1 - x.2) % n) := by
  obtain ⟨h1, h2, _⟩ := line_pair hx
  unfold nrmC
  rw [pos_mod _ _ h2, neg_mod2 _ _ _ (by omega)]
theorem isPrC_s {n : Nat} {x : Nat × Nat} (hx : x ∈ lineL n) : isPrC n (x.2 : Int) (-(x.1 : Int)) = true := by
  obtain ⟨h1, h2, h3⟩ := line_pair hx
  unfold isPrC
  rw [pos_mod _ _ h2, neg_mod _ _ (by omega)]
  refine (isPr_iff _ _ _).2 fun g a b c => (isPr_iff _ _ _).1 h3 g ?_ a c
  have b' := (Nat.dvd_mod_iff c).1 b
  have := Nat.dvd_sub c b'
  rwa [Nat.sub_sub_self (by omega)] at this
theorem isPrC_u {n : Nat} {x : Nat × Nat} (hx : x ∈ lineL n) : isPrC n ((x.1 : Int) + x.2) (-(x.1 : Int)) = true := by
  obtain ⟨h1, h2, h3⟩ := line_pair hx
  unfold isPrC
  rw [add_mod2, neg_mod _ _ (by omega)]
  refine (isPr_iff _ _ _).2 fun g a b c => ?_
  have b' := (Nat.dvd_mod_iff c).1 b
  have hc := Nat.dvd_sub c b'
  rw [Nat.sub_sub_self (by omega)] at hc
  have a' := (Nat.dvd_mod_iff c).1 a
  exact (isPr_iff _ _ _).1 h3 g hc ((Nat.dvd_add_iff_right hc).2 a') c
theorem isPrC_v {n : Nat} {x : Nat × Nat} (hx : x ∈ lineL n) : isPrC n (x.2 : Int) (-(x.1 : Int) - x.2) = true := by
  obtain ⟨h1, h2, h3⟩ := line_pair hx
  unfold isPrC
  rw [pos_mod _ _ h2, neg_mod2 _ _ _ (by omega)]
  refine (isPr_iff _ _ _).2 fun g a b c => (isPr_iff _ _ _).1 h3 g ?_ a c
  have b' := (Nat.dvd_mod_iff c).1 b
  have h2n : g ∣ 2 * n := Nat.dvd_mul_left_of_dvd c 2
  have hc := Nat.dvd_sub h2n b'
  rw [show 2 * n - (2 * n - x.1 - x.2) = x.1 + x.2 by omega] at hc
  exact (Nat.dvd_add_iff_left a).2 hc
theorem mem_of_ln {n : Nat} {p : Nat × Nat} (h1 : p.1 < n) (h2 : p.2 < n) (h : isLn n p.1 p.2 = true) : p ∈ lineL n := lnTo_mem.2 ⟨h1, h2, h⟩
theorem nrmN_lt {n c d : Nat} (hc : c < n) (hd : d < n) : (nrmN n c d).1 < n ∧ (nrmN n c d).2 < n := nrm_lt hc hd _
theorem mem_s {n : Nat} (hn : 1 ≤ n ∧ n ≤ 60) {x : Nat × Nat} (hx : x ∈ lineL n) : nrmC n (x.2 : Int) (-(x.1 : Int)) ∈ lineL n := by
  obtain ⟨h1, h2, _⟩ := line_pair hx
  rw [nrmC_s hx]
  have := nrmN_lt (n := n) h2 (Nat.mod_lt (n - x.1) (by omega))
  exact mem_of_ln this.1 this.2 (row_ok (all_ok hn) hx).1
theorem mem_u {n : Nat} (hn : 1 ≤ n ∧ n ≤ 60) {x : Nat × Nat} (hx : x ∈ lineL n) : nrmC n ((x.1 : Int) + x.2) (-(x.1 : Int)) ∈ lineL n := by
  rw [nrmC_u hx]
  have := nrmN_lt (n := n) (Nat.mod_lt (x.1 + x.2) (by omega)) (Nat.mod_lt (n - x.1) (by omega))
  exact mem_of_ln this.1 this.2 (row_ok (all_ok hn) hx).2.1
theorem mem_v {n : Nat} (hn : 1 ≤ n ∧ n ≤ 60) {x : Nat × Nat} (hx : x ∈ lineL n) : nrmC n (x.2 : Int) (-(x.1 : Int) - x.2) ∈ lineL n := by
  obtain ⟨h1, h2, _⟩ := line_pair hx
  rw [nrmC_v hx]
  have := nrmN_lt (n := n) h2 (Nat.mod_lt (2 * n - x.1 - x.2) (by omega))
  exact mem_of_ln this.1 this.2 (row_ok (all_ok hn) hx).2.2.2
theorem uu_v {n : Nat} (hn : 1 ≤ n ∧ n ≤ 60) {x y : Nat × Nat} (hx : x ∈ lineL n) (hy : y = nrmC n ((x.1 : Int) + x.2) (-(x.1 : Int))) : nrmC n ((y.1 : Int) + y.2) (-(y.1 : Int)) = nrmC n (x.2 : Int) (-(x.1 : Int) - x.2) := by
  have hm : y ∈ lineL n := by rw [hy]; exact mem_u hn hx
  rw [nrmC_u hm, nrmC_v hx]
  exact (row_ok (all_ok hn) hx).2.2.1 y (by rw [hy, nrmC_u hx])

/-- The pair of a number. -/
def prA (n i : Nat) : Nat × Nat := (lineL n).getD i (0, 0)
def sI (n i : Nat) : Nat := (lineL n).idxOf (nrmC n ((prA n i).2 : Int) (-((prA n i).1 : Int)))
def uI (n i : Nat) : Nat := (lineL n).idxOf (nrmC n (((prA n i).1 : Int) + (prA n i).2) (-((prA n i).1 : Int)))
def vI (n i : Nat) : Nat := (lineL n).idxOf (nrmC n ((prA n i).2 : Int) (-((prA n i).1 : Int) - (prA n i).2))
theorem prA_mem {n i : Nat} (hi : i < (lineL n).length) : prA n i ∈ lineL n := by
  unfold prA
  rw [List.getD_eq_getElem?_getD, List.getElem?_eq_getElem hi]
  exact List.getElem_mem hi
theorem prA_get {n i : Nat} (hi : i < (lineL n).length) : prA n i = (lineL n)[i] := by
  unfold prA
  rw [List.getD_eq_getElem?_getD, List.getElem?_eq_getElem hi]
  rfl
theorem sI_lt {n i : Nat} (hn : 1 ≤ n ∧ n ≤ 60) (hi : i < (lineL n).length) : sI n i < (lineL n).length := List.idxOf_lt_length_of_mem (mem_s hn (prA_mem hi))
theorem uI_lt {n i : Nat} (hn : 1 ≤ n ∧ n ≤ 60) (hi : i < (lineL n).length) : uI n i < (lineL n).length := List.idxOf_lt_length_of_mem (mem_u hn (prA_mem hi))
theorem vI_lt {n i : Nat} (hn : 1 ≤ n ∧ n ≤ 60) (hi : i < (lineL n).length) : vI n i < (lineL n).length := List.idxOf_lt_length_of_mem (mem_v hn (prA_mem hi))
theorem idx_s {n i : Nat} (hn : 1 ≤ n ∧ n ≤ 60) (hi : i < (lineL n).length) : idxP (lineL n) (nrmC n ((prA n i).2 : Int) (-((prA n i).1 : Int))) = (sI n i : Int) := by
  unfold idxP sI
  rw [if_pos (mem_s hn (prA_mem hi))]
theorem idx_u {n i : Nat} (hn : 1 ≤ n ∧ n ≤ 60) (hi : i < (lineL n).length) : idxP (lineL n) (nrmC n (((prA n i).1 : Int) + (prA n i).2) (-((prA n i).1 : Int))) = (uI n i : Int) := by
  unfold idxP uI
  rw [if_pos (mem_u hn (prA_mem hi))]
theorem idx_v {n i : Nat} (hn : 1 ≤ n ∧ n ≤ 60) (hi : i < (lineL n).length) : idxP (lineL n) (nrmC n ((prA n i).2 : Int) (-((prA n i).1 : Int) - (prA n i).2)) = (vI n i : Int) := by
  unfold idxP vI
  rw [if_pos (mem_v hn (prA_mem hi))]
theorem prA_u {n i : Nat} (hn : 1 ≤ n ∧ n ≤ 60) (hi : i < (lineL n).length) : prA n (uI n i) = nrmC n (((prA n i).1 : Int) + (prA n i).2) (-((prA n i).1 : Int)) := by
  rw [prA_get (uI_lt hn hi)]
  exact List.getElem_idxOf (uI_lt hn hi)
theorem uu_vI {n i : Nat} (hn : 1 ≤ n ∧ n ≤ 60) (hi : i < (lineL n).length) : uI n (uI n i) = vI n i := by
  show (lineL n).idxOf _ = (lineL n).idxOf _
  rw [uu_v hn (prA_mem hi) (prA_u hn hi)]
def mS : M := ⟨0, -1, 1, 0⟩
def mU : M := ⟨1, -1, 1, 0⟩
theorem movS {n : Nat} (hn : 1 ≤ n ∧ n ≤ 60) : movL n mS = (List.range (lineL n).length).map fun i => (sI n i : Int) := by
  refine List.ext_getElem (by simp [movL]) fun i h1 h2 => ?_
  have hi : i < (lineL n).length := by simpa [movL] using h1
  simp only [movL, List.getElem_map, List.getElem_range]
  rw [← idx_s hn hi, prA_get hi]
  simp [mv1, mS]
theorem movU {n : Nat} (hn : 1 ≤ n ∧ n ≤ 60) : movL n mU = (List.range (lineL n).length).map fun i => (uI n i : Int) := by
  refine List.ext_getElem (by simp [movL]) fun i h1 h2 => ?_
  have hi : i < (lineL n).length := by simpa [movL] using h1
  simp only [movL, List.getElem_map, List.getElem_range]
  rw [← idx_u hn hi, prA_get hi]
  simp [mv1, mU]

/-- One more at a place. -/
def inc (x : List Nat) (i : Nat) : List Nat := x.set i (x.getD i 0 + 1)
def incs (N : Nat) (is : List Nat) : List Nat := is.foldl inc (List.replicate N 0)
theorem inc_len (x : List Nat) (i : Nat) : (inc x i).length = x.length := by simp [inc]
theorem incs_len (N : Nat) (is : List Nat) : (incs N is).length = N := by
  have : ∀ (x : List Nat), (is.foldl inc x).length = x.length := by
    induction is with
    | nil => intro x; rfl
    | cons a is ih => intro x; rw [List.foldl_cons, ih, inc_len]
  unfold incs
  rw [this, List.length_replicate]
def two (n i : Nat) : List Nat := incs (lineL n).length [i, sI n i]
def three (n i : Nat) : List Nat := incs (lineL n).length [i, uI n i, vI n i]
def twoL (n : Nat) (k : Nat) : List (List Nat) := (List.range k).map (two n)
def threeL (n : Nat) (k : Nat) : List (List Nat) := (List.range k).map (three n)
def relL (n : Nat) : List (List Nat) := twoL n (lineL n).length ++ threeL n (lineL n).length
theorem twoL_succ (n k : Nat) : twoL n (k + 1) = twoL n k ++ [two n k] := by simp [twoL, List.range_succ]
theorem threeL_succ (n k : Nat) : threeL n (k + 1) = threeL n k ++ [three n k] := by simp [threeL, List.range_succ]
theorem relL_len (n : Nat) : (relL n).length = (lineL n).length + (lineL n).length := by simp [relL, twoL, threeL]
theorem relL_row {n : Nat} {r : List Nat} (h : r ∈ relL n) : r.length = (lineL n).length := by
  rcases List.mem_append.1 h with h | h
  · obtain ⟨i, _, rfl⟩ := List.mem_map.1 h
    exact incs_len _ _
  · obtain ⟨i, _, rfl⟩ := List.mem_map.1 h
    exact incs_len _ _

end Go.Proofs.Ytjjbaebddkejnaa

/- One relation is put to the list: the program's closure in relations. -/
namespace Go.Proofs.Ytjjbaebddkejnaa
open Go.RowKit
set_option linter.unusedSimpArgs false

def ic (xs : List Int) : Array Value := (xs.map (Value.int .i64)).toArray
theorem ic_size (xs : List Int) : (ic xs).size = xs.length := by simp [ic]
theorem ic_get {xs : List Int} {i : Nat} (h : i < xs.length) : (ic xs)[i]? = some (.int .i64 xs[i]) := by simp [ic, h]
theorem ic_set (xs : List Int) (i : Nat) (v : Int) : (ic xs).setIfInBounds i (.int .i64 v) = ic (xs.set i v) := by
  apply Array.toList_inj.1
  simp [ic, List.map_set]
theorem made_ic (n : Nat) : madeCells #[Value.int .i64 0] n = ic (List.replicate n 0) := by
  apply Array.ext
  · rw [size_madeCells, ic_size, List.length_replicate]
  · intro j h1 h2
    simp [madeCells, ic, Nat.mod_one]
theorem Own.of_ic {w : World} {B g : Nat} {xs : List Int} (h : Blk w g 2 (ic xs)) (hB : B ≤ g) (hl : xs.length ≤ maxLen) :
    Own w B (.slice (some ⟨g, 0, none⟩) xs.length xs.length) xs := Own.of_blk h hB (by simp [ic]) hl

theorem inc_getD (x : List Nat) (i j : Nat) : (inc x i).getD j 0 = if j = i ∧ i < x.length then x.getD i 0 + 1 else x.getD j 0 := by
  simp only [inc, List.getD_eq_getElem?_getD, List.getElem?_set]
  by_cases h : i = j
  · subst h
    by_cases h2 : i < x.length
    · simp [h2]
    · simp [h2]
  · rw [if_neg h, if_neg (by omega)]
theorem foldl_inc_le (is : List Nat) : ∀ (x : List Nat) (b : Nat), (∀ j, x.getD j 0 ≤ b) → ∀ j, (is.foldl inc x).getD j 0 ≤ b + is.length := by
  induction is with
  | nil => intro x b h j; exact h j
  | cons a is ih =>
    intro x b h j
    have := ih (inc x a) (b + 1) (fun j => by rw [inc_getD]; split; have := h a; omega; have := h j; omega) j
    simp only [List.foldl_cons, List.length_cons]
    omega
theorem incs_le (N : Nat) (is : List Nat) (j : Nat) : (incs N is).getD j 0 ≤ is.length := by
  have := foldl_inc_le is (List.replicate N 0) 0 (fun j => by simp [List.getD_eq_getElem?_getD, List.getElem?_replicate]; split <;> simp) j
  unfold incs
  omega
theorem incs_snoc (N : Nat) (is : List Nat) (k : Nat) (hk : k < is.length) : incs N (is.take (k + 1)) = inc (incs N (is.take k)) is[k] := by
  unfold incs
  rw [List.take_succ_eq_append_getElem hk, List.foldl_append]
  rfl
theorem ic_inc {x : List Nat} {i : Nat} (v : Int) (e : v = (x.getD i 0 + 1 : Nat)) : (ic (x.map Int.ofNat)).setIfInBounds i (.int .i64 v) = ic ((inc x i).map Int.ofNat) := by
  rw [ic_set, e, inc, List.map_set]
  rfl
theorem ic_nat {x : List Nat} {i : Nat} (h : i < x.length) : (ic (x.map Int.ofNat))[i]? = some (.int .i64 (x.getD i 0 : Nat)) := by
  rw [ic_get (by simpa using h)]
  simp [List.getD_eq_getElem?_getD, h]
theorem OwnK.putNe {α : Type} {e : Enc α} {E : TypeId} {w : World} {B g i : Nat} {v u : Value} {xs : List α} (hg : v.ownBlock ≠ some g) (h : OwnK e E w B v xs) : OwnK e E (w.setCell ⟨g, i, none⟩ u) B v xs :=
  h.same fun k hk => Below.heap_setCell _ _ _ _ (fun (e : k = g) => hg (by rw [hk, e]))
/-- What the closure leaves: the list with one row more. -/
def GivesAdd (go B : Nat) (v : Value) (css : List (List Nat)) (W w : World) (e : Ending) (w' : World) : Prop :=
  ∃ v' vs', e = .returned (.tuple #[]) ∧ Blk w' go 38 #[v'] ∧ OwnK encV 25 w' B v' vs' ∧ RowS w' B vs' css ∧ Below W.heap.size W w' ∧ w.heap.size ≤ w'.heap.size ∧ ∀ k, k < w.heap.size → k ≠ go → v.ownBlock ≠ some k → w'.heap[k]? = w.heap[k]?
set_option maxRecDepth 8000 in
set_option maxHeartbeats 2000000 in
theorem add_any (gs go g c : Nat) (N : Nat) (sa : Option Addr) (sc : Nat) (v : Value) (vs : List Sl) (css : List (List Nat)) (is : List Nat) (B : Nat) (W w : World)
    (hs : w.cell? ⟨gs, 0, none⟩ = some (.slice sa N sc)) (Bo : Blk w go 38 #[v]) (O : OwnK encV 25 w B v vs) (R : RowS w B vs css) (Bg : Blk w g 2 (ic (is.map Int.ofNat)))
    (hB : B ≤ w.heap.size) (hW : W.heap.size ≤ go) (hWB : W.heap.size ≤ B) (kB : Below W.heap.size W w) (hN : N ≤ 1000) (hi : ∀ i ∈ is, i < N) (hil : is.length ≤ 3) (hv : vs.length ≤ 1000) :
    Calls Try.prog 70 #[.slice (some ⟨g, 0, none⟩) is.length c, .pointer (some ⟨gs, 0, none⟩), .pointer (some ⟨go, 0, none⟩)] w (GivesAdd go B v (css ++ [incs N is]) W w) := by
  obtain ⟨vo, vc, rfl⟩ := O.len
  have HINF := Lib.hid (info_parts infoSl)
  have hmk := run_make_row' (P := Try.prog) 25 2 (.int .i64 0) 8 Try.underlying25 infoI rfl .i64 .i64 N (by omega) (by omega)
  go_enter Try.func70, Try.ntmps70
  go_wp2_with fail
  refine forget (fun W_ => Blk W_ w.heap.size 2 (ic ((incs N (is.take 0)).map Int.ofNat)) ∧ Below w.heap.size w W_) ⟨by rw [show ic ((incs N (is.take 0)).map Int.ofNat) = madeCells #[Value.int .i64 0] N by rw [made_ic]; simp [incs]]; exact (by repeat (first | (with_reducible assumption) | ((with_reducible refine Blk.new ?_); · first | omega | (simp; done) | (simp; omega)) | (with_reducible apply Blk.set4) | (with_reducible apply Blk.set3) | (with_reducible apply Blk.set2) | ((with_reducible refine Blk.put ?_ ?_); · first | omega | (simp; omega)) | (with_reducible refine Blk.old ?_) | (with_reducible refine Blk.drew ?_) | (with_reducible refine Blk.drewN ?_) | ((with_reducible refine Blk.below hb ?_ ?_); · first | omega | (simp; done) | (simp; omega)))), (by repeat (first | (with_reducible exact Below.refl _ _) | (with_reducible assumption) | (with_reducible refine Below.drew ?_) | (with_reducible refine Below.drewN ?_) | ((with_reducible refine Below.al ?_ ?_); · first | omega | (simp; done) | (simp; omega)) | ((with_reducible refine Below.sc ?_ ?_); · first | omega | (simp; done) | (simp; omega)) | ((with_reducible refine Below.thru hb ?_ ?_); · first | omega | (simp; done) | (simp; omega))))⟩ ?_
  rintro w0 ⟨Bx, k0⟩
  have HW := Lib.hid (And.intro Bo (And.intro O (And.intro R (And.intro Bg (And.intro kB hs)))))
  clear Bo O R Bg kB hs
  go_loopw [12] (fun i wr => ∃ k : Nat, k ≤ is.length ∧ i = .int .i64 k ∧ Blk wr w.heap.size 2 (ic ((incs N (is.take k)).map Int.ofNat)) ∧ Below w.heap.size w wr) (fun i _ => is.length - (intOf i).toNat)
  case atStart => exact ⟨0, Nat.zero_le _, rfl, Bx, k0⟩
  case round =>
    clear Bx k0
    obtain ⟨k, hk, rfl, Bx, kwr⟩ := hrel
    have swr := kwr.size
    have lBx := Bx.lt
    by_cases hlt : k < is.length
    · have hin := hi is[k] (List.getElem_mem hlt)
      have cg := (HW.out.2.2.2.1.below kwr HW.out.2.2.2.1.lt).at (ic_nat hlt)
      have eg : is.getD k 0 = is[k] := by simp [List.getD_eq_getElem?_getD, hlt]
      rw [eg] at cg
      have hle := incs_le N (is.take k) is[k]
      have htl : (is.take k).length ≤ 3 := by rw [List.length_take]; omega
      have HS := Lib.hid (incs_snoc N is k hlt)
      have cx := Bx.at (ic_nat (x := incs N (is.take k)) (i := is[k]) (by rw [incs_len]; exact hin))
      have fx := Bx.free is[k]
      generalize is[k] = q at *
      obtain ⟨y, hy⟩ : ∃ y, (incs N (is.take k)).getD q 0 = y := ⟨_, rfl⟩
      rw [hy] at cx hle
      have HY := Lib.hid hy
      have HN := Lib.hid hin
      clear hy hin
      have i0 : (0 : Int) ≤ (k : Int) := by omega
      have i1 : (k : Int) < (is.length : Int) := by omega
      have i2 : (0 : Int) ≤ (q : Int) := by omega
      have i3 : (q : Int) < (N : Int) := by have := HN.out; omega
      have H := Lib.hid (And.intro Bx kwr)
      clear Bx kwr eg
      go_wp2
      go_roundw
      case rel => exact ⟨k + 1, by omega, by go_num, by rw [HS.out, ← ic_inc (y + 1 : Nat) (by rw [HY.out])]; exact Blk.drew (Blk.set H.out.1), (by have kk := H.out.2; exact (by repeat (first | (with_reducible exact Below.refl _ _) | (with_reducible assumption) | (with_reducible refine Below.drew ?_) | (with_reducible refine Below.drewN ?_) | ((with_reducible refine Below.al ?_ ?_); · first | omega | (simp; done) | (simp; omega)) | ((with_reducible refine Below.sc ?_ ?_); · first | omega | (simp; done) | (simp; omega)) | ((with_reducible refine Below.thru hb ?_ ?_); · first | omega | (simp; done) | (simp; omega)))))⟩
      case measure => first | (simp [intOf]; done) | (simp [intOf]; omega)
    · obtain rfl : k = is.length := by omega
      rw [List.take_length] at Bx
      have Bo := HW.out.1.below kwr HW.out.1.lt
      have co := Bo.at (i := 0) rfl
      have fo := Bo.free 0
      have lBo := Bo.lt
      have O := HW.out.2.1.below kwr
      have R := HW.out.2.2.1.below kwr
      have hrows := Lib.hid (show ∀ t ∈ vs, ∀ g, t.v.ownBlock = some g → g < w.heap.size from fun t ht g hg => (HW.out.2.2.1.lt t ht g hg).2)
      have OX : Own wr B (.slice (some ⟨w.heap.size, 0, none⟩) N N) ((incs N is).map Int.ofNat) := by
        have := Own.of_ic (B := B) Bx hB (by rw [List.length_map, incs_len]; unfold maxLen; omega)
        rwa [List.length_map, incs_len] at this
      obtain ⟨jS, hinf⟩ := HINF.out
      replace hinf := Lib.hid hinf
      have H := Lib.hid (And.intro Bo (And.intro O (And.intro R (And.intro OX kwr))))
      have LBO := Lib.hid lBo
      clear Bo O R OX kwr Bx
      go_wp2_with (at_builtin; refine wpList_app encV rfl _ _ 38 25 24 rfl Try.underlying38 jS _ hinf.out.1 hinf.out.2.1 hinf.out.2.2.1 hinf.out.2.2.2 rfl (.slice vo vs.length vc) vs B wr.heap.size 1 #[.slice (some ⟨w.heap.size, 0, none⟩) N N] [⟨some ⟨w.heap.size, 0, none⟩, N, N⟩] rfl ?o1 rfl ?b1 rfl ?l1 ?l2 (by first | omega | (simp; done) | (simp; omega)) ?_)
      case o1 =>
        have O1 := H.out.2.1
        exact (by repeat (first | (with_reducible assumption) | (with_reducible refine Own.drew ?_) | (with_reducible refine Own.drewN ?_) | (with_reducible refine Own.alloc ?_) | (with_reducible refine OwnK.drew ?_) | (with_reducible refine OwnK.drewN ?_) | (with_reducible refine OwnK.alloc ?_) | ((with_reducible refine OwnK.put ?_ ?_); · first | omega | (simp; done) | (simp; omega)) | ((with_reducible refine Own.below hb ?_)) | ((with_reducible refine OwnK.below hb ?_))))
      case b1 => exact Blk.new (by simp)
      case l1 => (try simp only [List.length_cons, List.length_nil]); unfold maxLen; omega
      case l2 => (try simp only [List.length_cons, List.length_nil]); omega
      intro v' w4 O4 hg
      have hgz := hg.size
      have O1 := H.out.2.1
      have Bo4 : Blk w4 go 38 #[.slice vo vs.length vc] := Blk.grownN hg (O1.ne_blk H.out.1 (by decide)) (Blk.old H.out.1)
      have kB := HW.out.2.2.2.2.1
      have hWs := kB.size
      have kw4 : Below W.heap.size W w4 := Below.grownK hg (e := encV) (E := 25) (B := B) (xs := vs) (by repeat (first | (with_reducible assumption) | (with_reducible refine Own.drew ?_) | (with_reducible refine Own.drewN ?_) | (with_reducible refine Own.alloc ?_) | (with_reducible refine OwnK.drew ?_) | (with_reducible refine OwnK.drewN ?_) | (with_reducible refine OwnK.alloc ?_) | ((with_reducible refine OwnK.put ?_ ?_); · first | omega | (simp; done) | (simp; omega)) | ((with_reducible refine Own.below hb ?_)) | ((with_reducible refine OwnK.below hb ?_)))) (by omega) (by simp; omega) ((kB.trans (H.out.2.2.2.2.mono hWs)).alloc (by omega) _)
      have R4 : RowS w4 B (vs ++ [⟨some ⟨w.heap.size, 0, none⟩, N, N⟩]) (css ++ [incs N is]) := by
        refine RowS.grown hg (e := encV) (E := 25) (B' := B) (xs := vs) (by repeat (first | (with_reducible assumption) | (with_reducible refine Own.drew ?_) | (with_reducible refine Own.drewN ?_) | (with_reducible refine Own.alloc ?_) | (with_reducible refine OwnK.drew ?_) | (with_reducible refine OwnK.drewN ?_) | (with_reducible refine OwnK.alloc ?_) | ((with_reducible refine OwnK.put ?_ ?_); · first | omega | (simp; done) | (simp; omega)) | ((with_reducible refine Own.below hb ?_)) | ((with_reducible refine OwnK.below hb ?_)))) (by decide) ((RowS.snoc (s := ⟨some ⟨w.heap.size, 0, none⟩, N, N⟩) H.out.2.2.2.1 H.out.2.2.1 (fun t ht g hg e => ?_)).below ((Below.refl _ _).alloc (Nat.le_refl _) _))
        have h1 := hrows.out t ht g hg
        have h2 : w.heap.size = g := by simpa [Value.ownBlock] using e
        omega
      have K4 : ∀ k, k < w.heap.size → k ≠ go → (Value.slice vo vs.length vc).ownBlock ≠ some k → w4.heap[k]? = w.heap[k]? := by
        intro k hk _ hne
        rw [hg.block k (by simp; omega) (fun e => hne e.symm), ((Below.refl wr.heap.size wr).alloc (Nat.le_refl _) _).block k (by omega)]
        exact H.out.2.2.2.2.block k hk
      obtain ⟨uo, uc, rfl⟩ := O4.len
      have co4 := Bo4.at (i := 0) rfl
      have fo4 := Bo4.free 0
      have H4 := Lib.hid (And.intro Bo4 (And.intro O4 (And.intro R4 (And.intro kw4 K4))))
      have kw5 := kw4
      clear Bo4 O4 R4 kw4 K4 hg O1 H kB
      go_wp2
      go_end0
      have n4 := H4.out.2.1.ne_blk H4.out.1 (by decide)
      have r4 := RowS.ne_blk H4.out.1 (by decide) H4.out.2.2.1
      rw [List.length_append] at H4 n4
      refine ⟨.slice uo (vs.length + 1) uc, vs ++ [⟨some ⟨w.heap.size, 0, none⟩, N, N⟩], rfl, Blk.set H4.out.1, OwnK.putNe n4 H4.out.2.1, RowS.put r4 H4.out.2.2.1, (by repeat (first | (with_reducible exact Below.refl _ _) | (with_reducible assumption) | (with_reducible refine Below.drew ?_) | (with_reducible refine Below.drewN ?_) | ((with_reducible refine Below.al ?_ ?_); · first | omega | (simp; done) | (simp; omega)) | ((with_reducible refine Below.sc ?_ ?_); · first | omega | (simp; done) | (simp; omega)) | ((with_reducible refine Below.thru hb ?_ ?_); · first | omega | (simp; done) | (simp; omega)))), by simp [World.setCell] at hgz ⊢; omega, fun k hk hkg hne => ?_⟩
      · rw [Below.heap_setCell _ _ _ _ hkg]
        exact H4.out.2.2.2.2 k hk hkg hne

end Go.Proofs.Ytjjbaebddkejnaa

/- The program's relations. -/
namespace Go.Proofs.Ytjjbaebddkejnaa
open Go.RowKit
set_option linter.unusedSimpArgs false

set_option maxRecDepth 8000 in
set_option maxHeartbeats 4000000 in
theorem relations_any (n : Nat) (w : World) (hn : 1 ≤ n ∧ n ≤ 60) (hl : (lineL n).length ≤ 72) :
    Calls Try.prog 47 #[.int .i64 (n : Int)] w (GivesSS (relL n) w) := by
  have hmf : ∀ (fn : Fn) (first cap : Array Value) (w : World), (Instr.makeFunc fn first cap).run Try.prog w = .ok (.func fn first cap) w := fun _ _ _ _ => rfl
  have HM1 := Lib.hid (fun w' : World => moved_any n mS w' hn (by decide))
  have HM2 := Lib.hid (fun w' : World => moved_any n mU w' hn (by decide))
  rw [movS hn] at HM1
  rw [movU hn] at HM2
  obtain ⟨GF, hGF⟩ : ∃ GF, GivesSS (relL n) w = GF := ⟨_, rfl⟩
  rw [hGF]
  have HGF := Lib.hid hGF
  obtain ⟨N, hNe⟩ : ∃ N, (lineL n).length = N := ⟨_, rfl⟩
  rw [hNe] at HM1 HM2 hl
  obtain ⟨X, hX⟩ : ∃ X, (List.range N).map (fun i => (sI n i : Int)) = X := ⟨_, rfl⟩
  obtain ⟨Y, hY⟩ : ∃ Y, (List.range N).map (fun i => (uI n i : Int)) = Y := ⟨_, rfl⟩
  rw [hX] at HM1
  rw [hY] at HM2
  have HC := Lib.hid (show relL n = twoL n N ++ threeL n N by rw [← hNe]; rfl)
  have HT := Lib.hid (show ∀ k, twoL n (k + 1) = twoL n k ++ [incs N [k, sI n k]] by intro k; rw [twoL_succ, two, hNe])
  have HU := Lib.hid (show ∀ k, threeL n (k + 1) = threeL n k ++ [incs N [k, uI n k, vI n k]] by intro k; rw [threeL_succ, three, hNe])
  have HTL := Lib.hid (show ∀ k, (twoL n k).length = k by intro k; simp [twoL])
  have HUL := Lib.hid (show ∀ k, (threeL n k).length = k by intro k; simp [threeL])
  have HT0 := Lib.hid (show twoL n 0 = [] from rfl)
  have HU0 := Lib.hid (show threeL n 0 = [] from rfl)
  have HXA := Lib.hid (show ∀ k, k < N → X[k]? = some (sI n k : Int) by intro k hk; rw [← hX]; simp [hk])
  have HYA := Lib.hid (show ∀ k, k < N → Y[k]? = some (uI n k : Int) by intro k hk; rw [← hY]; simp [hk])
  have HSL := Lib.hid (show ∀ k, k < N → sI n k < N by intro k hk; rw [← hNe] at hk ⊢; exact sI_lt hn hk)
  have HUI := Lib.hid (show ∀ k, k < N → uI n k < N by intro k hk; rw [← hNe] at hk ⊢; exact uI_lt hn hk)
  have HVI := Lib.hid (show ∀ k, k < N → vI n k < N by intro k hk; rw [← hNe] at hk ⊢; exact vI_lt hn hk)
  have HUU := Lib.hid (show ∀ k, k < N → uI n (uI n k) = vI n k by intro k hk; rw [← hNe] at hk; exact uu_vI hn hk)
  rw [HC.out] at HGF
  generalize twoL n = TT at *
  generalize threeL n = UU at *
  generalize sI n = sF at *
  generalize uI n = uF at *
  generalize vI n = vF at *
  clear HC
  have HX := Lib.hid hX
  have HY := Lib.hid hY
  have HXL := Lib.hid (show X.length = N by rw [← hX]; simp)
  have HYL := Lib.hid (show Y.length = N by rw [← hY]; simp)
  have HNE := Lib.hid hNe
  have HN := Lib.hid hn
  clear hGF hn hX hY hNe HX HY HNE HN
  go_enter Try.func47, Try.ntmps47
  go_wp2_with fail
  refine (HM1.out _).mono ?_
  rintro e w1 ⟨u, rfl, O1, k1⟩
  obtain ⟨so, sc, hu, -⟩ := O1.slIn.form
  rw [HXL.out] at hu
  subst hu
  have s1 := k1.size
  have HO1 := Lib.hid O1
  clear O1
  go_wp2_with fail
  refine (HM2.out _).mono ?_
  rintro e w2 ⟨u, rfl, O2, k2⟩
  obtain ⟨uo, uc, hu, -⟩ := O2.slIn.form
  rw [HYL.out] at hu
  subst hu
  have s2 := k2.size
  have HO2 := Lib.hid O2
  clear O2
  go_wp2_with fail
  obtain ⟨m, hm⟩ : ∃ m, w2.heap.size = m := ⟨_, rfl⟩
  have hmw : w.heap.size ≤ m := by omega
  have k12 := k1.trans (k2.mono s1)
  clear k1
  refine forget (fun W_ => Blk W_ m 25 #[.slice so N sc] ∧ Blk W_ (m + 1 + 1) 38 #[.slice (some ⟨m + 1, 0, none⟩) 0 0] ∧ OwnK encV 25 W_ (m + 1) (.slice (some ⟨m + 1, 0, none⟩) 0 0) [] ∧ Own W_ w.heap.size (.slice so N sc) X ∧ Own W_ w.heap.size (.slice uo N uc) Y ∧ Below w.heap.size w W_ ∧ m + 3 ≤ W_.heap.size ∧ (∀ g, (Value.slice so N sc).ownBlock = some g → g < m) ∧ (∀ g, (Value.slice uo N uc).ownBlock = some g → g < m)) ?_ ?_
  · subst hm
    refine ⟨(by repeat (first | (with_reducible assumption) | ((with_reducible refine Blk.new ?_); · first | omega | (simp; done) | (simp; omega)) | (with_reducible apply Blk.set4) | (with_reducible apply Blk.set3) | (with_reducible apply Blk.set2) | ((with_reducible refine Blk.put ?_ ?_); · first | omega | (simp; omega)) | (with_reducible refine Blk.old ?_) | (with_reducible refine Blk.drew ?_) | (with_reducible refine Blk.drewN ?_) | ((with_reducible refine Blk.below hb ?_ ?_); · first | omega | (simp; done) | (simp; omega)))), (by repeat (first | (with_reducible assumption) | ((with_reducible refine Blk.new ?_); · first | omega | (simp; done) | (simp; omega)) | (with_reducible apply Blk.set4) | (with_reducible apply Blk.set3) | (with_reducible apply Blk.set2) | ((with_reducible refine Blk.put ?_ ?_); · first | omega | (simp; omega)) | (with_reducible refine Blk.old ?_) | (with_reducible refine Blk.drew ?_) | (with_reducible refine Blk.drewN ?_) | ((with_reducible refine Blk.below hb ?_ ?_); · first | omega | (simp; done) | (simp; omega)))), OwnK.of_blk (xs := []) (by repeat (first | (with_reducible assumption) | ((with_reducible refine Blk.new ?_); · first | omega | (simp; done) | (simp; omega)) | (with_reducible apply Blk.set4) | (with_reducible apply Blk.set3) | (with_reducible apply Blk.set2) | ((with_reducible refine Blk.put ?_ ?_); · first | omega | (simp; omega)) | (with_reducible refine Blk.old ?_) | (with_reducible refine Blk.drew ?_) | (with_reducible refine Blk.drewN ?_) | ((with_reducible refine Blk.below hb ?_ ?_); · first | omega | (simp; done) | (simp; omega)))) (Nat.le_refl _) rfl (by simp [maxLen]), ?_, ?_, (by repeat (first | (with_reducible exact Below.refl _ _) | (with_reducible assumption) | (with_reducible refine Below.drew ?_) | (with_reducible refine Below.drewN ?_) | ((with_reducible refine Below.al ?_ ?_); · first | omega | (simp; done) | (simp; omega)) | ((with_reducible refine Below.sc ?_ ?_); · first | omega | (simp; done) | (simp; omega)) | ((with_reducible refine Below.thru hb ?_ ?_); · first | omega | (simp; done) | (simp; omega)))), by simp, fun g hg => ?_, fun g hg => ?_⟩
    · exact ((HO1.out.below k2).below (Below.refl _ _)).below (by exact (((Below.refl w2.heap.size w2).alloc (Nat.le_refl _) _).alloc (by simp) _).alloc (by simp; omega) _)
    · exact (HO2.out.mono s1).below (by exact (((Below.refl w2.heap.size w2).alloc (Nat.le_refl _) _).alloc (by simp) _).alloc (by simp; omega) _)
    · have := (HO1.out.lt hg).2; omega
    · exact (HO2.out.lt hg).2
  clear k12 HO1 HO2 HM1 HM2 s1 s2
  rintro w0 ⟨Bs, Bo, O, OX, OY, k0, m0, nX, nY⟩
  rw [hm]
  clear hm k2
  have HNX := Lib.hid nX
  have HNY := Lib.hid nY
  clear nX nY
  go_loopw [21] (fun i wr => ∃ (k : Nat) (v : Value) (vs : List Sl), k ≤ N ∧ i = .int .i64 k ∧ Blk wr m 25 #[.slice so N sc] ∧ Blk wr (m + 1 + 1) 38 #[v] ∧ OwnK encV 25 wr (m + 1) v vs ∧ RowS wr (m + 1) vs (TT k) ∧ Own wr w.heap.size (.slice so N sc) X ∧ Own wr w.heap.size (.slice uo N uc) Y ∧ Below w.heap.size w wr ∧ m + 3 ≤ wr.heap.size) (fun i _ => N - (intOf i).toNat)
  case atStart => exact ⟨0, _, [], Nat.zero_le _, rfl, Bs, Bo, O, by rw [HT0.out]; trivial, OX, OY, k0, m0⟩
  case round =>
    clear Bs Bo O OX OY k0 m0
    obtain ⟨k, v, vs, hk, rfl, Bs, Bo, O, R, OX, OY, kwr, mwr⟩ := hrel
    have hvl := R.len
    rw [HTL.out] at hvl
    by_cases hlt : k < N
    · have hXk := HXA.out k hlt
      rcases OX.toK.form with ⟨h1, h2⟩ | ⟨gx, cx, h1, hgx, hgx2, -⟩
      · rw [h2] at hXk; cases hXk
      rw [HXL.out] at h1
      cases h1
      have cX := OX.at rfl hXk
      have hsl := HSL.out k hlt
      have i0 : (0 : Int) ≤ (k : Int) := by omega
      have i1 : (k : Int) < (N : Int) := by omega
      have HTk := Lib.hid (HT.out k)
      have HVL := Lib.hid hvl
      generalize sF k = q at *
      have H := Lib.hid (And.intro Bs (And.intro Bo (And.intro O (And.intro R (And.intro OX (And.intro OY kwr))))))
      have kz := kwr.size
      clear Bs Bo O R OX OY kwr hXk hvl
      go_wp2_with fail
      refine (add_any m (m + 1 + 1) wr.heap.size 2 N (some ⟨gx, 0, none⟩) sc v vs (TT k) [k, q] (m + 1) w _ ((Blk.old H.out.1).at (i := 0) rfl) (Blk.old H.out.2.1) H.out.2.2.1.alloc (H.out.2.2.2.1.below ((Below.refl wr.heap.size wr).alloc (Nat.le_refl _) _)) (Blk.new rfl) (by simp; omega) (by omega) (by omega) (H.out.2.2.2.2.2.2.alloc kz _) (by omega) (fun i hi => by simp at hi; omega) (by simp) (by have := HVL.out; omega)).mono ?_
      rintro e w4 ⟨v', vs', rfl, Bo4, O4, R4, kw4, z4, K4⟩
      have z4' : wr.heap.size + 1 ≤ w4.heap.size := by simpa using z4
      have KX : ∀ g, g < m + 1 → w4.heap[g]? = wr.heap[g]? := fun g hg => (K4 g (by simp; omega) (by omega) (fun e => by have := (H.out.2.2.1.lt e).1; omega)).trans (((Below.refl wr.heap.size wr).alloc (Nat.le_refl _) _).block g (by omega))
      have Bs4 : Blk w4 m 25 #[.slice (some ⟨gx, 0, none⟩) N sc] := (KX m (by omega)).trans H.out.1
      have OX4 : Own w4 w.heap.size (.slice (some ⟨gx, 0, none⟩) N sc) X := H.out.2.2.2.2.1.same fun g hg => KX g (by have := HNX.out g hg; omega)
      have OY4 : Own w4 w.heap.size (.slice uo N uc) Y := H.out.2.2.2.2.2.1.same fun g hg => KX g (by have := HNY.out g hg; omega)
      clear K4 KX z4 H
      rw [← HTk.out] at R4
      go_wp2
      go_roundw
      case rel => exact ⟨k + 1, v', vs', by omega, by go_num, Bs4, Bo4, O4, R4, OX4, OY4, kw4, by omega⟩
      case measure => first | (simp [intOf]; done) | (simp [intOf]; omega)
    · obtain rfl : N = k := by omega
      clear hlt hvl
      go_wp2_with fail
      go_loopw [34] (fun i wr => ∃ (k : Nat) (v : Value) (vs : List Sl), k ≤ N ∧ i = .int .i64 k ∧ Blk wr m 25 #[.slice so N sc] ∧ Blk wr (m + 1 + 1) 38 #[v] ∧ OwnK encV 25 wr (m + 1) v vs ∧ RowS wr (m + 1) vs (TT N ++ UU k) ∧ Own wr w.heap.size (.slice so N sc) X ∧ Own wr w.heap.size (.slice uo N uc) Y ∧ Below w.heap.size w wr ∧ m + 3 ≤ wr.heap.size) (fun i _ => N - (intOf i).toNat)
      case atStart => exact ⟨0, v, vs, Nat.zero_le _, rfl, Bs, Bo, O, by rw [HU0.out, List.append_nil]; exact R, OX, OY, kwr, mwr⟩
      case round =>
        clear Bs Bo O R OX OY kwr mwr
        obtain ⟨k, v, vs, hk, rfl, Bs, Bo, O, R, OX, OY, kwr, mwr⟩ := hrel
        have hvl := R.len
        rw [List.length_append, HTL.out, HUL.out] at hvl
        by_cases hlt : k < N
        · have hYk := HYA.out k hlt
          rcases OY.toK.form with ⟨h1, h2⟩ | ⟨gx, cx, h1, hgx, hgx2, -⟩
          · rw [h2] at hYk; cases hYk
          rw [HYL.out] at h1
          cases h1
          have cX := OY.at rfl hYk
          have hsl := HUI.out k hlt
          have hvk := HVI.out k hlt
          have hYq := HYA.out (uF k) hsl
          rw [HUU.out k hlt] at hYq
          have cY := OY.at rfl hYq
          have i0 : (0 : Int) ≤ (k : Int) := by omega
          have i1 : (k : Int) < (N : Int) := by omega
          have HTk := Lib.hid (HU.out k)
          have HVL := Lib.hid hvl
          generalize uF k = q at *
          generalize vF k = t at *
          have i2 : (0 : Int) ≤ (q : Int) := by omega
          have i3 : (q : Int) < (N : Int) := by omega
          have kz := kwr.size
          have H := Lib.hid (And.intro Bs (And.intro Bo (And.intro O (And.intro R (And.intro OX (And.intro OY kwr))))))
          clear Bs Bo O R OX OY kwr hYk hYq hvl
          go_wp2_with fail
          refine (add_any m (m + 1 + 1) wr.heap.size 3 N so sc v vs (TT N ++ UU k) [k, q, t] (m + 1) w _ ((Blk.old H.out.1).at (i := 0) rfl) (Blk.old H.out.2.1) H.out.2.2.1.alloc (H.out.2.2.2.1.below ((Below.refl wr.heap.size wr).alloc (Nat.le_refl _) _)) (Blk.new rfl) (by simp; omega) (by omega) (by omega) (H.out.2.2.2.2.2.2.alloc kz _) (by omega) (fun i hi => by simp at hi; omega) (by simp) (by have := HVL.out; omega)).mono ?_
          rintro e w4 ⟨v', vs', rfl, Bo4, O4, R4, kw4, z4, K4⟩
          have z4' : wr.heap.size + 1 ≤ w4.heap.size := by simpa using z4
          have KX : ∀ g, g < m + 1 → w4.heap[g]? = wr.heap[g]? := fun g hg => (K4 g (by simp; omega) (by omega) (fun e => by have := (H.out.2.2.1.lt e).1; omega)).trans (((Below.refl wr.heap.size wr).alloc (Nat.le_refl _) _).block g (by omega))
          have Bs4 : Blk w4 m 25 #[.slice so N sc] := (KX m (by omega)).trans H.out.1
          have OX4 : Own w4 w.heap.size (.slice so N sc) X := H.out.2.2.2.2.1.same fun g hg => KX g (by have := HNX.out g hg; omega)
          have OY4 : Own w4 w.heap.size (.slice (some ⟨gx, 0, none⟩) N uc) Y := H.out.2.2.2.2.2.1.same fun g hg => KX g (by have := HNY.out g hg; omega)
          clear K4 KX z4 H
          rw [List.append_assoc, ← HTk.out] at R4
          go_wp2
          go_roundw
          case rel => exact ⟨k + 1, v', vs', by omega, by go_num, Bs4, Bo4, O4, R4, OX4, OY4, kw4, by omega⟩
          case measure => first | (simp [intOf]; done) | (simp [intOf]; omega)
        · obtain rfl : N = k := by omega
          clear hlt hvl
          have bo := Bo.at (i := 0) rfl
          obtain ⟨ro, rc, rfl⟩ := O.len
          go_wp2
          rw [← HGF.out]
          exact ⟨_, vs, rfl, O.mono (by omega), R.mono (by omega), kwr⟩

end Go.Proofs.Ytjjbaebddkejnaa
