/- Slices of slices in the laws: compared, marked, held. -/
import Derived.Test.YtamkbgodenkboaaSS
namespace Go.Proofs.Ytamkbgodenkboaa
open Go.RowKit

theorem RowS.get {w : World} {B : Nat} : ∀ {vs : List Sl} {cs : List (List Nat)}, RowS w B vs cs → ∀ j (h1 : j < vs.length) (h2 : j < cs.length), Own w B vs[j].v (cs[j].map Int.ofNat)
  | [], [], _ => fun j h => absurd h (by simp)
  | _ :: _, _ :: _, h => fun j h1 h2 => by
    cases j with
    | zero => exact h.1
    | succ j => exact RowS.get h.2.2 j (by simpa using h1) (by simpa using h2)
  | [], _ :: _, h => h.elim
  | _ :: _, [], h => h.elim
theorem encV_at {E : TypeId} {w : World} {B g n c j : Nat} {vs : List Sl} (h : OwnK encV E w B (.slice (some ⟨g, 0, none⟩) n c) vs) (hj : j < vs.length) : w.cell? ⟨g, j, none⟩ = some vs[j].v := by
  have := h.at (j := j) (i := 0) (x := vs[j]) (u := vs[j].v) rfl (List.getElem?_eq_getElem hj) rfl
  simpa [encV] using this
/-- One row changed. -/
theorem RowS.set {w w' : World} {B : Nat} {c' : List Nat} : ∀ {vs : List Sl} {cs : List (List Nat)} (j : Nat) (hj : j < vs.length), RowS w B vs cs → Own w' B vs[j].v (c'.map Int.ofNat) → w.grownBy w' vs[j].v.ownBlock → RowS w' B vs (cs.set j c')
  | [], [], j, hj, _, _, _ => absurd hj (by simp)
  | a :: vs, c :: cs, j, hj, h, hO, hg => by
    cases j with
    | zero =>
      exact ⟨hO, h.2.1, h.2.2.same fun t ht g hgt => hg.block g (h.2.2.lt t ht g hgt).2 fun e => h.2.1 t ht g e.symm hgt⟩
    | succ j =>
      have hj' : j < vs.length := by simpa using hj
      refine ⟨h.1.same fun g hga => hg.block g (h.1.lt hga).2 fun e => ?_, h.2.1, RowS.set j hj' h.2.2 hO hg⟩
      exact h.2.1 vs[j] (List.getElem_mem hj') g hga e.symm
  | [], _ :: _, _, _, h, _, _ => h.elim
  | _ :: _, [], _, _, h, _, _ => h.elim

/-- n numbers from k on. -/
def runN (k n : Nat) : List Nat := (List.range n).map (k + ·)
theorem runN_map (k n : Nat) : (runN k n).map Int.ofNat = runOf (k : Int) n := by
  unfold runN runOf
  rw [List.map_map]
  apply List.map_congr_left
  intro a _
  simp
theorem runN_len (k n : Nat) : (runN k n).length = n := by simp [runN]
/-- The number with which row j begins. -/
def offN (css : List (List Nat)) (k : Nat) : Nat → Nat
  | 0 => k
  | j + 1 => offN css k j + (css.getD j []).length
/-- The first j rows marked. -/
def mkS (css : List (List Nat)) (k : Nat) : Nat → List (List Nat)
  | 0 => css
  | j + 1 => (mkS css k j).set j (runN (offN css k j) (css.getD j []).length)
theorem mkS_len (css : List (List Nat)) (k j : Nat) : (mkS css k j).length = css.length := by
  induction j with
  | zero => rfl
  | succ j ih => simp [mkS, ih]
theorem mkS_get {css : List (List Nat)} {k : Nat} (m i : Nat) (hi : i < css.length) : (mkS css k m)[i]? = some (if i < m then runN (offN css k i) (css.getD i []).length else css.getD i []) := by
  induction m with
  | zero => simp [mkS, List.getD, hi]
  | succ m ih =>
    simp only [mkS, List.getElem?_set, mkS_len]
    by_cases e : m = i
    · subst e
      simp [hi]
    · rw [if_neg e, ih]
      by_cases h : i < m
      · rw [if_pos h, if_pos (by omega)]
      · rw [if_neg h, if_neg (by omega)]
theorem offN_le {css : List (List Nat)} (h : ∀ c ∈ css, c.length ≤ 72) (k j : Nat) : offN css k j ≤ k + 72 * j := by
  induction j with
  | zero => simp [offN]
  | succ j ih =>
    have : (css.getD j []).length ≤ 72 := by
      rw [List.getD]
      cases e : css[j]? with
      | none => simp
      | some c => exact h c (List.mem_of_getElem? e)
    simp only [offN]
    omega
theorem getD_le {css : List (List Nat)} (h : ∀ c ∈ css, c.length ≤ 72) (j : Nat) : (css.getD j []).length ≤ 72 := by
  rw [List.getD]
  cases e : css[j]? with
  | none => simp
  | some c => exact h c (List.mem_of_getElem? e)
/-- A slice of rows of the call's own. -/
def OwnSS (w : World) (B : Nat) (v : Value) (vs : List Sl) (css : List (List Nat)) : Prop := OwnK encV 22 w B v vs ∧ RowS w B vs css
theorem OwnSS.below {w w' : World} {B : Nat} {v : Value} {vs : List Sl} {css : List (List Nat)} (h : OwnSS w B v vs css) (hb : Below w.heap.size w w') : OwnSS w' B v vs css := ⟨h.1.below hb, h.2.below hb⟩
theorem OwnSS.mono {w : World} {B B' : Nat} {v : Value} {vs : List Sl} {css : List (List Nat)} (h : OwnSS w B v vs css) (hB : B' ≤ B) : OwnSS w B' v vs css := ⟨h.1.mono hB, h.2.mono hB⟩
/-- Row j, ready to be read. -/
theorem OwnSS.row {w : World} {B : Nat} {v : Value} {vs : List Sl} {css : List (List Nat)} (h : OwnSS w B v vs css) {j : Nat} (hj : j < css.length) :
    ∃ g c s, v = .slice (some ⟨g, 0, none⟩) css.length c ∧ w.cell? ⟨g, j, none⟩ = some s ∧ Own w B s ((css.getD j []).map Int.ofNat) ∧ vs[j]?.map Sl.v = some s := by
  have hl := h.2.len
  have hj' : j < vs.length := by omega
  rcases h.1.form with ⟨rfl, e⟩ | ⟨g, cap, rfl, _, _, _, _, _⟩
  · subst e; exact absurd hj' (by simp)
  · refine ⟨g, cap, vs[j].v, by rw [hl], encV_at h.1 hj', ?_, by rw [List.getElem?_eq_getElem hj']; rfl⟩
    have := h.2.get j hj' hj
    rwa [List.getD, List.getElem?_eq_getElem hj]

set_option maxRecDepth 8000 in
set_option maxHeartbeats 1000000 in
theorem eqInt64SS_same (v u : Value) (vs us : List Sl) (css : List (List Nat)) (B B' : Nat) (w : World) (h : OwnSS w B v vs css) (k : OwnSS w B' u us css) (hl : css.length ≤ 72) (hc : ∀ c ∈ css, c.length ≤ 72) :
    Calls Try.prog 42 #[v, u] w fun e w' => e = .returned (.bool true) ∧ Below w.heap.size w w' := by
  have HV := Lib.hid h
  have HU := Lib.hid k
  have HC := Lib.hid hc
  obtain ⟨va, vc, hv⟩ := h.1.len
  obtain ⟨ua, uc, hu⟩ := k.1.len
  rw [h.2.len] at hv
  rw [k.2.len] at hu
  subst hv hu
  generalize hn : css.length = n at *
  have HN := Lib.hid hn
  clear h k hc hn
  go_enter Try.func42, Try.ntmps42
  go_wp2
  go_loopw [5] (fun i wr => ∃ k : Nat, k ≤ n ∧ i = .int .i64 k ∧ Below w.heap.size w wr) (fun i _ => n - (intOf i).toNat)
  case atStart => exact ⟨0, Nat.zero_le _, rfl, (by repeat (first | (with_reducible exact Below.refl _ _) | (with_reducible assumption) | (with_reducible refine Below.drew ?_) | (with_reducible refine Below.drewN ?_) | ((with_reducible refine Below.al ?_ ?_); · first | omega | (simp; done) | (simp; omega)) | ((with_reducible refine Below.sc ?_ ?_); · first | omega | (simp; done) | (simp; omega)) | ((with_reducible refine Below.thru hb ?_ ?_); · first | omega | (simp; done) | (simp; omega))))⟩
  case round =>
    obtain ⟨k, hk, rfl, kwr⟩ := hrel
    have swr := kwr.size
    by_cases hlt : k < n
    · obtain ⟨g, c, s, e1, c1, O1, -⟩ := (HV.out.below kwr).row (j := k) (by rw [HN.out]; exact hlt)
      obtain ⟨g', c', s', e2, c2, O2, -⟩ := (HU.out.below kwr).row (j := k) (by rw [HN.out]; exact hlt)
      rw [HN.out] at e1 e2
      cases e1
      cases e2
      have hlc := getD_le HC.out k
      generalize css.getD k [] = row at *
      have HO := Lib.hid (And.intro O1 O2)
      clear O1 O2
      have i0 : (0 : Int) ≤ (k : Int) := by omega
      have i1 : (k : Int) < (n : Int) := by omega
      have l1 := block_lt_of_cell c1
      have l2 := block_lt_of_cell c2
      go_wp2_with fail
      go_region_held3 (fun w' => w'.cell? ⟨g, k, none⟩ = some s ∧ w'.cell? ⟨g', k, none⟩ = some s') (first | go_keep | exact ⟨d1, d2⟩) (first
        | (go_at_call 28; refine (eqInt64S_any s s' _ _ _ (HO.out.1.slIn.below (by repeat (first | (with_reducible exact Below.refl _ _) | (with_reducible assumption) | (with_reducible refine Below.drew ?_) | (with_reducible refine Below.drewN ?_) | ((with_reducible refine Below.al ?_ ?_); · first | omega | (simp; done) | (simp; omega)) | ((with_reducible refine Below.sc ?_ ?_); · first | omega | (simp; done) | (simp; omega)) | ((with_reducible refine Below.thru hb ?_ ?_); · first | omega | (simp; done) | (simp; omega))))) (HO.out.2.slIn.below (by repeat (first | (with_reducible exact Below.refl _ _) | (with_reducible assumption) | (with_reducible refine Below.drew ?_) | (with_reducible refine Below.drewN ?_) | ((with_reducible refine Below.al ?_ ?_); · first | omega | (simp; done) | (simp; omega)) | ((with_reducible refine Below.sc ?_ ?_); · first | omega | (simp; done) | (simp; omega)) | ((with_reducible refine Below.thru hb ?_ ?_); · first | omega | (simp; done) | (simp; omega))))) (by rw [List.length_map]; unfold maxLen; omega) (by rw [List.length_map]; unfold maxLen; omega)).mono ?_; rw [beq_self_eq_true]; rintro e w3 ⟨rfl, hb⟩; have d1 : w3.cell? ⟨g, k, none⟩ = some s := (hb.cell (p := ⟨g, k, none⟩) (by first | exact l1 | (simpa using l1))).trans c1; have d2 : w3.cell? ⟨g', k, none⟩ = some s' := (hb.cell (p := ⟨g', k, none⟩) (by first | exact l2 | (simpa using l2))).trans c2; have kw3 : Below w.heap.size w w3 := (by repeat (first | (with_reducible exact Below.refl _ _) | (with_reducible assumption) | (with_reducible refine Below.drew ?_) | (with_reducible refine Below.drewN ?_) | ((with_reducible refine Below.al ?_ ?_); · first | omega | (simp; done) | (simp; omega)) | ((with_reducible refine Below.sc ?_ ?_); · first | omega | (simp; done) | (simp; omega)) | ((with_reducible refine Below.thru hb ?_ ?_); · first | omega | (simp; done) | (simp; omega)))); clear hb))
      go_wp2
      go_roundw
      case rel => exact ⟨k + 1, by omega, by go_num, kw3⟩
      case measure => simp [intOf]; omega
    · obtain rfl : k = n := by omega
      go_wp2
      go_ret
      exact ⟨rfl, kwr⟩

set_option maxRecDepth 8000 in
set_option maxHeartbeats 1000000 in
theorem markInt64SS_any (v : Value) (vs : List Sl) (css : List (List Nat)) (B q : Nat) (w : World) (h : OwnSS w B v vs css) (hl : css.length ≤ 72) (hc : ∀ c ∈ css, c.length ≤ 72) (hq : q ≤ 1000000) :
    Calls Try.prog 43 #[v, .int .i64 (q : Int)] w fun e w' => e = .returned (.int .i64 (offN css q css.length : Int)) ∧ (OwnSS w' B v vs (mkS css q css.length) ∧ Chg B w.heap.size w w' ∧ w'.heap.size = w.heap.size) := by
  have HC := Lib.hid hc
  obtain ⟨va, vc, hv⟩ := h.1.len
  rw [h.2.len] at hv
  subst hv
  have HV := Lib.hid h
  generalize hn : css.length = n at *
  have HN := Lib.hid hn
  clear h hc hn
  go_enter Try.func43, Try.ntmps43
  go_wp2
  go_loopw [1, 5] (fun kk i wr => ∃ j : Nat, j ≤ n ∧ i = .int .i64 j ∧ kk = .int .i64 (offN css q j : Int) ∧ OwnSS wr B (.slice va n vc) vs (mkS css q j) ∧ Chg B w.heap.size w wr ∧ wr.heap.size = w.heap.size) (fun _ i _ => n - (intOf i).toNat)
  case atStart => exact ⟨0, Nat.zero_le _, rfl, rfl, HV.out, Chg.ofBelow (Below.refl _ _), rfl⟩
  case round =>
    obtain ⟨j, hj, rfl, rfl, O, C, hz⟩ := hrel
    have HX := Lib.hid (show offN css q (j + 1) = offN css q j + (css.getD j []).length from rfl)
    have HY := Lib.hid (show mkS css q (j + 1) = (mkS css q j).set j (runN (offN css q j) (css.getD j []).length) from rfl)
    have hob := offN_le HC.out q j
    have hlc := getD_le HC.out j
    have hz' := Lib.hid hz
    clear hz
    by_cases hlt : j < n
    · obtain ⟨g, c, s, e1, c1, O1, hs⟩ := O.row (j := j) (by rw [mkS_len, HN.out]; exact hlt)
      rw [mkS_len, HN.out] at e1
      cases e1
      have hge : (mkS css q j).getD j [] = css.getD j [] := by
        rw [List.getD, mkS_get j j (by rw [HN.out]; exact hlt), Option.getD_some, if_neg (by omega)]
      rw [hge] at O1
      clear hge
      generalize css.getD j [] = row at *
      generalize offN css q j = o at *
      have i0 : (0 : Int) ≤ (j : Int) := by omega
      have i1 : (j : Int) < (n : Int) := by omega
      have H := Lib.hid (And.intro O (And.intro C (And.intro O1 hs)))
      clear O C O1 hs
      go_wp2_with fail
      refine (markInt64S_any s (row.map Int.ofNat) B (o : Int) _ H.out.2.2.1 (by rw [List.length_map]; omega) (by omega) (by omega)).mono ?_
      rw [List.length_map]
      rintro e w2 ⟨rfl, O2, hg, hz2⟩
      have hvl : j < vs.length := by
        have := H.out.1.2.len
        rw [mkS_len, HN.out] at this
        omega
      have hse : s = vs[j].v := by
        have := H.out.2.2.2
        rw [List.getElem?_eq_getElem hvl] at this
        exact (Option.some.inj this).symm
      have R2 : RowS w2 B vs ((mkS css q j).set j (runN o row.length)) := H.out.1.2.set j hvl (by rw [← hse, runN_map]; exact O2) (by rw [← hse]; exact hg)
      have K2 : OwnK encV 22 w2 B (.slice (some ⟨g, 0, none⟩) n vc) vs := H.out.1.1.same fun b hb => hg.block b (H.out.1.1.lt hb).2 fun e => H.out.1.1.ne_own H.out.2.2.1 (by decide) b hb e.symm
      have C2 : Chg B w.heap.size w w2 := H.out.2.1.trans (Chg.of hg ((H.out.2.2.1.rng).wide (Nat.le_refl _) (by rw [hz'.out]; exact Nat.le_refl _)))
      have Z2 := Lib.hid (hz2.trans hz'.out)
      clear H hg O2 hz2 hse
      go_wp2
      go_roundw
      case rel => exact ⟨j + 1, by omega, by go_num, by rw [HX.out]; go_num, ⟨K2, by rw [HY.out]; exact R2⟩, C2, Z2.out⟩
      case measure => simp [intOf]; omega
    · obtain rfl : j = n := by omega
      go_wp2
      go_ret
      exact ⟨rfl, O, C, hz'.out⟩

set_option maxRecDepth 8000 in
set_option maxHeartbeats 1000000 in
theorem heldInt64SS_any (v : Value) (vs : List Sl) (css : List (List Nat)) (B q : Nat) (w : World) (h : OwnSS w B v vs (mkS css q css.length)) (hl : css.length ≤ 72) (hc : ∀ c ∈ css, c.length ≤ 72) (hq : q ≤ 1000000) :
    Calls Try.prog 44 #[v, .int .i64 (q : Int)] w fun e w' => e = .returned (.int .i64 (offN css q css.length : Int)) ∧ Below w.heap.size w w' := by
  have HC := Lib.hid hc
  obtain ⟨va, vc, hv⟩ := h.1.len
  rw [h.2.len, mkS_len] at hv
  subst hv
  have HV := Lib.hid h
  generalize hn : css.length = n at *
  have HN := Lib.hid hn
  clear h hc hn
  go_enter Try.func44, Try.ntmps44
  go_wp2
  go_loopw [1, 5] (fun kk i wr => ∃ j : Nat, j ≤ n ∧ i = .int .i64 j ∧ kk = .int .i64 (offN css q j : Int) ∧ wr = w) (fun _ i _ => n - (intOf i).toNat)
  case atStart => exact ⟨0, Nat.zero_le _, rfl, rfl, rfl⟩
  case round =>
    obtain ⟨j, hj, rfl, rfl, rfl⟩ := hrel
    have HX := Lib.hid (show offN css q (j + 1) = offN css q j + (css.getD j []).length from rfl)
    have hob := offN_le HC.out q j
    have hlc := getD_le HC.out j
    by_cases hlt : j < n
    · obtain ⟨g, c, s, e1, c1, O1, -⟩ := HV.out.row (j := j) (by rw [mkS_len, HN.out]; exact hlt)
      rw [mkS_len, HN.out] at e1
      cases e1
      have hge : (mkS css q n).getD j [] = runN (offN css q j) (css.getD j []).length := by
        rw [List.getD, mkS_get n j (by rw [HN.out]; exact hlt), Option.getD_some, if_pos hlt]
      rw [hge, runN_map] at O1
      clear hge
      generalize (css.getD j []).length = m at *
      generalize offN css q j = o at *
      have i0 : (0 : Int) ≤ (j : Int) := by omega
      have i1 : (j : Int) < (n : Int) := by omega
      have HO := Lib.hid O1.slIn
      clear O1
      go_wp2_with fail
      refine (heldInt64S_any s m (o : Int) _ HO.out (by omega) (by omega) (by omega)).mono ?_
      rintro e w2 ⟨rfl, rfl⟩
      go_wp2
      go_roundw
      case rel => exact ⟨j + 1, by omega, by go_num, by rw [HX.out]; go_num, by first | trivial | rfl⟩
      case measure => simp [intOf]; omega
    · obtain rfl : j = n := by omega
      go_wp2
      go_ret
      exact ⟨rfl, (by repeat (first | (with_reducible exact Below.refl _ _) | (with_reducible assumption) | (with_reducible refine Below.drew ?_) | (with_reducible refine Below.drewN ?_) | ((with_reducible refine Below.al ?_ ?_); · first | omega | (simp; done) | (simp; omega)) | ((with_reducible refine Below.sc ?_ ?_); · first | omega | (simp; done) | (simp; omega)) | ((with_reducible refine Below.thru hb ?_ ?_); · first | omega | (simp; done) | (simp; omega))))⟩

end Go.Proofs.Ytamkbgodenkboaa
