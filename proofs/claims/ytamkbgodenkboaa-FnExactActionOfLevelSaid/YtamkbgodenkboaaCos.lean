/- Cosets: both walks. -/
import Derived.Test.YtamkbgodenkboaaLineS
namespace Go.Proofs.Ytamkbgodenkboaa
open Go.RowKit
set_option linter.unusedSimpArgs false

/-- The place of a pair in a list, -1 if it is not there. -/
def idxP (xs : List (Nat × Nat)) (p : Nat × Nat) : Int := if p ∈ xs then (xs.idxOf p : Int) else -1
theorem idxP_hit {xs : List (Nat × Nat)} {p : Nat × Nat} {k : Nat} (h : ∀ j (hj : j < xs.length), j < k → xs[j] ≠ p) (hk : k < xs.length) (e : xs[k] = p) : idxP xs p = (k : Int) := by
  have hm : p ∈ xs := e ▸ List.getElem_mem hk
  unfold idxP
  rw [if_pos hm]
  have h1 : xs.idxOf p < xs.length := List.idxOf_lt_length_iff.2 hm
  have h2 : xs[xs.idxOf p] = p := List.getElem_idxOf h1
  have h3 : xs.idxOf p ≤ k := by
    by_cases hlt : k < xs.idxOf p
    · exact absurd e (by
        have := List.not_of_lt_findIdx (p := (· == p)) (xs := xs) (i := k) hlt
        simpa using this)
    · omega
  have h4 : ¬ xs.idxOf p < k := fun hlt => h _ h1 hlt h2
  omega
theorem idxP_none {xs : List (Nat × Nat)} {p : Nat × Nat} (h : ∀ j (hj : j < xs.length), j < xs.length → xs[j] ≠ p) : idxP xs p = -1 := by
  unfold idxP
  rw [if_neg]
  intro hm
  obtain ⟨j, hj, e⟩ := List.mem_iff_getElem.1 hm
  exact h j hj hj e
theorem idxP_bd (xs : List (Nat × Nat)) (p : Nat × Nat) : -1 ≤ idxP xs p ∧ idxP xs p < xs.length := by
  unfold idxP
  split
  · rename_i hm
    have h1 : xs.idxOf p < xs.length := List.idxOf_lt_length_iff.2 hm
    omega
  · omega
theorem ne_step {xs : List (Nat × Nat)} {p : Nat × Nat} {k : Nat} (h : ∀ j (hj : j < xs.length), j < k → xs[j] ≠ p) (hk : k < xs.length) (e : xs[k] ≠ p) : ∀ j (hj : j < xs.length), j < k + 1 → xs[j] ≠ p := by
  intro j hj hjk
  by_cases e2 : j < k
  · exact h j hj e2
  · obtain rfl : j = k := by omega
    exact e

theorem OwnP.at2 {w : World} {B g cap : Nat} {xs : List (Nat × Nat)} {n : Nat} (h : OwnP w B (.slice (some ⟨g, 0, none⟩) n cap) xs) {j : Nat} (hj : j < xs.length) :
    w.cell? ⟨g, j * 2, none⟩ = some (.int .i64 (xs[j].1 : Int)) ∧ w.cell? ⟨g, j * 2 + 1, none⟩ = some (.int .i64 (xs[j].2 : Int)) :=
  ⟨OwnK.at (i := 0) h rfl (List.getElem?_eq_getElem hj) rfl, OwnK.at (i := 1) h rfl (List.getElem?_eq_getElem hj) rfl⟩

set_option maxRecDepth 8000 in
set_option maxHeartbeats 1000000 in
theorem indexP_any (xs : List (Nat × Nat)) (p : Nat × Nat) (v : Value) (B : Nat) (w : World) (h : OwnP w B v xs) (hl : xs.length ≤ 3660) :
    Calls Try.prog 153 #[v, .agg #[.int .i64 (p.1 : Int), .int .i64 (p.2 : Int)]] w fun e w' => e = .returned (.int .i64 (idxP xs p)) ∧ Below w.heap.size w w' := by
  rcases h.form with ⟨rfl, rfl⟩ | ⟨g, cap, rfl, hBg, hg, hlc, hcm, -⟩
  · have HF := Lib.hid (show idxP [] p = -1 from rfl)
    go_enter Try.func153, Try.ntmps153
    go_wp2_with fail
    refine wp_loop_rounds 1 ?_
    rw [rounds_succ]
    go_wp2
    go_ret
    exact ⟨ret_int HF.out.symm, (by repeat (first | (with_reducible exact Below.refl _ _) | (with_reducible assumption) | (with_reducible refine Below.drew ?_) | (with_reducible refine Below.drewN ?_) | ((with_reducible refine Below.al ?_ ?_); · first | omega | (simp; done) | (simp; omega)) | ((with_reducible refine Below.sc ?_ ?_); · first | omega | (simp; done) | (simp; omega)) | ((with_reducible refine Below.thru hb ?_ ?_); · first | omega | (simp; done) | (simp; omega))))⟩
  · have HX := Lib.hid (fun j hj => OwnP.at2 h (j := j) hj)
    clear h hlc hcm
    go_enter Try.func153, Try.ntmps153
    go_wp2_with fail
    have HX2 : Hid (∀ j (hj : j < xs.length), (w.alloc (.cells (pcs p) 142)).cell? ⟨g, j * 2, none⟩ = some (.int .i64 (xs[j].1 : Int)) ∧ (w.alloc (.cells (pcs p) 142)).cell? ⟨g, j * 2 + 1, none⟩ = some (.int .i64 (xs[j].2 : Int))) := Lib.hid (fun j hj => by
      have hb : Below w.heap.size w (w.alloc (.cells (pcs p) 142)) := (Below.refl _ _).alloc (Nat.le_refl _) _
      obtain ⟨h1, h2⟩ := HX.out j hj
      exact ⟨(hb.cell (p := ⟨g, j * 2, none⟩) hg).trans h1, (hb.cell (p := ⟨g, j * 2 + 1, none⟩) hg).trans h2⟩)
    refine forget (fun W_ => Below w.heap.size w W_ ∧ Blk W_ (w.heap.size) 142 (pcs p) ∧ Hid (∀ j (hj : j < xs.length), W_.cell? ⟨g, j * 2, none⟩ = some (.int .i64 (xs[j].1 : Int)) ∧ W_.cell? ⟨g, j * 2 + 1, none⟩ = some (.int .i64 (xs[j].2 : Int)))) ⟨(by repeat (first | (with_reducible exact Below.refl _ _) | (with_reducible assumption) | (with_reducible refine Below.drew ?_) | (with_reducible refine Below.drewN ?_) | ((with_reducible refine Below.al ?_ ?_); · first | omega | (simp; done) | (simp; omega)) | ((with_reducible refine Below.sc ?_ ?_); · first | omega | (simp; done) | (simp; omega)) | ((with_reducible refine Below.thru hb ?_ ?_); · first | omega | (simp; done) | (simp; omega)))), (by repeat (first | (with_reducible assumption) | ((with_reducible refine Blk.new ?_); · first | omega | (simp; done) | (simp; omega)) | (with_reducible apply Blk.set4) | (with_reducible apply Blk.set3) | (with_reducible apply Blk.set2) | ((with_reducible refine Blk.put ?_ ?_); · first | omega | (simp; omega)) | (with_reducible refine Blk.old ?_) | (with_reducible refine Blk.drew ?_) | (with_reducible refine Blk.drewN ?_) | ((with_reducible refine Blk.below hb ?_ ?_); · first | omega | (simp; done) | (simp; omega)))), HX2⟩ ?_
    rintro w0 ⟨kw0, B0, HX3⟩
    have sw0 := kw0.size
    have lB0 := B0.lt
    obtain ⟨b0, b1⟩ := B0.p2n
    clear HX HX2
    go_loopw [8] (fun i wr => ∃ k : Nat, k ≤ xs.length ∧ i = .int .i64 k ∧ Hid (∀ j (h1 : j < xs.length), j < k → xs[j] ≠ p) ∧ ∃ n, wr = w0.drewN n) (fun i _ => xs.length - (intOf i).toNat)
    case atStart => exact ⟨0, Nat.zero_le _, rfl, fun j _ h => absurd h (by omega), 0, rfl⟩
    case round =>
      obtain ⟨k, hk, rfl, hall, n, rfl⟩ := hrel
      by_cases hlt : k < xs.length
      · have i0 : (0 : Int) ≤ (k : Int) := by omega
        have i1 : (k : Int) < (xs.length : Int) := by omega
        obtain ⟨c1, c2⟩ := HX3.out k hlt
        have hE := fun w' : World => run_equalInP p xs[k] w'
        by_cases hq : p = xs[k]
        · rw [decide_eq_true hq] at hE
          have HF := Lib.hid (idxP_hit hall.out hlt hq.symm)
          clear hq
          go_wp2_with fail
          go_quiet (fail)
          go_wp2
          go_ret
          exact ⟨ret_int HF.out.symm, (by repeat (first | (with_reducible exact Below.refl _ _) | (with_reducible assumption) | (with_reducible refine Below.drew ?_) | (with_reducible refine Below.drewN ?_) | ((with_reducible refine Below.al ?_ ?_); · first | omega | (simp; done) | (simp; omega)) | ((with_reducible refine Below.sc ?_ ?_); · first | omega | (simp; done) | (simp; omega)) | ((with_reducible refine Below.thru hb ?_ ?_); · first | omega | (simp; done) | (simp; omega))))⟩
        · rw [decide_eq_false hq] at hE
          have HF := Lib.hid (ne_step hall.out hlt (fun e => hq e.symm))
          clear hq
          go_wp2_with fail
          go_quiet (fail)
          go_wp2
          go_roundw
          case rel => exact ⟨k + 1, by omega, by go_num, HF, n + nq, rfl⟩
          case measure => simp [intOf]; omega
      · obtain rfl : k = xs.length := by omega
        have HF := Lib.hid (idxP_none (fun j h1 h2 => hall.out j h1 h2))
        go_wp2
        go_ret
        exact ⟨ret_int HF.out.symm, (by repeat (first | (with_reducible exact Below.refl _ _) | (with_reducible assumption) | (with_reducible refine Below.drew ?_) | (with_reducible refine Below.drewN ?_) | ((with_reducible refine Below.al ?_ ?_); · first | omega | (simp; done) | (simp; omega)) | ((with_reducible refine Below.sc ?_ ?_); · first | omega | (simp; done) | (simp; omega)) | ((with_reducible refine Below.thru hb ?_ ?_); · first | omega | (simp; done) | (simp; omega))))⟩

theorem mod_nat (c : Int) (n : Nat) (hn : 1 ≤ n) : ∃ x : Nat, c % (n : Int) = (x : Int) ∧ x < n ∧ (c % (n : Int)).toNat = x := by
  have h1 := Int.emod_nonneg c (show (n : Int) ≠ 0 by omega)
  have h2 := Int.emod_lt_of_pos c (show (0 : Int) < n by omega)
  exact ⟨(c % (n : Int)).toNat, by omega, by omega, rfl⟩
/-- The normal pair of two numbers. -/
def nrmC (n : Nat) (c d : Int) : Nat × Nat := nrmN n (c % (n : Int)).toNat (d % (n : Int)).toNat

set_option maxRecDepth 8000 in
set_option maxHeartbeats 1000000 in
theorem coset_any (n : Nat) (c d : Int) (xs : List (Nat × Nat)) (v : Value) (B : Nat) (w : World) (h : OwnP w B v xs) (hl : xs.length ≤ 3660) (hn : 1 ≤ n ∧ n ≤ 60) :
    Calls Try.prog 122 #[.int .i64 (n : Int), v, .int .i64 c, .int .i64 d] w fun e w' => e = .returned (.int .i64 (idxP xs (nrmC n c d))) ∧ Below w.heap.size w w' := by
  obtain ⟨x, hx, hxn, hx2⟩ := mod_nat c n hn.1
  obtain ⟨y, hy, hyn, hy2⟩ := mod_nat d n hn.1
  have HN := Lib.hid (show nrmC n c d = nrmN n x y by unfold nrmC; rw [hx2, hy2])
  have H1 := Lib.hid (fun w' : World => rest_any c (n : Int) w' (by omega) (by omega))
  rw [hx] at H1
  have H2 := Lib.hid (fun w' : World => rest_any d (n : Int) w' (by omega) (by omega))
  rw [hy] at H2
  have H3 := Lib.hid (fun w' : World => normal_any n x y w' hn hxn hyn)
  have HO := Lib.hid h
  have hbd := idxP_bd xs (nrmC n c d)
  rw [HN.out] at hbd
  clear hx hx2 hy hy2
  obtain ⟨vo, vc, rfl⟩ := h.len
  clear h
  go_enter Try.func122, Try.ntmps122
  go_wp2_with fail
  refine (H1.out _).mono ?_
  rintro e w1 ⟨rfl, hb⟩
  have k1 : Below w.heap.size w w1 := (by repeat (first | (with_reducible exact Below.refl _ _) | (with_reducible assumption) | (with_reducible refine Below.drew ?_) | (with_reducible refine Below.drewN ?_) | ((with_reducible refine Below.al ?_ ?_); · first | omega | (simp; done) | (simp; omega)) | ((with_reducible refine Below.sc ?_ ?_); · first | omega | (simp; done) | (simp; omega)) | ((with_reducible refine Below.thru hb ?_ ?_); · first | omega | (simp; done) | (simp; omega))))
  have s1 := k1.size
  clear hb
  go_wp2_with fail
  refine (H2.out _).mono ?_
  rintro e w2 ⟨rfl, hb⟩
  have k2 : Below w.heap.size w w2 := (by repeat (first | (with_reducible exact Below.refl _ _) | (with_reducible assumption) | (with_reducible refine Below.drew ?_) | (with_reducible refine Below.drewN ?_) | ((with_reducible refine Below.al ?_ ?_); · first | omega | (simp; done) | (simp; omega)) | ((with_reducible refine Below.sc ?_ ?_); · first | omega | (simp; done) | (simp; omega)) | ((with_reducible refine Below.thru hb ?_ ?_); · first | omega | (simp; done) | (simp; omega))))
  have s2 := k2.size
  clear hb
  go_wp2_with fail
  refine (H3.out _).mono ?_
  rintro e w3 ⟨rfl, hb⟩
  have k3 : Below w.heap.size w w3 := (by repeat (first | (with_reducible exact Below.refl _ _) | (with_reducible assumption) | (with_reducible refine Below.drew ?_) | (with_reducible refine Below.drewN ?_) | ((with_reducible refine Below.al ?_ ?_); · first | omega | (simp; done) | (simp; omega)) | ((with_reducible refine Below.sc ?_ ?_); · first | omega | (simp; done) | (simp; omega)) | ((with_reducible refine Below.thru hb ?_ ?_); · first | omega | (simp; done) | (simp; omega))))
  have s3 := k3.size
  clear hb
  go_wp2_with fail
  refine (indexP_any xs (nrmN n x y) _ B _ (HO.out.below (by with_reducible exact k3)) hl).mono ?_
  rintro e w4 ⟨rfl, hb⟩
  have k4 : Below w.heap.size w w4 := (by repeat (first | (with_reducible exact Below.refl _ _) | (with_reducible assumption) | (with_reducible refine Below.drew ?_) | (with_reducible refine Below.drewN ?_) | ((with_reducible refine Below.al ?_ ?_); · first | omega | (simp; done) | (simp; omega)) | ((with_reducible refine Below.sc ?_ ?_); · first | omega | (simp; done) | (simp; omega)) | ((with_reducible refine Below.thru hb ?_ ?_); · first | omega | (simp; done) | (simp; omega))))
  clear hb
  go_wp2
  go_ret
  exact ⟨by rw [HN.out]; rfl, k4⟩

end Go.Proofs.Ytamkbgodenkboaa
