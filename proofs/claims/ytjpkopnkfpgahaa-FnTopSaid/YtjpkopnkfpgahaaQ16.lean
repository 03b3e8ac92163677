import Derived.Test.YtjpkopnkfpgahaaQ15
import Derived.Test.YtjpkopnkfpgahaaQ2
import Derived.Maps.AppendAt
import Derived.Deep.RegionLaw
/- Cosets: both walks. -/
namespace Go.Proofs.Ytjpkopnkfpgahaa
open Go.RowKit
set_option linter.unusedSimpArgs false

/-- The place of a pair in a list, -1 if it is not there. -/
def idxP (xs : List (Nat × Nat)) (p : Nat × Nat) : Int := if p ∈ xs then (xs.idxOf p : Int) else -1
theorem idxP_hit {xs : List (Nat × Nat)} {p : Nat × Nat} {k : Nat} (h : ∀ j (hj : j < xs.length), j < k → xs[j] ≠ p) (hk : k < xs.length) (e : xs[k] = p) : idxP xs p = (k : Int) := by
  have hm : p ∈ xs := e ▸ List.getElem_mem hk
  unfold idxP
  rw [if_pos hm]
  have h1 : xs.idxOf p < xs.length := List.idxOf_lt_length_iff.2 hm
  have h2 : xs[xs.idxOf p] = p := List.getElem_idxOf h1
  have h3 : xs.idxOf p ≤ k := by
    by_cases hlt : k < xs.idxOf p
    · exact absurd e (by
        have := List.not_of_lt_findIdx (p := (· == p)) (xs := xs) (i := k) hlt
        simpa using this)
    · omega
  have h4 : ¬ xs.idxOf p < k := fun hlt => h _ h1 hlt h2
  omega
theorem idxP_none {xs : List (Nat × Nat)} {p : Nat × Nat} (h : ∀ j (hj : j < xs.length), j < xs.length → xs[j] ≠ p) : idxP xs p = -1 := by
  unfold idxP
  rw [if_neg]
  intro hm
  obtain ⟨j, hj, e⟩ := List.mem_iff_getElem.1 hm
  exact h j hj hj e
theorem idxP_bd (xs : List (Nat × Nat)) (p : Nat × Nat) : -1 ≤ idxP xs p ∧ idxP xs p < xs.length := by
  unfold idxP
  split
  · rename_i hm
    have h1 : xs.idxOf p < xs.length := List.idxOf_lt_length_iff.2 hm
    omega
  · omega
theorem ne_step {xs : List (Nat × Nat)} {p : Nat × Nat} {k : Nat} (h : ∀ j (hj : j < xs.length), j < k → xs[j] ≠ p) (hk : k < xs.length) (e : xs[k] ≠ p) : ∀ j (hj : j < xs.length), j < k + 1 → xs[j] ≠ p := by
  intro j hj hjk
  by_cases e2 : j < k
  · exact h j hj e2
  · obtain rfl : j = k := by omega
    exact e

theorem OwnP.at2 {w : World} {B g cap : Nat} {xs : List (Nat × Nat)} {n : Nat} (h : OwnP w B (.slice (some ⟨g, 0, none⟩) n cap) xs) {j : Nat} (hj : j < xs.length) :
    w.cell? ⟨g, j * 2, none⟩ = some (.int .i64 (xs[j].1 : Int)) ∧ w.cell? ⟨g, j * 2 + 1, none⟩ = some (.int .i64 (xs[j].2 : Int)) :=
  ⟨OwnK.at (i := 0) h rfl (List.getElem?_eq_getElem hj) rfl, OwnK.at (i := 1) h rfl (List.getElem?_eq_getElem hj) rfl⟩

set_option maxRecDepth 8000 in
set_option maxHeartbeats 1000000 in
theorem indexP_any (xs : List (Nat × Nat)) (p : Nat × Nat) (v : Value) (B : Nat) (w : World) (h : OwnP w B v xs) (hl : xs.length ≤ 3660) :
    Calls Try.prog 61 #[v, .agg #[.int .i64 (p.1 : Int), .int .i64 (p.2 : Int)]] w fun e w' => e = .returned (.int .i64 (idxP xs p)) ∧ Below w.heap.size w w' := by
  rcases h.form with ⟨rfl, rfl⟩ | ⟨g, cap, rfl, hBg, hg, hlc, hcm, -⟩
  · have HF := Lib.hid (show idxP [] p = -1 from rfl)
    go_enter Try.func61, Try.ntmps61
    go_wp2_with fail
    refine wp_loop_rounds 1 ?_
    rw [rounds_succ]
    go_wp2
    go_ret
    exact ⟨ret_int HF.out.symm, (by repeat (first | (with_reducible exact Below.refl _ _) | (with_reducible assumption) | (with_reducible refine Below.drew ?_) | (with_reducible refine Below.drewN ?_) | ((with_reducible refine Below.al ?_ ?_); · first | omega | (simp; done) | (simp; omega)) | ((with_reducible refine Below.sc ?_ ?_); · first | omega | (simp; done) | (simp; omega)) | ((with_reducible refine Below.thru hb ?_ ?_); · first | omega | (simp; done) | (simp; omega))))⟩
  · have HX := Lib.hid (fun j hj => OwnP.at2 h (j := j) hj)
    clear h hlc hcm
    go_enter Try.func61, Try.ntmps61
    go_wp2_with fail
    have HX2 : Hid (∀ j (hj : j < xs.length), (w.alloc (.cells (pcs p) 98)).cell? ⟨g, j * 2, none⟩ = some (.int .i64 (xs[j].1 : Int)) ∧ (w.alloc (.cells (pcs p) 98)).cell? ⟨g, j * 2 + 1, none⟩ = some (.int .i64 (xs[j].2 : Int))) := Lib.hid (fun j hj => by
      have hb : Below w.heap.size w (w.alloc (.cells (pcs p) 98)) := (Below.refl _ _).alloc (Nat.le_refl _) _
      obtain ⟨h1, h2⟩ := HX.out j hj
      exact ⟨(hb.cell (p := ⟨g, j * 2, none⟩) hg).trans h1, (hb.cell (p := ⟨g, j * 2 + 1, none⟩) hg).trans h2⟩)
    refine forget (fun W_ => Below w.heap.size w W_ ∧ Blk W_ (w.heap.size) 98 (pcs p) ∧ Hid (∀ j (hj : j < xs.length), W_.cell? ⟨g, j * 2, none⟩ = some (.int .i64 (xs[j].1 : Int)) ∧ W_.cell? ⟨g, j * 2 + 1, none⟩ = some (.int .i64 (xs[j].2 : Int)))) ⟨(by repeat (first | (with_reducible exact Below.refl _ _) | (with_reducible assumption) | (with_reducible refine Below.drew ?_) | (with_reducible refine Below.drewN ?_) | ((with_reducible refine Below.al ?_ ?_); · first | omega | (simp; done) | (simp; omega)) | ((with_reducible refine Below.sc ?_ ?_); · first | omega | (simp; done) | (simp; omega)) | ((with_reducible refine Below.thru hb ?_ ?_); · first | omega | (simp; done) | (simp; omega)))), (by repeat (first | (with_reducible assumption) | ((with_reducible refine Blk.new ?_); · first | omega | (simp; done) | (simp; omega)) | (with_reducible apply Blk.set4) | (with_reducible apply Blk.set3) | (with_reducible apply Blk.set2) | ((with_reducible refine Blk.put ?_ ?_); · first | omega | (simp; omega)) | (with_reducible refine Blk.old ?_) | (with_reducible refine Blk.drew ?_) | (with_reducible refine Blk.drewN ?_) | ((with_reducible refine Blk.below hb ?_ ?_); · first | omega | (simp; done) | (simp; omega)))), HX2⟩ ?_
    rintro w0 ⟨kw0, B0, HX3⟩
    have sw0 := kw0.size
    have lB0 := B0.lt
    obtain ⟨b0, b1⟩ := B0.p2n
    clear HX HX2
    go_loopw [8] (fun i wr => ∃ k : Nat, k ≤ xs.length ∧ i = .int .i64 k ∧ Hid (∀ j (h1 : j < xs.length), j < k → xs[j] ≠ p) ∧ ∃ n, wr = w0.drewN n) (fun i _ => xs.length - (intOf i).toNat)
    case atStart => exact ⟨0, Nat.zero_le _, rfl, fun j _ h => absurd h (by omega), 0, rfl⟩
    case round =>
      obtain ⟨k, hk, rfl, hall, n, rfl⟩ := hrel
      by_cases hlt : k < xs.length
      · have i0 : (0 : Int) ≤ (k : Int) := by omega
        have i1 : (k : Int) < (xs.length : Int) := by omega
        obtain ⟨c1, c2⟩ := HX3.out k hlt
        have hE := fun w' : World => run_equalInP p xs[k] w'
        by_cases hq : p = xs[k]
        · rw [decide_eq_true hq] at hE
          have HF := Lib.hid (idxP_hit hall.out hlt hq.symm)
          clear hq
          go_wp2_with fail
          go_quiet (fail)
          go_wp2
          go_ret
          exact ⟨ret_int HF.out.symm, (by repeat (first | (with_reducible exact Below.refl _ _) | (with_reducible assumption) | (with_reducible refine Below.drew ?_) | (with_reducible refine Below.drewN ?_) | ((with_reducible refine Below.al ?_ ?_); · first | omega | (simp; done) | (simp; omega)) | ((with_reducible refine Below.sc ?_ ?_); · first | omega | (simp; done) | (simp; omega)) | ((with_reducible refine Below.thru hb ?_ ?_); · first | omega | (simp; done) | (simp; omega))))⟩
        · rw [decide_eq_false hq] at hE
          have HF := Lib.hid (ne_step hall.out hlt (fun e => hq e.symm))
          clear hq
          go_wp2_with fail
          go_quiet (fail)
          go_wp2
          go_roundw
          case rel => exact ⟨k + 1, by omega, by go_num, HF, n + nq, rfl⟩
          case measure => simp [intOf]; omega
      · obtain rfl : k = xs.length := by omega
        have HF := Lib.hid (idxP_none (fun j h1 h2 => hall.out j h1 h2))
        go_wp2
        go_ret
        exact ⟨ret_int HF.out.symm, (by repeat (first | (with_reducible exact Below.refl _ _) | (with_reducible assumption) | (with_reducible refine Below.drew ?_) | (with_reducible refine Below.drewN ?_) | ((with_reducible refine Below.al ?_ ?_); · first | omega | (simp; done) | (simp; omega)) | ((with_reducible refine Below.sc ?_ ?_); · first | omega | (simp; done) | (simp; omega)) | ((with_reducible refine Below.thru hb ?_ ?_); · first | omega | (simp; done) | (simp; omega))))⟩

theorem mod_nat (c : Int) (n : Nat) (hn : 1 ≤ n) : ∃ x : Nat, c % (n : Int) = (x : Int) ∧ x < n ∧ (c % (n : Int)).toNat = x := by
  have h1 := Int.emod_nonneg c (show (n : Int) ≠ 0 by omega)
  have h2 := Int.emod_lt_of_pos c (show (0 : Int) < n by omega)
  exact ⟨(c % (n : Int)).toNat, by omega, by omega, rfl⟩
/-- The normal pair of two numbers. -/
def nrmC (n : Nat) (c d : Int) : Nat × Nat := nrmN n (c % (n : Int)).toNat (d % (n : Int)).toNat

set_option maxRecDepth 8000 in
set_option maxHeartbeats 1000000 in
theorem coset_any (n : Nat) (c d : Int) (xs : List (Nat × Nat)) (v : Value) (B : Nat) (w : World) (h : OwnP w B v xs) (hl : xs.length ≤ 3660) (hn : 1 ≤ n ∧ n ≤ 60) :
    Calls Try.prog 36 #[.int .i64 (n : Int), v, .int .i64 c, .int .i64 d] w fun e w' => e = .returned (.int .i64 (idxP xs (nrmC n c d))) ∧ Below w.heap.size w w' := by
  obtain ⟨x, hx, hxn, hx2⟩ := mod_nat c n hn.1
  obtain ⟨y, hy, hyn, hy2⟩ := mod_nat d n hn.1
  have HN := Lib.hid (show nrmC n c d = nrmN n x y by unfold nrmC; rw [hx2, hy2])
  have H1 := Lib.hid (fun w' : World => rest_any c (n : Int) w' (by omega) (by omega))
  rw [hx] at H1
  have H2 := Lib.hid (fun w' : World => rest_any d (n : Int) w' (by omega) (by omega))
  rw [hy] at H2
  have H3 := Lib.hid (fun w' : World => normal_any n x y w' hn hxn hyn)
  have HO := Lib.hid h
  have hbd := idxP_bd xs (nrmC n c d)
  rw [HN.out] at hbd
  clear hx hx2 hy hy2
  obtain ⟨vo, vc, rfl⟩ := h.len
  clear h
  go_enter Try.func36, Try.ntmps36
  go_wp2_with fail
  refine (H1.out _).mono ?_
  rintro e w1 ⟨rfl, hb⟩
  have k1 : Below w.heap.size w w1 := (by repeat (first | (with_reducible exact Below.refl _ _) | (with_reducible assumption) | (with_reducible refine Below.drew ?_) | (with_reducible refine Below.drewN ?_) | ((with_reducible refine Below.al ?_ ?_); · first | omega | (simp; done) | (simp; omega)) | ((with_reducible refine Below.sc ?_ ?_); · first | omega | (simp; done) | (simp; omega)) | ((with_reducible refine Below.thru hb ?_ ?_); · first | omega | (simp; done) | (simp; omega))))
  have s1 := k1.size
  clear hb
  go_wp2_with fail
  refine (H2.out _).mono ?_
  rintro e w2 ⟨rfl, hb⟩
  have k2 : Below w.heap.size w w2 := (by repeat (first | (with_reducible exact Below.refl _ _) | (with_reducible assumption) | (with_reducible refine Below.drew ?_) | (with_reducible refine Below.drewN ?_) | ((with_reducible refine Below.al ?_ ?_); · first | omega | (simp; done) | (simp; omega)) | ((with_reducible refine Below.sc ?_ ?_); · first | omega | (simp; done) | (simp; omega)) | ((with_reducible refine Below.thru hb ?_ ?_); · first | omega | (simp; done) | (simp; omega))))
  have s2 := k2.size
  clear hb
  go_wp2_with fail
  refine (H3.out _).mono ?_
  rintro e w3 ⟨rfl, hb⟩
  have k3 : Below w.heap.size w w3 := (by repeat (first | (with_reducible exact Below.refl _ _) | (with_reducible assumption) | (with_reducible refine Below.drew ?_) | (with_reducible refine Below.drewN ?_) | ((with_reducible refine Below.al ?_ ?_); · first | omega | (simp; done) | (simp; omega)) | ((with_reducible refine Below.sc ?_ ?_); · first | omega | (simp; done) | (simp; omega)) | ((with_reducible refine Below.thru hb ?_ ?_); · first | omega | (simp; done) | (simp; omega))))
  have s3 := k3.size
  clear hb
  go_wp2_with fail
  refine (indexP_any xs (nrmN n x y) _ B _ (HO.out.below (by with_reducible exact k3)) hl).mono ?_
  rintro e w4 ⟨rfl, hb⟩
  have k4 : Below w.heap.size w w4 := (by repeat (first | (with_reducible exact Below.refl _ _) | (with_reducible assumption) | (with_reducible refine Below.drew ?_) | (with_reducible refine Below.drewN ?_) | ((with_reducible refine Below.al ?_ ?_); · first | omega | (simp; done) | (simp; omega)) | ((with_reducible refine Below.sc ?_ ?_); · first | omega | (simp; done) | (simp; omega)) | ((with_reducible refine Below.thru hb ?_ ?_); · first | omega | (simp; done) | (simp; omega))))
  clear hb
  go_wp2
  go_ret
  exact ⟨by rw [HN.out]; rfl, k4⟩

end Go.Proofs.Ytjpkopnkfpgahaa

/- Cosets moved by a matrix: the program's walk. -/
namespace Go.Proofs.Ytjpkopnkfpgahaa
open Go.RowKit
set_option linter.unusedSimpArgs false

/-- The coset to which a matrix moves a pair. -/
def mv1 (n : Nat) (m : M) (x : Nat × Nat) : Int := idxP (lineL n) (nrmC n ((x.1 : Int) * m.a + (x.2 : Int) * m.c) ((x.1 : Int) * m.b + (x.2 : Int) * m.d))
def movL (n : Nat) (m : M) : List Int := (lineL n).map (mv1 n m)
/-- The numbers in a slice of the call's own. -/
def GivesI (xs : List Int) (w : World) (e : Ending) (w' : World) : Prop := ∃ v, e = .returned v ∧ Own w' w.heap.size v xs ∧ Below w.heap.size w w'
theorem line_lt {n : Nat} {k : Nat} (h : k < (lineL n).length) : (lineL n)[k].1 < n ∧ (lineL n)[k].2 < n := by
  have := lnTo_mem.1 (List.getElem_mem h)
  exact ⟨this.1, this.2.1⟩
theorem mul60 {x : Nat} {a : Int} (hx : x < 60) (ha : -1000000000 ≤ a ∧ a ≤ 1000000000) : -60000000000 ≤ (x : Int) * a ∧ (x : Int) * a ≤ 60000000000 := by
  have := mul_bd (a := (x : Int)) (b := a) (A := 60) (B := 1000000000) (by omega) (by omega) ha.1 ha.2
  omega

set_option maxRecDepth 8000 in
set_option maxHeartbeats 2000000 in
theorem moved_any (n : Nat) (m : M) (w : World) (hn : 1 ≤ n ∧ n ≤ 60) (hm : m.ents = true) :
    Calls Try.prog 35 #[.int .i64 (n : Int), mv m] w (GivesI (movL n m) w) := by
  have HINF := Lib.hid (info_parts infoI)
  have HM := M.ents_bd hm
  have hl : (lineL n).length ≤ 3600 := by
    have := lnTo_len n n
    have h2 : n * n ≤ 60 * 60 := Nat.mul_le_mul hn.2 hn.2
    unfold lineL
    omega
  go_enter Try.func35, Try.ntmps35
  go_wp2_with fail
  refine (line_any n _ hn).mono ?_
  rintro e w1 ⟨v, rfl, O1, hb⟩
  have OP1 : OwnP w1 w.heap.size v (lineL n) := OwnK.mono (by simp; omega) O1
  have B1 : Blk w1 w.heap.size 30 (mcs m) := (by repeat (first | (with_reducible assumption) | ((with_reducible refine Blk.new ?_); · first | omega | (simp; done) | (simp; omega)) | (with_reducible apply Blk.set4) | (with_reducible apply Blk.set3) | (with_reducible apply Blk.set2) | ((with_reducible refine Blk.put ?_ ?_); · first | omega | (simp; omega)) | (with_reducible refine Blk.old ?_) | (with_reducible refine Blk.drew ?_) | (with_reducible refine Blk.drewN ?_) | ((with_reducible refine Blk.below hb ?_ ?_); · first | omega | (simp; done) | (simp; omega))))
  have O2 : Own w1 w.heap.size (.slice (some ⟨w.heap.size + 1, 0, none⟩) 0 0) [] := Own.below hb (Own.of_blk (xs := []) (Blk.new (by simp)) (by omega) rfl (by simp [maxLen]))
  have k1 : Below w.heap.size w w1 := (by repeat (first | (with_reducible exact Below.refl _ _) | (with_reducible assumption) | (with_reducible refine Below.drew ?_) | (with_reducible refine Below.drewN ?_) | ((with_reducible refine Below.al ?_ ?_); · first | omega | (simp; done) | (simp; omega)) | ((with_reducible refine Below.sc ?_ ?_); · first | omega | (simp; done) | (simp; omega)) | ((with_reducible refine Below.thru hb ?_ ?_); · first | omega | (simp; done) | (simp; omega))))
  obtain ⟨vo, vc, rfl⟩ := O1.len
  clear hb O1
  go_wp2_with fail
  go_loopw [5, 14] (fun v kk wr => ∃ k : Nat, k ≤ (lineL n).length ∧ kk = .int .i64 k ∧ Own wr w.heap.size v (((lineL n).take k).map (mv1 n m)) ∧ Blk wr w.heap.size 30 (mcs m) ∧ OwnP wr w.heap.size (.slice vo (lineL n).length vc) (lineL n) ∧ Below w.heap.size w wr) (fun _ kk _ => (lineL n).length - (intOf kk).toNat)
  case atStart => exact ⟨0, Nat.zero_le _, rfl, O2, B1, OP1, k1⟩
  case round =>
    clear O2 B1 OP1 k1
    obtain ⟨k, hk, rfl, O, B, OP, kwr⟩ := hrel
    obtain ⟨ro, rc, rfl, -⟩ := O.slIn.form
    rw [List.length_map, List.length_take, Nat.min_eq_left hk] at *
    have swr := kwr.size
    have lB := B.lt
    by_cases hlt : k < (lineL n).length
    · obtain ⟨g, cap, hvg, hg1, hg2⟩ : ∃ g cap, Value.slice vo (lineL n).length vc = .slice (some ⟨g, 0, none⟩) (lineL n).length cap ∧ w.heap.size ≤ g ∧ g < wr.heap.size := by
        rcases OP.form with ⟨h1, h2⟩ | ⟨g, cap, h1, h2, h3, -⟩
        · rw [h2] at hlt; simp at hlt
        · exact ⟨g, cap, h1, h2, h3⟩
      simp only [Value.slice.injEq, true_and] at hvg
      obtain ⟨rfl, rfl⟩ := hvg
      have HX := Lib.hid (show ((lineL n).take (k + 1)).map (mv1 n m) = ((lineL n).take k).map (mv1 n m) ++ [mv1 n m (lineL n)[k]] by rw [List.take_succ_eq_append_getElem hlt, List.map_append]; rfl)
      obtain ⟨c1, c2⟩ := OwnP.at2 OP hlt
      have hx := line_lt hlt
      have HV := Lib.hid (show mv1 n m (lineL n)[k] = idxP (lineL n) (nrmC n (((lineL n)[k].1 : Int) * m.a + ((lineL n)[k].2 : Int) * m.c) (((lineL n)[k].1 : Int) * m.b + ((lineL n)[k].2 : Int) * m.d)) from rfl)
      have i0 : (0 : Int) ≤ (k : Int) := by omega
      have i1 : (k : Int) < ((lineL n).length : Int) := by omega
      generalize (lineL n)[k] = x at *
      obtain ⟨x1, x2⟩ := x
      simp only at c1 c2 hx HV
      have p1 := mul60 (x := x1) (a := m.a) (by omega) HM.1
      have p2 := mul60 (x := x2) (a := m.c) (by omega) HM.2.2.1
      have p3 := mul60 (x := x1) (a := m.b) (by omega) HM.2.1
      have p4 := mul60 (x := x2) (a := m.d) (by omega) HM.2.2.2
      obtain ⟨q1, e1⟩ : ∃ q, (x1 : Int) * m.a = q := ⟨_, rfl⟩
      rw [e1] at HV p1
      have w1 : wrap64 ((x1 : Int) * m.a) = q1 := by rw [e1]; unfold wrap64; omega
      clear e1
      obtain ⟨q2, e2⟩ : ∃ q, (x2 : Int) * m.c = q := ⟨_, rfl⟩
      rw [e2] at HV p2
      have w2 : wrap64 ((x2 : Int) * m.c) = q2 := by rw [e2]; unfold wrap64; omega
      clear e2
      obtain ⟨q3, e3⟩ : ∃ q, (x1 : Int) * m.b = q := ⟨_, rfl⟩
      rw [e3] at HV p3
      have w3 : wrap64 ((x1 : Int) * m.b) = q3 := by rw [e3]; unfold wrap64; omega
      clear e3
      obtain ⟨q4, e4⟩ : ∃ q, (x2 : Int) * m.d = q := ⟨_, rfl⟩
      rw [e4] at HV p4
      have w4 : wrap64 ((x2 : Int) * m.d) = q4 := by rw [e4]; unfold wrap64; omega
      clear e4
      have hm4 := B.m
      obtain ⟨ma, mb, mc, md⟩ := hm4
      go_wp2_with fail
      refine (coset_any n _ _ (lineL n) _ w.heap.size _ (OwnK.below (by first | (with_reducible exact (by (repeat (first | (with_reducible exact Below.refl _ _) | (with_reducible assumption) | (with_reducible refine Below.drew ?_) | (with_reducible refine Below.drewN ?_) | ((with_reducible refine Below.al ?_ ?_); · first | omega | (simp; done) | (simp; omega)) | ((with_reducible refine Below.sc ?_ ?_); · first | omega | (simp; done) | (simp; omega)) | ((with_reducible refine Below.thru hb ?_ ?_); · first | omega | (simp; done) | (simp; omega)))); first | done | fail))) OP) (by omega) hn).mono ?_
      rintro e w5 ⟨rfl, hb⟩
      have kk : Below wr.heap.size wr w5 := (by repeat (first | (with_reducible exact Below.refl _ _) | (with_reducible assumption) | (with_reducible refine Below.drew ?_) | (with_reducible refine Below.drewN ?_) | ((with_reducible refine Below.al ?_ ?_); · first | omega | (simp; done) | (simp; omega)) | ((with_reducible refine Below.sc ?_ ?_); · first | omega | (simp; done) | (simp; omega)) | ((with_reducible refine Below.thru hb ?_ ?_); · first | omega | (simp; done) | (simp; omega))))
      have B5 : Blk w5 w.heap.size 30 (mcs m) := B.below kk lB
      have OP5 : OwnP w5 w.heap.size (.slice (some ⟨g, 0, none⟩) (lineL n).length vc) (lineL n) := OwnK.below kk OP
      have O5 := O.below kk
      have k5 : Below w.heap.size w w5 := Below.thru kk (by omega) kwr
      have s5 := k5.size
      rw [← HV.out]
      clear hb kk B OP O kwr ma mb mc md
      obtain ⟨jI, hinf⟩ := HINF.out
      replace hinf := Lib.hid hinf
      generalize mv1 n m (x1, x2) = r at *
      go_wp2_with (at_builtin; refine wpList_app encI rfl _ _ 35 2 8 rfl Try.underlying35 jI _ hinf.out.1 hinf.out.2.1 hinf.out.2.2.1 hinf.out.2.2.2 rfl (.slice ro k rc) (((lineL n).take k).map (mv1 n m)) w.heap.size w5.heap.size 1 #[.int .i64 r] [r] rfl ?o1 rfl ?b1 rfl ?l1 ?l2 (by first | omega | (simp; done) | (simp; omega)) ?_)
      case o1 => exact O5.alloc.toK
      case b1 => exact Blk.new (by simp)
      case l1 => (try simp only [List.length_map, List.length_take, List.length_cons, List.length_nil]); unfold maxLen; omega
      case l2 => (try simp only [List.length_map, List.length_take, List.length_cons, List.length_nil]); omega
      intro v' w6 O6 hg
      have B6 : Blk w6 w.heap.size 30 (mcs m) := Blk.grownN hg (O5.toK.ne_blk B5 (by decide)) (Blk.old B5)
      have OP6 : OwnP w6 w.heap.size (.slice (some ⟨g, 0, none⟩) (lineL n).length vc) (lineL n) := OwnK.grownO hg O5.alloc (by decide) (OwnK.alloc OP5)
      have k6 : Below w.heap.size w w6 := Below.grownO hg O5.alloc (Nat.le_refl _) (by simp; omega) (by repeat (first | (with_reducible exact Below.refl _ _) | (with_reducible assumption) | (with_reducible refine Below.drew ?_) | (with_reducible refine Below.drewN ?_) | ((with_reducible refine Below.al ?_ ?_); · first | omega | (simp; done) | (simp; omega)) | ((with_reducible refine Below.sc ?_ ?_); · first | omega | (simp; done) | (simp; omega)) | ((with_reducible refine Below.thru hb ?_ ?_); · first | omega | (simp; done) | (simp; omega))))
      have O7 := OwnK.toOwn O6
      clear hg O5 B5 OP5 k5 O6
      go_wp2
      go_roundw
      case rel => exact ⟨k + 1, by omega, by go_num, by rw [HX.out]; simpa only [List.map_take] using O7, B6, OP6, k6⟩
      case measure => simp [intOf]; omega
    · obtain rfl : k = (lineL n).length := by omega
      go_wp2
      refine bodyPost_ret (v := .slice ro (lineL n).length rc) (by simp [results, Try.results35, go_sem]) rfl ?_
      exact ⟨_, rfl, by rw [List.take_length] at O; exact O, kwr⟩

end Go.Proofs.Ytjpkopnkfpgahaa

/- Cosets: the reference's walk. -/
namespace Go.Proofs.Ytjpkopnkfpgahaa
open Go.RowKit
set_option linter.unusedSimpArgs false

theorem RowS.at {w : World} {B : Nat} : ∀ {vs : List Sl} {cs : List (List Nat)}, RowS w B vs cs → ∀ j (h1 : j < vs.length) (h2 : j < cs.length), Own w B vs[j].v (cs[j].map Int.ofNat)
  | [], [], _, j, h1, _ => absurd h1 (Nat.not_lt_zero _)
  | _ :: _, _ :: _, h, j, h1, h2 => match j with
    | 0 => h.1
    | j + 1 => RowS.at h.2.2 j (by simpa using h1) (by simpa using h2)
  | [], _ :: _, h, _, _, _ => h.elim
  | _ :: _, [], h, _, _, _ => h.elim
theorem rowsP_len (xs : List (Nat × Nat)) : (rowsP xs).length = xs.length := by simp [rowsP]
/-- A line in memory: rows of two numbers each, all in blocks less than m. -/
def LineC (w : World) (m : Nat) (v : Value) (xs : List (Nat × Nat)) : Prop :=
  ∃ ao c, v = .slice ao xs.length c ∧ (0 < xs.length → ∃ g, ao = some ⟨g, 0, none⟩ ∧ g < m ∧ ∀ j (hj : j < xs.length), ∃ g2 c2, g2 < m ∧ w.cell? ⟨g, j, none⟩ = some (.slice (some ⟨g2, 0, none⟩) 2 c2) ∧ w.cell? ⟨g2, 0, none⟩ = some (.int .i64 (xs[j].1 : Int)) ∧ w.cell? ⟨g2, 1, none⟩ = some (.int .i64 (xs[j].2 : Int)))
theorem LineC.below {w w' : World} {m : Nat} {v : Value} {xs : List (Nat × Nat)} (h : LineC w m v xs) (hb : Below m w w') : LineC w' m v xs := by
  obtain ⟨ao, c, rfl, h⟩ := h
  refine ⟨ao, c, rfl, fun h0 => ?_⟩
  obtain ⟨g, h1, h2, h3⟩ := h h0
  refine ⟨g, h1, h2, fun j hj => ?_⟩
  obtain ⟨g2, c2, k1, k2, k3, k4⟩ := h3 j hj
  exact ⟨g2, c2, k1, (hb.cell (p := ⟨g, j, none⟩) h2).trans k2, (hb.cell (p := ⟨g2, 0, none⟩) k1).trans k3, (hb.cell (p := ⟨g2, 1, none⟩) k1).trans k4⟩
theorem LineC.of {w : World} {B : Nat} {v : Value} {vs : List Sl} {xs : List (Nat × Nat)} (h1 : OwnK encV 35 w B v vs) (h2 : RowS w B vs (rowsP xs)) : LineC w w.heap.size v xs := by
  have hl := h2.len
  rw [rowsP_len] at hl
  rcases h1.form with ⟨rfl, rfl⟩ | ⟨g, cap, rfl, hB, hg, -⟩
  · simp at hl
    exact ⟨none, 0, by rw [← hl], fun h => by omega⟩
  · refine ⟨_, cap, by rw [hl], fun h0 => ⟨g, rfl, hg, fun j hj => ?_⟩⟩
    have hj1 : j < vs.length := by omega
    have hj2 : j < (rowsP xs).length := by rw [rowsP_len]; exact hj
    have O := h2.at j hj1 hj2
    have e := OwnK.at (i := 0) h1 rfl (List.getElem?_eq_getElem hj1) rfl
    have hc : (rowsP xs)[j] = [xs[j].1, xs[j].2] := by simp [rowsP]
    rw [hc] at O
    rcases O.toK.form with ⟨h3, h4⟩ | ⟨g2, cap2, h3, -, h4, -⟩
    · cases h4
    · refine ⟨g2, cap2, h4, ?_, ?_, ?_⟩
      · rw [show (⟨g, j, none⟩ : Addr) = ⟨g, j * encV.k + 0, none⟩ by show _ = (⟨g, j * 1 + 0, none⟩ : Addr); rw [Nat.mul_one, Nat.add_zero], e, h3]
        rfl
      · exact O.at (by rw [h3]; rfl) (j := 0) rfl
      · exact O.at (by rw [h3]; rfl) (j := 1) rfl

theorem nrmV_pr {n c d : Nat} (h : isPr n c d = true) : nrmV n c d = (((nrmN n c d).1 : Int), ((nrmN n c d).2 : Int), true) := by
  unfold nrmV
  rw [if_pos h]
/-- Are the rests of two numbers a pair? -/
def isPrC (n : Nat) (c d : Int) : Bool := isPr n (c % (n : Int)).toNat (d % (n : Int)).toNat

theorem ne_step2 {xs : List (Nat × Nat)} {x y k : Nat} (h : ∀ j (hj : j < xs.length), j < k → xs[j] ≠ (x, y)) (hk : k < xs.length) (e : ¬ (xs[k].1 : Int) = (x : Int) ∨ ¬ (xs[k].2 : Int) = (y : Int)) : ∀ j (hj : j < xs.length), j < k + 1 → xs[j] ≠ (x, y) :=
  ne_step h hk (fun e2 => by rw [e2] at e; simp at e)

end Go.Proofs.Ytjpkopnkfpgahaa

/- Appends in drawn regions: the step, and where the new slice lies. -/
namespace Go.Proofs.Ytjpkopnkfpgahaa
open Go.RowKit

theorem wp_app_at {α : Type} {P : Program} {o : Oper} {a : Go.Act} {w : World} {K : Go.Act → World → Prop} {Q : Exit → Go.Act → World → Prop} (e : Enc α) (s x : Operand) (T E : TypeId) (by_ : Nat)
    (ho : o.op = .call { callee := .builtin .append, args := #[s, x], argTypes := #[T, T] })
    (ht : P.underlying T = some (.slice E)) (i : TypeInfo) (z : Value) (hi : P.info? E = some i) (hz : i.zero = some z) (hsize : i.size = e.k) (hby : i.bytes = by_) (hzs : z.cells.size = e.k)
    (v : Value) (xs : List α) (B g c : Nat) (cs : Array Value) (news : List α) (hs : a.eval s = v) (hown : OwnK e E w B v xs) (hx : a.eval x = .slice (some ⟨g, 0, none⟩) news.length c) (hb : Blk w g E cs) (hc : cs.toList = news.flatMap e.enc)
    (h63 : xs.length + news.length ≤ maxLen) (hbytes : (xs.length + news.length) * by_ ≤ 140737488355328) (hbase : B ≤ w.heap.size)
    (h : ∀ v' w', OwnK e E w' B v' (xs ++ news) → w.grownBy w' v.ownBlock → (v'.ownBlock = v.ownBlock ∨ v'.ownBlock = some w.heap.size) → K (a.put o.dst v') w') : o.wp P a w K Q := by
  obtain ⟨v', w', hr, h2, h3, -, h5⟩ := run_append_own_at (P := P) w B T o.type E i z e.k by_ ht hi hz hsize hby hzs e.pos v xs.length (xs.flatMap e.enc) hown ⟨g, 0, none⟩ news.length c (news.flatMap e.enc) (flat_len e news)
    (fun j u hu => by
      have hadd : (⟨g, 0, none⟩ : Addr).add j = ⟨g, j, none⟩ := by unfold Addr.add; split <;> simp_all
      rw [hadd, hb.cell j, ← Array.getElem?_toList, hc]; exact hu)
    (fun u hu => by obtain ⟨x, _, hu⟩ := List.mem_flatMap.1 hu; exact e.one x u hu)
    h63 hbytes hbase
  unfold Oper.wp execOp
  simp only [ho, resolve, invoke, builtin, Sem.run_bind, Sem.run_pure, Result.andThen_ok, List.map_toArray, List.map_cons, List.map_nil, hs, hx, hr]
  exact h v' w' (by unfold OwnK; rw [List.length_append, List.flatMap_append]; exact h2) h3 h5
theorem wpList_app_at {α : Type} {P : Program} {ops : Array Oper} {rest : List Oper} {o : Oper} {a : Go.Act} {w : World} {Q : Exit → Go.Act → World → Prop} (e : Enc α) (hgd : o.guard = none) (s x : Operand) (T E : TypeId) (by_ : Nat)
    (ho : o.op = .call { callee := .builtin .append, args := #[s, x], argTypes := #[T, T] })
    (ht : P.underlying T = some (.slice E)) (i : TypeInfo) (z : Value) (hi : P.info? E = some i) (hz : i.zero = some z) (hsize : i.size = e.k) (hby : i.bytes = by_) (hzs : z.cells.size = e.k)
    (v : Value) (xs : List α) (B g c : Nat) (cs : Array Value) (news : List α) (hs : a.eval s = v) (hown : OwnK e E w B v xs) (hx : a.eval x = .slice (some ⟨g, 0, none⟩) news.length c) (hb : Blk w g E cs) (hc : cs.toList = news.flatMap e.enc)
    (h63 : xs.length + news.length ≤ maxLen) (hbytes : (xs.length + news.length) * by_ ≤ 140737488355328) (hbase : B ≤ w.heap.size)
    (h : ∀ v' w', OwnK e E w' B v' (xs ++ news) → w.grownBy w' v.ownBlock → (v'.ownBlock = v.ownBlock ∨ v'.ownBlock = some w.heap.size) → wpList P ops Q rest (a.put o.dst v') w') : wpList P ops Q (o :: rest) a w :=
  wpList_plain hgd fun _ hK => wp_app_at e s x T E by_ ho ht i z hi hz hsize hby hzs v xs B g c cs news hs hown hx hb hc h63 hbytes hbase fun v' w' h1 h2 h3 => hK _ _ (h v' w' h1 h2 h3)
/-- The step for 'go_region_law'. -/
theorem step_app_at {α : Type} {P : Program} {ops : Array Oper} {o : Oper} {a : Go.Act} {w : World} {K : Go.Act → World → Prop} {Q : Exit → Go.Act → World → Prop} {R : Prop} (e : Enc α) (hgd : o.guard = none) (s x : Operand) (T E : TypeId) (by_ : Nat)
    (ho : o.op = .call { callee := .builtin .append, args := #[s, x], argTypes := #[T, T] })
    (ht : P.underlying T = some (.slice E)) (i : TypeInfo) (z : Value) (hi : P.info? E = some i) (hz : i.zero = some z) (hsize : i.size = e.k) (hby : i.bytes = by_) (hzs : z.cells.size = e.k)
    (v : Value) (xs : List α) (B g c : Nat) (cs : Array Value) (news : List α) (hs : a.eval s = v) (hown : OwnK e E w B v xs) (hx : a.eval x = .slice (some ⟨g, 0, none⟩) news.length c) (hb : Blk w g E cs) (hc : cs.toList = news.flatMap e.enc)
    (h63 : xs.length + news.length ≤ maxLen) (hbytes : (xs.length + news.length) * by_ ≤ 140737488355328) (hbase : B ≤ w.heap.size)
    (h : ∀ v' w', OwnK e E w' B v' (xs ++ news) → w.grownBy w' v.ownBlock → (v'.ownBlock = v.ownBlock ∨ v'.ownBlock = some w.heap.size) → K (a.put o.dst v') w') :
    if Region.wanted o (yielded ops a.tmps) = true then Oper.wp P o a w K Q else R := by
  rw [if_pos (by simp [Region.wanted, hgd])]
  exact wp_app_at e s x T E by_ ho ht i z hi hz hsize hby hzs v xs B g c cs news hs hown hx hb hc h63 hbytes hbase h

end Go.Proofs.Ytjpkopnkfpgahaa
