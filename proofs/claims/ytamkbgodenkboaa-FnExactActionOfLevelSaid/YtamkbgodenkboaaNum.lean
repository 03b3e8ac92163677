/- Cosets: the reference's walk. -/
import Derived.Test.YtamkbgodenkboaaMov
namespace Go.Proofs.Ytamkbgodenkboaa
open Go.RowKit
set_option linter.unusedSimpArgs false

theorem RowS.at {w : World} {B : Nat} : ∀ {vs : List Sl} {cs : List (List Nat)}, RowS w B vs cs → ∀ j (h1 : j < vs.length) (h2 : j < cs.length), Own w B vs[j].v (cs[j].map Int.ofNat)
  | [], [], _, j, h1, _ => absurd h1 (Nat.not_lt_zero _)
  | _ :: _, _ :: _, h, j, h1, h2 => match j with
    | 0 => h.1
    | j + 1 => RowS.at h.2.2 j (by simpa using h1) (by simpa using h2)
  | [], _ :: _, h, _, _, _ => h.elim
  | _ :: _, [], h, _, _, _ => h.elim
theorem rowsP_len (xs : List (Nat × Nat)) : (rowsP xs).length = xs.length := by simp [rowsP]
/-- A line in memory: rows of two numbers each, all in blocks less than m. -/
def LineC (w : World) (m : Nat) (v : Value) (xs : List (Nat × Nat)) : Prop :=
  ∃ ao c, v = .slice ao xs.length c ∧ (0 < xs.length → ∃ g, ao = some ⟨g, 0, none⟩ ∧ g < m ∧ ∀ j (hj : j < xs.length), ∃ g2 c2, g2 < m ∧ w.cell? ⟨g, j, none⟩ = some (.slice (some ⟨g2, 0, none⟩) 2 c2) ∧ w.cell? ⟨g2, 0, none⟩ = some (.int .i64 (xs[j].1 : Int)) ∧ w.cell? ⟨g2, 1, none⟩ = some (.int .i64 (xs[j].2 : Int)))
theorem LineC.below {w w' : World} {m : Nat} {v : Value} {xs : List (Nat × Nat)} (h : LineC w m v xs) (hb : Below m w w') : LineC w' m v xs := by
  obtain ⟨ao, c, rfl, h⟩ := h
  refine ⟨ao, c, rfl, fun h0 => ?_⟩
  obtain ⟨g, h1, h2, h3⟩ := h h0
  refine ⟨g, h1, h2, fun j hj => ?_⟩
  obtain ⟨g2, c2, k1, k2, k3, k4⟩ := h3 j hj
  exact ⟨g2, c2, k1, (hb.cell (p := ⟨g, j, none⟩) h2).trans k2, (hb.cell (p := ⟨g2, 0, none⟩) k1).trans k3, (hb.cell (p := ⟨g2, 1, none⟩) k1).trans k4⟩
theorem LineC.of {w : World} {B : Nat} {v : Value} {vs : List Sl} {xs : List (Nat × Nat)} (h1 : OwnK encV 22 w B v vs) (h2 : RowS w B vs (rowsP xs)) : LineC w w.heap.size v xs := by
  have hl := h2.len
  rw [rowsP_len] at hl
  rcases h1.form with ⟨rfl, rfl⟩ | ⟨g, cap, rfl, hB, hg, -⟩
  · simp at hl
    exact ⟨none, 0, by rw [← hl], fun h => by omega⟩
  · refine ⟨_, cap, by rw [hl], fun h0 => ⟨g, rfl, hg, fun j hj => ?_⟩⟩
    have hj1 : j < vs.length := by omega
    have hj2 : j < (rowsP xs).length := by rw [rowsP_len]; exact hj
    have O := h2.at j hj1 hj2
    have e := OwnK.at (i := 0) h1 rfl (List.getElem?_eq_getElem hj1) rfl
    have hc : (rowsP xs)[j] = [xs[j].1, xs[j].2] := by simp [rowsP]
    rw [hc] at O
    rcases O.toK.form with ⟨h3, h4⟩ | ⟨g2, cap2, h3, -, h4, -⟩
    · cases h4
    · refine ⟨g2, cap2, h4, ?_, ?_, ?_⟩
      · rw [show (⟨g, j, none⟩ : Addr) = ⟨g, j * encV.k + 0, none⟩ by show _ = (⟨g, j * 1 + 0, none⟩ : Addr); rw [Nat.mul_one, Nat.add_zero], e, h3]
        rfl
      · exact O.at (by rw [h3]; rfl) (j := 0) rfl
      · exact O.at (by rw [h3]; rfl) (j := 1) rfl

theorem nrmV_pr {n c d : Nat} (h : isPr n c d = true) : nrmV n c d = (((nrmN n c d).1 : Int), ((nrmN n c d).2 : Int), true) := by
  unfold nrmV
  rw [if_pos h]
/-- Are the rests of two numbers a pair? -/
def isPrC (n : Nat) (c d : Int) : Bool := isPr n (c % (n : Int)).toNat (d % (n : Int)).toNat

theorem ne_step2 {xs : List (Nat × Nat)} {x y k : Nat} (h : ∀ j (hj : j < xs.length), j < k → xs[j] ≠ (x, y)) (hk : k < xs.length) (e : ¬ (xs[k].1 : Int) = (x : Int) ∨ ¬ (xs[k].2 : Int) = (y : Int)) : ∀ j (hj : j < xs.length), j < k + 1 → xs[j] ≠ (x, y) :=
  ne_step h hk (fun e2 => by rw [e2] at e; simp at e)

set_option maxRecDepth 8000 in
set_option maxHeartbeats 2000000 in
theorem l06Number_any (n : Nat) (c d : Int) (xs : List (Nat × Nat)) (v : Value) (mm : Nat) (w : World) (h : LineC w mm v xs) (hmm : mm ≤ w.heap.size) (hl : xs.length ≤ 3660) (hn : 1 ≤ n ∧ n ≤ 60) (hp : isPrC n c d = true) :
    Calls Try.prog 85 #[.int .i64 (n : Int), v, .int .i64 c, .int .i64 d] w fun e w' => e = .returned (.int .i64 (idxP xs (nrmC n c d))) ∧ Below w.heap.size w w' := by
  obtain ⟨x, hx, hxn, hx2⟩ := mod_nat c n hn.1
  obtain ⟨y, hy, hyn, hy2⟩ := mod_nat d n hn.1
  have HN := Lib.hid (show nrmC n c d = nrmN n x y by unfold nrmC; rw [hx2, hy2])
  have H1 := Lib.hid (fun w' : World => l01Mod_any c (n : Int) w' (by omega) (by omega))
  rw [hx] at H1
  have H2 := Lib.hid (fun w' : World => l01Mod_any d (n : Int) w' (by omega) (by omega))
  rw [hy] at H2
  have H3 := Lib.hid (fun w' : World => l06Normal_any n x y w' hn hxn hyn)
  unfold isPrC at hp
  rw [hx2, hy2] at hp
  rw [nrmV_pr hp] at H3
  simp only at H3
  clear hx hx2 hy hy2 hp
  obtain ⟨vo, vc, hv, HX0⟩ := id h
  subst hv
  have HX := Lib.hid HX0
  have HO := Lib.hid h
  clear h HX0
  generalize nrmN n x y = p at *
  obtain ⟨p1, p2⟩ := p
  simp only at H3
  go_enter Try.func85, Try.ntmps85
  go_wp2_with fail
  refine (H1.out _).mono ?_
  rintro e w1 ⟨rfl, hb⟩
  have k1 : Below w.heap.size w w1 := (by repeat (first | (with_reducible exact Below.refl _ _) | (with_reducible assumption) | (with_reducible refine Below.drew ?_) | (with_reducible refine Below.drewN ?_) | ((with_reducible refine Below.al ?_ ?_); · first | omega | (simp; done) | (simp; omega)) | ((with_reducible refine Below.sc ?_ ?_); · first | omega | (simp; done) | (simp; omega)) | ((with_reducible refine Below.thru hb ?_ ?_); · first | omega | (simp; done) | (simp; omega))))
  have s1 := k1.size
  clear hb
  go_wp2_with fail
  refine (H2.out _).mono ?_
  rintro e w2 ⟨rfl, hb⟩
  have k2 : Below w.heap.size w w2 := (by repeat (first | (with_reducible exact Below.refl _ _) | (with_reducible assumption) | (with_reducible refine Below.drew ?_) | (with_reducible refine Below.drewN ?_) | ((with_reducible refine Below.al ?_ ?_); · first | omega | (simp; done) | (simp; omega)) | ((with_reducible refine Below.sc ?_ ?_); · first | omega | (simp; done) | (simp; omega)) | ((with_reducible refine Below.thru hb ?_ ?_); · first | omega | (simp; done) | (simp; omega))))
  have s2 := k2.size
  clear hb
  go_wp2_with fail
  refine (H3.out _).mono ?_
  rintro e w3 ⟨rfl, hb⟩
  have k3 : Below w.heap.size w w3 := (by repeat (first | (with_reducible exact Below.refl _ _) | (with_reducible assumption) | (with_reducible refine Below.drew ?_) | (with_reducible refine Below.drewN ?_) | ((with_reducible refine Below.al ?_ ?_); · first | omega | (simp; done) | (simp; omega)) | ((with_reducible refine Below.sc ?_ ?_); · first | omega | (simp; done) | (simp; omega)) | ((with_reducible refine Below.thru hb ?_ ?_); · first | omega | (simp; done) | (simp; omega))))
  have s3 := k3.size
  clear hb k1 k2 HX H1 H2 H3
  obtain ⟨vo, vc, hv, HX0⟩ := HO.out.below (k3.mono hmm)
  obtain ⟨rfl, -, rfl⟩ : _ ∧ _ ∧ _ := by simpa only [Value.slice.injEq] using hv
  have HX := Lib.hid HX0
  clear hv HX0 HO
  go_wp2_with fail
  go_loopw [12] (fun i wr => ∃ k : Nat, k ≤ xs.length ∧ i = .int .i64 k ∧ Hid (∀ j (h1 : j < xs.length), j < k → xs[j] ≠ (p1, p2)) ∧ w3 = wr) (fun i _ => xs.length - (intOf i).toNat)
  case atStart => exact ⟨0, Nat.zero_le _, rfl, fun j _ h => absurd h (by omega), rfl⟩
  case round =>
    obtain ⟨k, hk, rfl, hall, rfl⟩ := hrel
    by_cases hlt : k < xs.length
    · obtain ⟨g, rfl, hg, hcs⟩ := HX.out (by omega)
      obtain ⟨g2, c2, hg2, d0, d1, d2⟩ := hcs k hlt
      clear hcs
      have i0 : (0 : Int) ≤ (k : Int) := by omega
      have i1 : (k : Int) < (xs.length : Int) := by omega
      have HS := Lib.hid (fun h => ne_step2 hall.out hlt h)
      have HT := Lib.hid (fun h => idxP_hit hall.out hlt h)
      generalize hxk : xs[k] = q at *
      obtain ⟨q1, q2⟩ := q
      simp only at d1 d2 HS
      clear hxk
      by_cases e1 : (q1 : Int) = (p1 : Int)
      · by_cases e2 : (q2 : Int) = (p2 : Int)
        · have HF := Lib.hid (HT.out (by rw [show q1 = p1 by omega, show q2 = p2 by omega]))
          go_wp2
          go_ret
          exact ⟨by rw [HN.out, HF.out]; rfl, k3⟩
        · have HF := Lib.hid (HS.out (.inr e2))
          go_wp2
          go_roundw
          case rel => exact ⟨k + 1, by omega, by go_num, HF, trivial⟩
          case measure => simp [intOf]; omega
      · have HF := Lib.hid (HS.out (.inl e1))
        go_wp2
        go_roundw
        case rel => exact ⟨k + 1, by omega, by go_num, HF, trivial⟩
        case measure => simp [intOf]; omega
    · obtain rfl : k = xs.length := by omega
      have HF := Lib.hid (idxP_none (fun j h1 h2 => hall.out j h1 h2))
      go_wp2
      go_ret
      exact ⟨by rw [HN.out, HF.out]; rfl, k3⟩

end Go.Proofs.Ytamkbgodenkboaa
