/- The reference's l08Goes. -/
import Derived.Test.YtjjbaebddkejnaaSum
namespace Go.Proofs.Ytjjbaebddkejnaa
open Go.RowKit Go.Proofs.Ytjjbaebddkejnaa.Pl08Prime Go.Proofs.YtjjbaebddkejnaaW.PrintWords
set_option linter.unusedSimpArgs false

/-- A slice that came in, as the printed functions read it. -/
theorem kd_slIn {w : World} {ao : Option Addr} {c : Nat} {xs : List Int} (h : SlIn w .i64 (.slice ao xs.length c) xs) : xs.length ≤ c ∧ Kd.C (Kd.int .i64) w ao xs.length xs := by
  rcases h with ⟨h1, rfl⟩ | ⟨a, cap, h1, h2, h3, h4⟩
  · cases h1
    exact ⟨Nat.le_refl _, rfl, by decide, fun h => absurd h (by decide)⟩
  · injection h1 with h1 _ h5
    subst h1 h5
    refine ⟨h2, rfl, by unfold maxLen at h3; omega, fun _ => ⟨a, rfl, fun j q hq => ?_⟩⟩
    obtain ⟨hj, e⟩ := List.getElem?_eq_some_iff.1 hq
    refine ⟨[.int .i64 q], rfl, rfl, fun i u hu => ?_⟩
    match i, hu with
    | 0, hu =>
      simp only [List.getElem?_cons_zero, Option.some.injEq] at hu
      subst hu
      show w.cell? (a.add (j * 1 + 0)) = _
      rw [show j * 1 + 0 = j by omega, h4 j hj, e]
/-- Is a mix a sum of multiples of the relations? -/
def SpR (n : Nat) (p : Int) (x : List Int) : Prop := Sp p (lineL n).length (fun r => ∃ y ∈ rowsI (relL n), r = vec y) (vec x)
theorem zero_dvd {p : Int} {N : Nat} {ys : List Int} (hg : GoodV p N ys) : (∀ k, k < N → vec ys k = 0) ↔ ∀ k, k < N → p ∣ vec ys k := by
  refine ⟨fun h k hk => by rw [h k hk]; exact ⟨0, by simp⟩, fun h k hk => ?_⟩
  have hb := hg.2 k hk
  have := Int.emod_eq_of_lt hb.1 hb.2
  rw [← this]
  exact Int.emod_eq_zero_of_dvd (h k hk)
/-- Nothing is left just of the sums of multiples. -/
theorem left_iff {p : Int} {N : Nat} {rows : List (List Int)} {U : List (Nat × List Int)} {x ys : List Int} (hU : Red p N rows U) (ht : Tri p (U.map vr)) (hg : GoodV p N ys) (hy : ∀ k, k < N → p ∣ vec ys k - red (U.map vr) (vec x) k) :
    (∀ k, k < N → vec ys k = 0) ↔ Sp p N (fun r => ∃ y ∈ rows, r = vec y) (vec x) := by
  rw [zero_dvd hg]
  have h1 : (∀ k, k < N → p ∣ vec ys k) ↔ ∀ k, k < N → p ∣ red (U.map vr) (vec x) k := by
    constructor
    · intro h k hk
      obtain ⟨u, hu⟩ := h k hk
      obtain ⟨v, hv⟩ := hy k hk
      exact ⟨u - v, by grind⟩
    · intro h k hk
      obtain ⟨u, hu⟩ := h k hk
      obtain ⟨v, hv⟩ := hy k hk
      exact ⟨u + v, by grind⟩
  rw [h1, red_zero_iff hU.rows ht]
  exact ⟨fun h => h.mono hU.s1, fun h => h.mono hU.s2⟩
def GivesGo (n : Nat) (p : Int) (x : List Int) (w : World) (e : Ending) (w' : World) : Prop := ∃ b : Bool, e = .returned (.bool b) ∧ (b = true ↔ SpR n p x) ∧ Below w.heap.size w w'

set_option maxRecDepth 8000 in
set_option maxHeartbeats 2000000 in
theorem l08Goes_any (m : Nat) (p : Int) (v : Value) (x : List Int) (w : World) (hpp : PrimeP p) (hm : 1 ≤ m ∧ m ≤ 60) (hl : (lineL m).length ≤ 72) (hx : x.length = (lineL m).length) (hv : SlIn w .i64 v x) :
    Calls Try.prog 30 #[.int .i64 (m : Int), .int .i64 p, v] w (GivesGo m p x w) := by
  obtain ⟨GF, hGF⟩ : ∃ GF, GivesGo m p x w = GF := ⟨_, rfl⟩
  rw [hGF]
  have HGF := Lib.hid hGF
  clear hGF
  have HLN := Lib.hid (fun w' : World => l06Line_any m w' hm)
  have HFIN := Lib.hid (show ∀ (U : List (Nat × List Int)) (ys : List Int), Red p (lineL m).length (rowsI (relL m)) U → Tri p (U.map vr) → GoodV p (lineL m).length ys → (∀ k, k < (lineL m).length → p ∣ vec ys k - red (U.map vr) (vec x) k) → ∀ (w' : World) (e : Ending) (b : Bool), (b = true ↔ ∀ k, k < (lineL m).length → vec ys k = 0) → Below w.heap.size w w' → e = .returned (.bool b) → GivesGo m p x w e w' from
    fun U ys hU hT hyg hyr w' e b h1 h2 h3 => ⟨b, h3, h1.trans (left_iff hU hT hyg hyr), h2⟩)
  have HRC := Lib.hid (fun (v : Value) (vs : List Sl) (B : Nat) (w' : World) O R => l08Reduced_any (p := p) (N := (lineL m).length) (rowsI (relL m)) v vs B w' hpp ⟨line_pos hm.1, by omega⟩ (by simp only [rowsI, List.length_map, relL_len]; omega) (fun r hr => by
    simp only [rowsI, List.mem_map] at hr
    obtain ⟨x, hx, rfl⟩ := hr
    rw [List.length_map]
    exact relL_row hx) O R)
  have HLC2 := Lib.hid (fun (U : List (Nat × List Int)) (hU : Red p (lineL m).length (rowsI (relL m)) U) (v u : Value) (vs : List Sl) (B : Nat) (w' : World) h1 h2 h3 => l08Left_any (p := p) (N := (lineL m).length) U x v u vs B w' hpp (by omega) (by have := hU.le; omega) hU.good hx h1 h2 h3)
  have HRL := Lib.hid (fun (v : Value) (w' : World) h => l08Relations_any m v w' hm (line_pos hm.1) hl h)
  have HKD := Lib.hid (fun (B : Nat) (w' : World) (vs : List Sl) R => RowI.of (w := w') (B := B) (vs := vs) (css := relL m) R)
  have HLC := Lib.hid (fun (B : Nat) (w' : World) (v : Value) (vs : List Sl) O R => LineC.of (w := w') (B := B) (v := v) (vs := vs) (xs := lineL m) O R)
  have HV := Lib.hid hv
  obtain ⟨xo, xc, rfl, -⟩ := hv.form
  clear hv
  generalize rowsI (relL m) = RI at *
  generalize relL m = RL at *
  have HX := Lib.hid hx
  clear hx
  obtain ⟨N, hN⟩ : ∃ N, (lineL m).length = N := ⟨_, rfl⟩
  rw [hN] at HFIN HX hl HRC HLC2
  generalize lineL m = LL at *
  clear hN
  go_enter Try.func30, Try.ntmps30
  go_wp2_with fail
  refine (HLN.out _).mono ?_
  rintro e w2 ⟨v2, vs2, rfl, O2, R2, k2⟩
  have LC2 := HLC.out _ _ _ _ O2 R2
  clear O2 R2
  go_wp2_with fail
  refine (HRL.out _ _ LC2).mono ?_
  rintro e w3 ⟨v3, vs3, rfl, O3, R3, k3⟩
  have R3' := HKD.out _ _ _ R3
  clear R3 LC2
  go_wp2_with fail
  refine (HRC.out _ _ _ _ O3 R3').mono ?_
  rintro e w4 ⟨v4, vs4, U, rfl, O4, R4, hU, hUT, k4⟩
  clear O3 R3'
  have s2 := k2.size
  have s3 := k3.size
  have kw4 : Below w.heap.size w w4 := ((k2.trans (k3.mono s2)).trans (k4.mono (by omega)))
  have hxx := SlIn.below kw4 HV.out
  clear k2 k3 k4
  go_wp2_with fail
  refine (HLC2.out U hU _ _ _ _ _ hxx O4 R4).mono ?_
  rintro e w5 ⟨v5, ys, rfl, O5, hyg, hyr, k5⟩
  have s4 := kw4.size
  have kw5 : Below w.heap.size w w5 := kw4.trans (k5.mono s4)
  replace HFIN := Lib.hid (HFIN.out U ys hU hUT hyg hyr)
  have hyl := hyg.1
  obtain ⟨A5, c5, rfl, hc5⟩ := O5.slIn.form
  rw [hyl]
  have HKC := Lib.hid (show ∀ (i : Nat), i < N → ∃ a, A5 = some a ∧ w5.cell? (a.add i) = some (.int .i64 (vec ys i)) from fun i hi => by
    obtain ⟨a, ha, h⟩ := hc5 (by omega)
    refine ⟨a, ha, ?_⟩
    rw [h i (by omega), vec_at])
  clear O5 hyg hyr k5 kw4 hxx O4 R4 hU hUT hyl hc5
  go_wp2_with fail
  go_loopw [8] (fun i wr => ∃ k : Nat, k ≤ N ∧ i = .int .i64 k ∧ Hid (∀ j, j < k → vec ys j = 0) ∧ Below w5.heap.size w5 wr) (fun i _ => N - (intOf i).toNat)
  case atStart => exact ⟨0, Nat.zero_le _, rfl, Lib.hid fun j hj => absurd hj (by omega), Below.refl _ _⟩
  case round =>
    obtain ⟨k, hk, rfl, hz, kwr⟩ := hrel
    have kwf : Below w.heap.size w wr := kw5.trans (kwr.mono kw5.size)
    by_cases hlt : k < N
    · obtain ⟨a, rfl, hc⟩ := HKC.out k hlt
      have c1 : wr.cell? (a.add k) = some (.int .i64 (vec ys k)) := by
        rw [kwr.cell (block_lt_of_cell hc :)]
        exact hc
      have i0 : (0 : Int) ≤ (k : Int) := by omega
      have i1 : (k : Int) < (N : Int) := by omega
      have HE := Lib.hid (show ∀ c, vec ys k = c → vec ys k = c from fun _ h => h)
      obtain ⟨c, hcc⟩ : ∃ c, vec ys k = c := ⟨_, rfl⟩
      rw [hcc] at c1
      have HCC := Lib.hid hcc
      clear hc hcc HE
      by_cases h0 : c = 0
      · subst h0
        go_wp2
        go_roundw
        case rel => exact ⟨k + 1, by omega, by go_num, Lib.hid (fun j hj => by
          by_cases e : j = k
          · rw [e]; exact HCC.out
          · exact hz.out j (by omega)), kwr⟩
        case measure => first | (simp [intOf]; done) | (simp [intOf]; omega)
      · have H0 := Lib.hid h0
        go_wp2
        rw [← HGF.out]
        exact HFIN.out _ _ false ⟨fun h => (by cases h), fun h => absurd (HCC.out.symm.trans (h k hlt)) H0.out⟩ kwf rfl
    · obtain rfl : N = k := by omega
      go_wp2
      rw [← HGF.out]
      exact HFIN.out _ _ true ⟨fun _ => hz.out, fun _ => rfl⟩ kwf rfl

/-- The error of a mix. -/
theorem goC_eq (n p : Int) (xs : List (List Int)) : goC n p xs = if rkCode n p = 0 then (if xs.all (okX (lineL n.toNat).length) = true then 0 else 2) else rkCode n p := by
  unfold goC sumC rkCode
  by_cases h : PrimeP p
  · simp only [if_pos h]
  · simp only [if_neg h]
    rfl
def GivesGoes (n p : Int) (x : List Int) (w : World) (e : Ending) (w' : World) : Prop :=
  Below w.heap.size w w' ∧ ((goC n p [x] ≠ 0 ∧ e = .returned (.tuple #[.bool false, .int .i64 (goC n p [x])])) ∨ (goC n p [x] = 0 ∧ ∃ b : Bool, (b = true ↔ SpR n.toNat p x) ∧ e = .returned (.tuple #[.bool b, .int .i64 0])))
theorem go_zero {n p : Int} {xs : List (List Int)} (h : goC n p xs = 0) : rkCode n p = 0 ∧ xs.all (okX (lineL n.toNat).length) = true := by
  rw [goC_eq] at h
  by_cases h1 : rkCode n p = 0
  · rw [if_pos h1] at h
    split at h
    · exact ⟨h1, by assumption⟩
    · cases h
  · rw [if_neg h1] at h
    exact absurd h h1
theorem okX_len {N : Nat} {x : List Int} (h : okX N x = true) : x.length = N := by
  unfold okX at h
  rw [Bool.and_eq_true] at h
  simpa using h.1
/-- A block of one slice, as the printed functions read it. -/
theorem kd_one {w : World} {g : Nat} {v : Value} {x : List Int} (hv : SlIn w .i64 v x) (hb : Blk w g 25 #[v]) : Kd.C (Kd.slice 2 (Kd.int .i64)) w (some ⟨g, 0, none⟩) [x].length [x] := by
  obtain ⟨xo, xc, rfl, -⟩ := hv.form
  refine ⟨rfl, by simp, fun _ => ⟨⟨g, 0, none⟩, rfl, fun j q hq => ?_⟩⟩
  match j, hq with
  | 0, hq =>
    simp only [List.getElem?_cons_zero, Option.some.injEq] at hq
    subst hq
    have h := kd_slIn hv
    refine ⟨[.slice xo x.length xc], rfl, ⟨xo, xc, rfl, h.1, h.2⟩, fun i u hu => ?_⟩
    match i, hu with
    | 0, hu =>
      simp only [List.getElem?_cons_zero, Option.some.injEq] at hu
      subst hu
      exact hb.at (i := 0) rfl

set_option maxRecDepth 8000 in
set_option maxHeartbeats 1000000 in
theorem specGoes_any (n p : Int) (v : Value) (x : List Int) (w : World) (hv : SlIn w .i64 v x) : Calls Try.prog 12 #[.int .i64 n, .int .i64 p, v] w (GivesGoes n p x w) := by
  obtain ⟨GF, hGF⟩ : ∃ GF, GivesGoes n p x w = GF := ⟨_, rfl⟩
  rw [hGF]
  have HGF := Lib.hid hGF
  obtain ⟨K, hK⟩ := goC_ev n p [x] (by simp)
  have HP := Lib.hid (fun (g c : Nat) (w' : World) h1 h2 => spec_l08Prime.calls K n p (some ⟨g, 0, none⟩) c [x] (goC n p [x]) w' h1 h2 (hK K (Nat.le_refl _)))
  have HZ := Lib.hid (fun h => go_zero (n := n) (p := p) (xs := [x]) h)
  have HV := Lib.hid hv
  obtain ⟨xo, xc, rfl, -⟩ := hv.form
  clear hGF hK hv
  go_enter Try.func12, Try.ntmps12
  go_wp2_with fail
  refine (HP.out _ _ _ (kd_one (SlIn.alloc HV.out) (Blk.new rfl)) (Nat.le_refl _)).mono ?_
  rintro e w1 ⟨rfl, d1⟩
  have k1 : Below w.heap.size w w1 := ((Below.refl w.heap.size w).alloc (Nat.le_refl _) _).trans (d1.below.mono (by simp))
  have s1 := k1.size
  clear d1
  obtain ⟨c, hc⟩ : ∃ c, goC n p [x] = c := ⟨_, rfl⟩
  rw [hc]
  have HC := Lib.hid hc
  by_cases h0 : c = 0
  · subst h0
    obtain ⟨hz, hok⟩ := HZ.out hc
    obtain ⟨hpp, hn, hl⟩ := rk_zero hz
    obtain ⟨m, rfl⟩ := Int.eq_ofNat_of_zero_le (by omega : 0 ≤ n)
    rw [Int.toNat_natCast] at hl hok
    have hxl : x.length = (lineL m).length := okX_len (by simpa using hok)
    have HG := Lib.hid (fun w' h => l08Goes_any m p (.slice xo x.length xc) x w' hpp (by omega) hl hxl h)
    clear hc hz hok hn hl hxl HZ HP
    go_wp2_with fail
    refine (HG.out _ (SlIn.below k1 HV.out)).mono ?_
    rintro e w2 ⟨b, rfl, hb, k2⟩
    have HB := Lib.hid hb
    clear hb
    go_wp2
    rw [← HGF.out]
    exact ⟨k1.trans (k2.mono s1), .inr ⟨HC.out, b, by rw [Int.toNat_natCast]; exact HB.out, rfl⟩⟩
  · have H0 := Lib.hid h0
    go_wp2
    rw [← HGF.out]
    exact ⟨k1, .inl ⟨by rw [HC.out]; exact H0.out, by rw [HC.out]; rfl⟩⟩

end Go.Proofs.Ytjjbaebddkejnaa
