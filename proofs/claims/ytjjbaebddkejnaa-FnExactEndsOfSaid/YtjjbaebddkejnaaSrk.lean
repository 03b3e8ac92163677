/- The index of a level is the length of its line: checked for all levels; a line is not empty. -/
import Derived.Test.YtjjbaebddkejnaaLrd
import Derived.Test.YtjjbaebddkejnaaPl08Primex
import Derived.Test.YtjjbaebddkejnaaRls
import Derived.Test.YtjjbaebddkejnaaRlq
namespace Go.Proofs.Ytjjbaebddkejnaa
open Go.RowKit Go.Proofs.Ytjjbaebddkejnaa.Pl08Prime Go.Proofs.YtjjbaebddkejnaaW.PrintWords
set_option linter.unusedSimpArgs false

def idxF : Nat → Bool
  | 0 => true
  | n + 1 => bif decide (spec_IndexOf.f 100 0 ((n + 1 : Nat) : Int) = some ((cntF (n + 1) (n + 1) : Int), 0)) then idxF n else false
theorem idxF_ok {n : Nat} (h : idxF n = true) : ∀ k, 1 ≤ k → k ≤ n → spec_IndexOf.f 100 0 (k : Int) = some ((cntF k k : Int), 0) := by
  induction n with
  | zero => intro k h1 h2; omega
  | succ n ih =>
    intro k h1 h2
    rw [idxF] at h
    by_cases hd : spec_IndexOf.f 100 0 ((n + 1 : Nat) : Int) = some ((cntF (n + 1) (n + 1) : Int), 0)
    · rw [decide_eq_true hd] at h
      by_cases e : k = n + 1
      · subst e; exact hd
      · exact ih h k h1 (by omega)
    · rw [decide_eq_false hd] at h
      cases h
theorem idx60 : idxF 60 = true := by decide +kernel
theorem index_f {n : Nat} (hn : 1 ≤ n ∧ n ≤ 60) : spec_IndexOf.f 100 0 (n : Int) = some (((lineL n).length : Int), 0) := by
  rw [line_len]
  exact idxF_ok idx60 n hn.1 hn.2
theorem lnF_one (n : Nat) : ∀ k, k ≤ n - 1 → lnF n 0 (1 % n) k = true := by
  intro k
  induction k with
  | zero => intro _; rfl
  | succ k ih =>
    intro hk
    rw [lnF, beq_dec, ltF_dec]
    have h1 : ¬ ltP (Nat.mod (Nat.mul (k + 1) 0) n, Nat.mod (Nat.mul (k + 1) (1 % n)) n) (0, 1 % n) := by
      show ¬ ltP ((k + 1) * 0 % n, (k + 1) * (1 % n) % n) (0, 1 % n)
      rw [Nat.mod_eq_of_lt (by omega : 1 < n), Nat.mul_one, Nat.mod_eq_of_lt (by omega : k + 1 < n)]
      unfold ltP
      simp
    rw [decide_eq_false h1, ih (by omega)]
    cases decide (Nat.gcd (k + 1) n = 1) <;> rfl
theorem line_pos {n : Nat} (hn : 1 ≤ n) : 1 ≤ (lineL n).length := by
  have h : (0, 1 % n) ∈ lineL n := by
    refine mem_of_ln (by simp only; omega) (Nat.mod_lt _ (by omega)) ?_
    rw [← isLnF_eq]
    unfold isLnF
    rw [beq_dec]
    have : Nat.gcd (Nat.gcd 0 (1 % n)) n = 1 := by
      rw [Nat.gcd_zero_left]
      by_cases e : n = 1
      · subst e; rfl
      · rw [Nat.mod_eq_of_lt (by omega : 1 < n)]
        exact Nat.gcd_one_left n
    show (bif decide (Nat.gcd (Nat.gcd 0 (1 % n)) n = 1) then lnF n 0 (1 % n) (n - 1) else false) = true
    rw [decide_eq_true this]
    exact lnF_one n (n - 1) (Nat.le_refl _)
  exact List.length_pos_of_mem h

end Go.Proofs.Ytjjbaebddkejnaa

/- Rows of numbers in memory, as the printed functions read them. -/
namespace Go.Proofs.Ytjjbaebddkejnaa
open Go.RowKit Go.Proofs.Ytjjbaebddkejnaa.Pl08Prime Go.Proofs.YtjjbaebddkejnaaW.PrintWords
set_option linter.unusedSimpArgs false

theorem kd_ofI {w : World} {B : Nat} {v : Value} {l : List Int} (h : Own w B v l) : Kd.R (Kd.int .i64) 2 w B (fun _ => True) v l := by
  refine ⟨fun _ _ => trivial, l.flatMap encI.enc, h.toK, ?_, ?_⟩
  · rw [flat_len]; rfl
  · intro j p hp
    have hj : j < l.length := (List.getElem?_eq_some_iff.1 hp).1
    have e : l[j]? = some l[j] := List.getElem?_eq_getElem hj
    have hp2 : p = l[j] := by
      rw [e] at hp
      simpa using hp.symm
    have e2 := flat_get encI l j 0 l[j] (.int .i64 l[j]) e rfl
    show List.take 1 (List.drop (j * 1) _) = [Value.int .i64 p]
    rw [hp2]
    have hlt : j * 1 < (l.flatMap encI.enc).length := by rw [flat_len]; show j * 1 < l.length * 1; omega
    rw [List.drop_eq_getElem_cons hlt]
    have e3 : (l.flatMap encI.enc)[j * 1]? = some (.int .i64 l[j]) := e2
    rw [List.getElem?_eq_getElem hlt] at e3
    rw [Option.some.inj e3]
    rfl
theorem kd_rowC {w : World} {B : Nat} {s : Sl} {l : List Int} (h : Own w B s.v l) : s.n = l.length ∧ l.length ≤ s.c ∧ Kd.C (Kd.int .i64) w s.ao l.length l := by
  have := Kd.R_reads' (kd_ofI h)
  exact ⟨this.1, by omega, this.2.2⟩
/-- Rows as numbers. -/
def rowsI (css : List (List Nat)) : List (List Int) := css.map fun c => c.map Int.ofNat
theorem RowI.of {w : World} {B : Nat} {vs : List Sl} {css : List (List Nat)} (R : RowA w B vs css) : RowI w B vs (rowsI css) := by
  refine ⟨by rw [rowsI, List.length_map]; exact R.1, fun j s c h1 h2 => ?_⟩
  rw [rowsI, List.getElem?_map] at h2
  obtain ⟨d, hd, rfl⟩ := Option.map_eq_some_iff.1 h2
  exact R.2 j s d h1 hd
end Go.Proofs.Ytjjbaebddkejnaa

/- The reference's RankOf. -/
namespace Go.Proofs.Ytjjbaebddkejnaa
open Go.RowKit Go.Proofs.Ytjjbaebddkejnaa.Pl08Prime Go.Proofs.YtjjbaebddkejnaaW.PrintWords
set_option linter.unusedSimpArgs false

/-- The error of a level. -/
def lvCode (n : Int) : Int := if 1 ≤ n ∧ n ≤ 60 then (if 72 < (lineL n.toNat).length then 3 else 0) else 2
instance (p : Int) : Decidable (PrimeP p) := by unfold PrimeP; infer_instance
/-- The error of a level and a prime. -/
def rkCode (n p : Int) : Int := if PrimeP p then lvCode n else 2
theorem in_f (a b c : Int) : spec_l01In.f a b c = some (decide (b ≤ a ∧ a ≤ c)) := by
  unfold spec_l01In.f
  by_cases h : b ≤ a
  · rw [if_pos h]
    simp [h]
  · rw [if_neg h]
    simp [h]
theorem code_f (n : Int) : spec_l08Code.f 100 n = some (lvCode n) := by
  unfold spec_l08Code.f lvCode
  rw [in_f]
  by_cases h : 1 ≤ n ∧ n ≤ 60
  · obtain ⟨m, rfl⟩ := Int.eq_ofNat_of_zero_le (by omega : 0 ≤ n)
    have := index_f (n := m) (by omega)
    simp only [Option.bind_some, h, decide_true, if_true, this, Int.toNat_natCast, and_self]
    by_cases h2 : 72 < (lineL m).length
    · rw [if_pos h2, if_pos (by omega)]
    · rw [if_neg h2, if_neg (by omega)]
  · simp only [Option.bind_some, h, decide_false, if_false]
    rfl
theorem sums_f (n : Int) : spec_l08Sums.f 100 n [] = some (lvCode n) := by
  unfold spec_l08Sums.f
  rw [code_f, Option.bind_some]
  by_cases h : lvCode n = 0
  · rw [if_pos h, h]
    have hn : 1 ≤ n ∧ n ≤ 60 := by
      unfold lvCode at h
      apply Classical.byContradiction
      intro hc
      rw [if_neg hc] at h
      cases h
    obtain ⟨m, rfl⟩ := Int.eq_ofNat_of_zero_le (by omega : 0 ≤ n)
    rw [index_f (n := m) (by omega), Option.bind_some, spec_l08Sums.l0, if_neg (by simp)]
  · rw [if_neg h]
theorem prime_f (n p : Int) : spec_l08Prime.f 100 n p [] = some (rkCode n p) := by
  unfold spec_l08Prime.f rkCode PrimeP
  rw [sums_f]
  by_cases h1 : p = 5
  · simp [h1]
  · by_cases h2 : p = 7
    · simp [h2]
    · by_cases h3 : p = 11
      · simp [h3]
      · by_cases h4 : p = 101
        · simp [h4]
        · by_cases h5 : p = 10007
          · simp [h5]
          · simp [h1, h2, h3, h4, h5]
/-- What RankOf gives. -/
def GivesRk (n p : Int) (w : World) (e : Ending) (w' : World) : Prop :=
  Below w.heap.size w w' ∧ ((rkCode n p ≠ 0 ∧ e = .returned (.tuple #[.int .i64 0, .int .i64 (rkCode n p)])) ∨ (rkCode n p = 0 ∧ ∃ U : List (Nat × List Int), Red p (lineL n.toNat).length (rowsI (relL n.toNat)) U ∧ e = .returned (.tuple #[.int .i64 (U.length : Int), .int .i64 0])))
theorem rk_zero {n p : Int} (h : rkCode n p = 0) : PrimeP p ∧ (1 ≤ n ∧ n ≤ 60) ∧ (lineL n.toNat).length ≤ 72 := by
  unfold rkCode lvCode at h
  split at h
  · rename_i h1
    split at h
    · rename_i h2
      split at h
      · cases h
      · exact ⟨h1, h2, by omega⟩
    · cases h
  · cases h
set_option maxRecDepth 8000 in
set_option maxHeartbeats 2000000 in
theorem specRankOf_any (n p : Int) (w : World) : Calls Try.prog 8 #[.int .i64 n, .int .i64 p] w (GivesRk n p w) := by
  obtain ⟨GF, hGF⟩ : ∃ GF, GivesRk n p w = GF := ⟨_, rfl⟩
  rw [hGF]
  have HGF := Lib.hid hGF
  have HP := Lib.hid (fun w' : World => spec_l08Prime.calls 100 n p none 0 [] (rkCode n p) w' ⟨rfl, by decide, fun h => absurd h (by decide)⟩ (Nat.le_refl _) (prime_f n p))
  have HZ := Lib.hid (fun h => rk_zero (n := n) (p := p) h)
  clear hGF
  go_enter Try.func8, Try.ntmps8
  go_wp2_with fail
  refine (HP.out _).mono ?_
  rintro e w1 ⟨rfl, d1⟩
  have k1 := d1.below
  obtain ⟨c, hc⟩ : ∃ c, rkCode n p = c := ⟨_, rfl⟩
  rw [hc]
  have HC := Lib.hid hc
  by_cases h0 : c = 0
  · subst h0
    obtain ⟨hpp, hn, hl⟩ := HZ.out hc
    clear hc d1
    obtain ⟨m, rfl⟩ := Int.eq_ofNat_of_zero_le (by omega : 0 ≤ n)
    have hm : 1 ≤ m ∧ m ≤ 60 := by omega
    clear hn
    simp only [Int.toNat_natCast] at hl
    have HLN := Lib.hid (fun w' : World => l06Line_any m w' hm)
    have HFIN := Lib.hid (show ∀ (U : List (Nat × List Int)) (w w' : World) (e : Ending), Red p (lineL m).length (rowsI (relL m)) U → Below w.heap.size w w' → e = .returned (.tuple #[.int .i64 (U.length : Int), .int .i64 0]) → GivesRk m p w e w' from fun U w w' e hU hb he => ⟨hb, .inr ⟨HC.out, U, by rw [Int.toNat_natCast]; exact hU, he⟩⟩)
    have HRC := Lib.hid (fun (v : Value) (vs : List Sl) (B : Nat) (w' : World) O R => l08Reduced_any (p := p) (N := (lineL m).length) (rowsI (relL m)) v vs B w' hpp ⟨line_pos hm.1, by omega⟩ (by simp only [rowsI, List.length_map, relL_len]; omega) (fun r hr => by
      simp only [rowsI, List.mem_map] at hr
      obtain ⟨x, hx, rfl⟩ := hr
      rw [List.length_map]
      exact relL_row hx) O R)
    have HRL := Lib.hid (fun (v : Value) (w' : World) h => l08Relations_any m v w' hm (line_pos hm.1) hl h)
    have HKD := Lib.hid (fun (B : Nat) (w' : World) (vs : List Sl) R => RowI.of (w := w') (B := B) (vs := vs) (css := relL m) R)
    have HLC := Lib.hid (fun (B : Nat) (w' : World) (v : Value) (vs : List Sl) O R => LineC.of (w := w') (B := B) (v := v) (vs := vs) (xs := lineL m) O R)
    clear hl
    generalize rowsI (relL m) = RI at *
    generalize relL m = RL at *
    generalize lineL m = LL at *
    go_wp2_with fail
    refine (HLN.out _).mono ?_
    rintro e w2 ⟨v2, vs2, rfl, O2, R2, k2⟩
    have LC2 := HLC.out _ _ _ _ O2 R2
    clear O2 R2
    go_wp2_with fail
    refine (HRL.out _ _ LC2).mono ?_
    rintro e w3 ⟨v3, vs3, rfl, O3, R3, k3⟩
    have R3' := HKD.out _ _ _ R3
    clear R3 LC2
    go_wp2_with fail
    refine (HRC.out _ _ _ _ O3 R3').mono ?_
    rintro e w4 ⟨v4, vs4, U, rfl, O4, R4, hU, -, k4⟩
    obtain ⟨A4, c4, rfl⟩ := O4.len
    have hl4 : vs4.length = U.length := by rw [R4.1, List.length_map]
    rw [hl4]
    have HUU := Lib.hid hU
    clear O4 R4 O3 R3' hl4 hU
    go_wp2
    rw [← HGF.out]
    have s1 := k1.size
    have s2 := k2.size
    have s3 := k3.size
    exact HFIN.out U _ _ _ HUU.out (((k1.trans (k2.mono s1)).trans (k3.mono (by omega))).trans (k4.mono (by omega))) rfl
  · go_wp2
    rw [← HGF.out]
    refine ⟨k1, .inl ⟨by rw [HC.out]; exact h0, by rw [HC.out]; rfl⟩⟩

end Go.Proofs.Ytjjbaebddkejnaa
