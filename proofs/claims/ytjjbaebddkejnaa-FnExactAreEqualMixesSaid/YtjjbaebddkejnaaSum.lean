/- The error of a level, a prime and mixes: what the reference's l08Prime computes (plain law over the printed functions). -/
import Derived.Test.YtjjbaebddkejnaaSrk
namespace Go.Proofs.Ytjjbaebddkejnaa
open Go.RowKit Go.Proofs.Ytjjbaebddkejnaa.PFnExactAreEqualMixes Go.Proofs.YtjjbaebddkejnaaW.PrintWords
set_option linter.unusedSimpArgs false

theorem Ev.of {α : Type} {g : Nat → Option α} {r : α} {K : Nat} (hm : ∀ k, LeO (g k) (g (k + 1))) (h : g K = some r) : Ev g r := by
  refine ⟨K, fun k hk => ?_⟩
  obtain ⟨d, rfl⟩ := Nat.le.dest hk
  clear hk
  induction d with
  | zero => exact h
  | succ d ih => exact hm _ r ih
def entM (a : Int) : Bool := decide (-1000000 ≤ a ∧ a ≤ 1000000)
/-- A mix of a line of N places. -/
def okX (N : Nat) (x : List Int) : Bool := x.length == N && x.all entM
theorem sums_l1 {xs : List (List Int)} {N i : Nat} {x : List Int} (hi : i < xs.length) (hx : xs.getD i [] = x) (hN : x.length ≤ 1000) (hs : xs.length ≤ 1000) (R : Int) (h : Ev (fun g => spec_l08Sums.l0 g xs (N : Int) ((i + 1 : Nat) : Int)) R) :
    ∀ m j, x.length - j = m → j ≤ x.length → Ev (fun g => spec_l08Sums.l1 g xs (N : Int) (i : Int) (j : Int)) (if (x.drop j).all entM = true then R else 2) := by
  intro m
  induction m with
  | zero =>
    intro j hm hj
    have : j = x.length := by omega
    subst this
    rw [List.drop_length, List.all_nil, if_pos rfl]
    refine h.step fun g => ?_
    rw [spec_l08Sums.l1, if_pos (by omega), if_pos (by omega), rd_L1_nat, hx, if_neg (by omega), IntWalk.wrap64_in _ (by omega)]
    rfl
  | succ m ih =>
    intro j hm hj
    have hjt : j < x.length := by omega
    have e : vec x j = x[j] := by rw [vec, List.getD_eq_getElem?_getD, List.getElem?_eq_getElem hjt]; rfl
    have hd : (x.drop j).all entM = (entM x[j] && (x.drop (j + 1)).all entM) := by rw [List.drop_eq_getElem_cons hjt, List.all_cons]
    by_cases hb : -1000000 ≤ x[j] ∧ x[j] ≤ 1000000
    · have := ih (j + 1) (by omega) (by omega)
      rw [hd, show entM x[j] = true from decide_eq_true hb, Bool.true_and]
      refine this.step fun g => ?_
      rw [spec_l08Sums.l1, if_pos (by omega), if_pos (by omega), rd_L1_nat, hx, if_pos (by omega), if_pos (by omega), rd_nat, in_f, Option.bind_some, e, if_pos (decide_eq_true hb), IntWalk.wrap64_in _ (by omega)]
      rfl
    · rw [hd, show entM x[j] = false from decide_eq_false hb, Bool.false_and, if_neg (by simp)]
      refine (Ev.const (2 : Int)).step fun g => ?_
      rw [spec_l08Sums.l1, if_pos (by omega), if_pos (by omega), rd_L1_nat, hx, if_pos (by omega), if_pos (by omega), rd_nat, in_f, Option.bind_some, e, if_neg (by simpa using hb)]
theorem sums_l0 {xs : List (List Int)} {N : Nat} (hN : N ≤ 1000) (hs : xs.length ≤ 1000) :
    ∀ m i, xs.length - i = m → i ≤ xs.length → Ev (fun g => spec_l08Sums.l0 g xs (N : Int) (i : Int)) (if (xs.drop i).all (okX N) = true then 0 else 2) := by
  intro m
  induction m with
  | zero =>
    intro i hm hi
    have : i = xs.length := by omega
    subst this
    rw [List.drop_length, List.all_nil, if_pos rfl]
    refine (Ev.const (0 : Int)).step fun g => ?_
    rw [spec_l08Sums.l0, if_neg (by omega)]
  | succ m ih =>
    intro i hm hi
    have hit : i < xs.length := by omega
    have e : xs.getD i [] = xs[i] := by rw [List.getD_eq_getElem?_getD, List.getElem?_eq_getElem hit]; rfl
    have hd : (xs.drop i).all (okX N) = (okX N xs[i] && (xs.drop (i + 1)).all (okX N)) := by rw [List.drop_eq_getElem_cons hit, List.all_cons]
    by_cases hl : xs[i].length = N
    · have h1 := sums_l1 hit e (by omega) hs _ (ih (i + 1) (by omega) (by omega)) xs[i].length 0 (by omega) (by omega)
      rw [List.drop_zero] at h1
      have e2 : (if (xs.drop i).all (okX N) = true then (0 : Int) else 2) = if xs[i].all entM = true then (if (xs.drop (i + 1)).all (okX N) = true then 0 else 2) else 2 := by
        rw [hd, okX, show (xs[i].length == N) = true by simpa using hl, Bool.true_and]
        cases xs[i].all entM <;> simp
      rw [e2]
      refine h1.step fun g => ?_
      rw [spec_l08Sums.l0, if_pos (by omega), if_pos (by omega), rd_L1_nat, e, if_pos (by omega)]
      rfl
    · rw [hd, okX, show (xs[i].length == N) = false by simpa using hl, Bool.false_and, Bool.false_and, if_neg (by simp)]
      refine (Ev.const (2 : Int)).step fun g => ?_
      rw [spec_l08Sums.l0, if_pos (by omega), if_pos (by omega), rd_L1_nat, e, if_neg (by omega)]
/-- The error of a level and mixes. -/
def sumC (n : Int) (xs : List (List Int)) : Int := if lvCode n = 0 then (if xs.all (okX (lineL n.toNat).length) = true then 0 else 2) else lvCode n
/-- The error of a level, a prime and mixes. -/
def goC (n p : Int) (xs : List (List Int)) : Int := if PrimeP p then sumC n xs else 2
theorem lv_zero {n : Int} (h : lvCode n = 0) : (1 ≤ n ∧ n ≤ 60) ∧ (lineL n.toNat).length ≤ 72 := by
  unfold lvCode at h
  split at h
  · rename_i h2
    split at h
    · cases h
    · exact ⟨h2, by omega⟩
  · cases h
theorem sumC_ev (n : Int) (xs : List (List Int)) (hs : xs.length ≤ 1000) : Ev (fun g => spec_l08Sums.f g n xs) (sumC n xs) := by
  have hc : Ev (fun g => spec_l08Code.f g n) (lvCode n) := Ev.of (fun k => spec_l08Code.mono n k) (code_f n)
  have H : Ev (fun g => (spec_l08Code.f g n).bind fun t113 => (if t113 = 0 then ((spec_IndexOf.f g 0 n).bind fun bt114 => (spec_l08Sums.l0 g xs bt114.1 0)) else (some t113))) (sumC n xs) := by
    refine Ev.bind (g := fun g t113 => if t113 = 0 then ((spec_IndexOf.f g 0 n).bind fun bt114 => (spec_l08Sums.l0 g xs bt114.1 0)) else (some t113)) hc ?_
    by_cases h : lvCode n = 0
    · obtain ⟨hn, hl⟩ := lv_zero h
      obtain ⟨m, rfl⟩ := Int.eq_ofNat_of_zero_le (by omega : 0 ≤ n)
      rw [Int.toNat_natCast] at hl
      have hx : Ev (fun g => spec_IndexOf.f g 0 (m : Int)) (((lineL m).length : Int), 0) := Ev.of (fun k => spec_IndexOf.mono 0 m k) (index_f (by omega))
      simp only [h, if_true]
      refine Ev.bind (g := fun g bt114 => spec_l08Sums.l0 g xs bt114.1 0) hx ?_
      rw [sumC, if_pos h, Int.toNat_natCast]
      exact sums_l0 (N := (lineL m).length) (by omega) hs xs.length 0 (by omega) (by omega)
    · simp only [h, if_false]
      rw [sumC, if_neg h]
      exact Ev.const _
  exact H
theorem goC_ev (n p : Int) (xs : List (List Int)) (hs : xs.length ≤ 1000) : Ev (fun g => spec_l08Prime.f g n p xs) (goC n p xs) := by
  have h := sumC_ev n xs hs
  have hb : ∀ g, ((spec_l08Sums.f g n xs).bind fun t => some t) = spec_l08Sums.f g n xs := fun g => by cases spec_l08Sums.f g n xs <;> rfl
  unfold spec_l08Prime.f goC PrimeP
  simp only [hb]
  by_cases h1 : p = 5
  · simp only [h1, if_true, true_or]; exact h
  · by_cases h2 : p = 7
    · simp only [h1, h2, if_true, if_false, true_or, or_true]; exact h
    · by_cases h3 : p = 11
      · simp only [h1, h2, h3, if_true, if_false, true_or, or_true]; exact h
      · by_cases h4 : p = 101
        · simp only [h1, h2, h3, h4, if_true, if_false, true_or, or_true]; exact h
        · by_cases h5 : p = 10007
          · simp only [h1, h2, h3, h4, h5, if_true, if_false, true_or, or_true]; exact h
          · simp only [h1, h2, h3, h4, h5, if_false, or_false]; exact Ev.const _

end Go.Proofs.Ytjjbaebddkejnaa
