/- The chain of a matrix: plain law. -/
import Derived.Test.YtcapmljnhflopaaFloor
namespace Go.Proofs.Ytcapmljnhflopaa
open Go.RowKit

/-- The next number of the chain, and the next matrix. -/
def chQ1 (m : M) : Int := flr (2 * m.a + m.c) (2 * m.c)
def chS (m : M) : M := ⟨m.c, m.d, chQ1 m * m.c - m.a, chQ1 m * m.d - m.b⟩
def chM (m : M) : Nat → M
  | 0 => m
  | k + 1 => chS (chM m k)
/-- The first k numbers. -/
def chQs (m : M) (k : Nat) : List Int := (List.range k).map fun j => chQ1 (chM m j)
theorem chQs_len (m : M) (k : Nat) : (chQs m k).length = k := by simp [chQs]
theorem chQs_succ (m : M) (k : Nat) : chQs m (k + 1) = chQs m k ++ [chQ1 (chM m k)] := by
  unfold chQs
  rw [List.range_succ, List.map_append]
  rfl
/-- The chain ends at step k. -/
def ChEnds (m : M) (k : Nat) : Prop := (∀ j, j < k → (chM m j).c ≠ 0) ∧ (chM m k).c = 0
theorem ChEnds.unique {m : M} {k l : Nat} (h : ChEnds m k) (g : ChEnds m l) : k = l := by
  rcases Nat.lt_trichotomy k l with e | e | e
  · exact absurd h.2 (g.1 k e)
  · exact e
  · exact absurd g.2 (h.1 l e)
/-- Small numbers, the determinant 1. -/
def chOK (m : M) : Prop := m.det = 1 ∧ (-1000000000 ≤ m.a ∧ m.a ≤ 1000000000) ∧ (-1000000000 ≤ m.b ∧ m.b ≤ 1000000000) ∧ (-1000000000 ≤ m.c ∧ m.c ≤ 1000000000) ∧ (-1000000000 ≤ m.d ∧ m.d ≤ 1000000000)
theorem M.ok_ch {m : M} (h : m.ok = true) : chOK m := ⟨M.ok_det h, M.ents_bd (M.ok_ents h)⟩
/-- Twice the next third number is at most the third. -/
theorem ch_half (a c : Int) : (0 < c → -c ≤ 2 * (flr (2 * a + c) (2 * c) * c - a) ∧ 2 * (flr (2 * a + c) (2 * c) * c - a) ≤ c) ∧ (c < 0 → c ≤ 2 * (flr (2 * a + c) (2 * c) * c - a) ∧ 2 * (flr (2 * a + c) (2 * c) * c - a) ≤ -c) := by
  constructor
  · intro h
    have hf : flr (2 * a + c) (2 * c) = (2 * a + c) / (2 * c) := flr_pos (by omega)
    rw [hf]
    have h1 := Int.emod_nonneg (2 * a + c) (show 2 * c ≠ 0 by omega)
    have h2 := Int.emod_lt_of_pos (2 * a + c) (show 0 < 2 * c by omega)
    have h3 := Int.mul_ediv_add_emod (2 * a + c) (2 * c)
    generalize (2 * a + c) / (2 * c) = f at *
    rw [Int.mul_assoc, Int.mul_comm c f] at h3
    omega
  · intro h
    have hf : flr (2 * a + c) (2 * c) = (-(2 * a + c)) / (-(2 * c)) := by unfold flr; rw [if_neg (by omega)]
    rw [hf]
    have h1 := Int.emod_nonneg (-(2 * a + c)) (show -(2 * c) ≠ 0 by omega)
    have h2 := Int.emod_lt_of_pos (-(2 * a + c)) (show 0 < -(2 * c) by omega)
    have h3 := Int.mul_ediv_add_emod (-(2 * a + c)) (-(2 * c))
    generalize (-(2 * a + c)) / (-(2 * c)) = f at *
    rw [Int.neg_mul, Int.mul_assoc, Int.mul_comm c f] at h3
    omega
theorem ch_det (a b c d f : Int) : c * (f * d - b) - d * (f * c - a) = a * d - b * c := by
  rw [Int.mul_sub, Int.mul_sub, Int.mul_left_comm c f d, Int.mul_left_comm d f c, Int.mul_comm c d, Int.mul_comm c b, Int.mul_comm d a]
  omega
theorem ch_bound {c d c' d' e : Int} (h : c * d' - d * c' = 1) (hc : 0 < c) (hd : -1000000000 ≤ d ∧ d ≤ 1000000000) (he : -e ≤ c' ∧ c' ≤ e) (h2 : 2 * e ≤ c) : -1000000000 ≤ d' ∧ d' ≤ 1000000000 := by
  have hb := mul_bd hd.1 hd.2 he.1 he.2
  constructor
  · by_cases hx : -1000000000 ≤ d'
    · exact hx
    · have := Int.mul_le_mul_of_nonneg_left (a := d') (b := -1000000001) (c := c) (by omega) (by omega)
      omega
  · by_cases hx : d' ≤ 1000000000
    · exact hx
    · have := Int.mul_le_mul_of_nonneg_left (a := 1000000001) (b := d') (c := c) (by omega) (by omega)
      omega
theorem chS_ok {m : M} (h : chOK m) (hc : m.c ≠ 0) : chOK (chS m) ∧ 2 * (chS m).c.natAbs ≤ m.c.natAbs := by
  obtain ⟨hdet, ha, hb, hcb, hd⟩ := h
  obtain ⟨a, b, c, d⟩ := m
  simp only at *
  have hh := ch_half a c
  have hdt := ch_det a b c d (flr (2 * a + c) (2 * c))
  unfold M.det at hdet
  simp only at hdet
  rw [hdet] at hdt
  unfold chS chQ1 chOK M.det
  simp only
  generalize flr (2 * a + c) (2 * c) = f at *
  generalize f * c - a = c' at *
  generalize f * d - b = d' at *
  by_cases hp : 0 < c
  · have h1 := hh.1 hp
    have hbd := ch_bound (e := (c'.natAbs : Int)) hdt hp hd (by omega) (by omega)
    exact ⟨⟨hdt, by omega, by omega, by omega, by omega⟩, by omega⟩
  · have h1 := hh.2 (by omega)
    have hdt2 : (-c) * (-d') - (d) * (c') = 1 := by rw [Int.neg_mul_neg]; exact hdt
    have hbd := ch_bound (e := (c'.natAbs : Int)) hdt2 (by omega) hd (by omega) (by omega)
    exact ⟨⟨hdt, by omega, by omega, by omega, by omega⟩, by omega⟩
theorem chM_ok {m : M} (h : chOK m) (k : Nat) (hk : ∀ j, j < k → (chM m j).c ≠ 0) : chOK (chM m k) ∧ (chM m k).c.natAbs + k ≤ m.c.natAbs + (if k = 0 then 0 else 1) := by
  induction k with
  | zero => exact ⟨h, by simp [chM]⟩
  | succ k ih =>
    obtain ⟨h1, h2⟩ := ih fun j hj => hk j (by omega)
    obtain ⟨h3, h4⟩ := chS_ok h1 (hk k (by omega))
    refine ⟨h3, ?_⟩
    have h5 : (chM m k).c.natAbs ≠ 0 := by have := hk k (by omega); omega
    show (chS (chM m k)).c.natAbs + (k + 1) ≤ _
    rw [if_neg (by omega)]
    split at h2 <;> omega

end Go.Proofs.Ytcapmljnhflopaa
