/- The path of a triple: plain law. -/
import Derived.Test.YtcijbgfiefmdkaaDn
namespace Go.Proofs.Ytcijbgfiefmdkaa
open Go.RowKit

/-- The triple s follows on t on the way down: what is left of t, and the new number. -/
theorem nb2_form {t : T3} (h : t.ok = true) (hz : 1 < t.z) :
    t.nb 2 = (if t.x ≤ 3 * t.x * t.y - t.z then ⟨t.x, 3 * t.x * t.y - t.z, t.y⟩ else ⟨3 * t.x * t.y - t.z, t.x, t.y⟩) ∧ 1 ≤ 3 * t.x * t.y - t.z ∧ 3 * t.x * t.y - t.z ≤ t.y ∧ t.y < t.z := by
  obtain ⟨h1, h2, h3, h4, e⟩ := T3.ok_spec h
  obtain ⟨hyz, hn1, hny⟩ := down_num h1 h2 h3 e hz
  have E : t.nb 2 = sort3 t.x t.y (3 * t.x * t.y - t.z) := by simp [T3.nb]
  refine ⟨?_, hn1, hny, hyz⟩
  rw [E]
  generalize 3 * t.x * t.y - t.z = n at *
  simp only [sort3]
  split <;> simp only [T3.mk.injEq] <;> omega

theorem of_111 {t : T3} (h : t.ok = true) (hz : 1 < t.z) (e : t.nb 2 = ⟨1, 1, 1⟩) : t = ⟨1, 1, 2⟩ := by
  obtain ⟨f, n1, n2, n3⟩ := nb2_form h hz
  obtain ⟨h1, h2, h3, h4, q⟩ := T3.ok_spec h
  rw [e] at f
  obtain ⟨x, y, z⟩ := t
  simp only at *
  have hy : y = 1 := by split at f <;> simp only [T3.mk.injEq] at f <;> omega
  subst hy
  have hx : x = 1 := by omega
  subst hx
  have : z = 2 := by omega
  subst this
  rfl
theorem of_112 {t : T3} (h : t.ok = true) (hz : 1 < t.z) (e : t.nb 2 = ⟨1, 1, 2⟩) : t = ⟨1, 2, 5⟩ := by
  obtain ⟨f, n1, n2, n3⟩ := nb2_form h hz
  obtain ⟨h1, h2, h3, h4, q⟩ := T3.ok_spec h
  rw [e] at f
  obtain ⟨x, y, z⟩ := t
  simp only at *
  have hy : y = 2 ∧ x = 1 ∧ 3 * x * y - z = 1 := by split at f <;> simp only [T3.mk.injEq] at f <;> omega
  obtain ⟨rfl, rfl, hn⟩ := hy
  have : z = 5 := by omega
  subst this
  rfl

/-- A way down from a triple with a number of 5 or more passes 1, 2, 5 three steps ahead of its end. -/
theorem ends_form {t : T3} (h : t.ok = true) (h5 : 5 ≤ t.z) {k : Nat} (hk : Ends t k) : ∃ m, k = m + 2 ∧ dn t m = ⟨1, 2, 5⟩ ∧ dn t (m + 1) = ⟨1, 1, 2⟩ ∧ dn t (m + 2) = ⟨1, 1, 1⟩ := by
  have i := fun j (hj : j ≤ k) => dn_inv h j fun a ha => hk.1 a (by omega)
  have e0 : dn t k = ⟨1, 1, 1⟩ := (ok_one (i k (Nat.le_refl _)).1).2 hk.2
  match k, hk, i, e0 with
  | 0, hk, _, e0 =>
    have : t = ⟨1, 1, 1⟩ := e0
    rw [this] at h5
    simp at h5
  | 1, hk, i, e0 =>
    have : t = ⟨1, 1, 2⟩ := of_111 (i 0 (by omega)).1 (hk.1 0 (by omega)) e0
    rw [this] at h5
    simp at h5
  | m + 2, hk, i, e0 =>
    have e1 := of_111 (i (m + 1) (by omega)).1 (hk.1 (m + 1) (by omega)) e0
    have e2 := of_112 (i m (by omega)).1 (hk.1 m (by omega)) e1
    exact ⟨m, rfl, e2, e1, e0⟩

/-- Three numbers, the greatest in the middle, that are those of a triple: what a step up has. -/
def Fits (l m r : Int) (s : T3) : Prop := m = s.z ∧ ((l = s.x ∧ r = s.y) ∨ (l = s.y ∧ r = s.x))
/-- One step up: left or right. -/
theorem step_up {t : T3} {l m r : Int} (h : t.ok = true) (hz : 1 < t.z) (f : Fits l m r (t.nb 2)) :
    (t = sort3 l m (3 * l * m - r) ↔ sort3 l m t.z = t) ∧ (t = sort3 l m (3 * l * m - r) → Fits l (3 * l * m - r) m t) ∧ (¬ t = sort3 l m (3 * l * m - r) → Fits m (3 * m * r - l) r t) := by
  obtain ⟨g, n1, n2, n3⟩ := nb2_form h hz
  obtain ⟨h1, h2, h3, h4, q⟩ := T3.ok_spec h
  obtain ⟨f1, f2⟩ := f
  rw [g] at f1 f2
  clear g
  have hm : m = t.y := by split at f1 <;> exact f1
  have hlr : (l = t.x ∧ r = 3 * t.x * t.y - t.z) ∨ (r = t.x ∧ l = 3 * t.x * t.y - t.z) := by
    split at f2 <;> simp only at f2 <;> rcases f2 with f2 | f2 <;> omega
  clear f1 f2 q
  obtain ⟨x, y, z⟩ := t
  simp only at *
  subst hm
  have c : 3 * m * x = 3 * x * m := by rw [Int.mul_assoc, Int.mul_assoc, Int.mul_comm m x]
  have key : ∀ a v : Int, a ≤ m → z ≤ v → (sort3 a m v = ⟨a, m, v⟩) := by
    intro a v ha hv
    simp only [sort3, T3.mk.injEq]
    omega
  rcases hlr with ⟨rfl, rfl⟩ | ⟨rfl, rfl⟩
  · have e : 3 * l * m - (3 * l * m - z) = z := by omega
    rw [e, key l z (by omega) (by omega)]
    exact ⟨⟨fun _ => rfl, fun _ => rfl⟩, fun _ => ⟨rfl, .inl ⟨rfl, rfl⟩⟩, fun h => absurd rfl h⟩
  · have e : 3 * m * r - (3 * r * m - z) = z := by omega
    rw [e]
    have n3' : r ≤ m := by omega
    have back : (⟨r, m, z⟩ : T3) = sort3 (3 * r * m - z) m (3 * (3 * r * m - z) * m - r) → 3 * r * m - z = r := by
      intro hs
      simp only [sort3, T3.mk.injEq] at hs
      omega
    have fro : sort3 (3 * r * m - z) m z = ⟨r, m, z⟩ → 3 * r * m - z = r := by
      intro hs
      simp only [sort3, T3.mk.injEq] at hs
      omega
    have go : 3 * r * m - z = r → 3 * (3 * r * m - z) * m - r = z := by
      intro hs
      rw [hs]
      omega
    refine ⟨⟨fun hs => ?_, fun hs => ?_⟩, fun hs => ?_, fun _ => ⟨rfl, .inr ⟨rfl, rfl⟩⟩⟩
    · rw [back hs, key r z (by omega) (by omega)]
    · rw [go (fro hs), fro hs, key r z (by omega) (by omega)]
    · rw [go (back hs), back hs]
      exact ⟨rfl, .inl ⟨rfl, rfl⟩⟩

theorem ends_exists {t : T3} (h : t.ok = true) : ∃ k, Ends t k := by
  refine Classical.byContradiction fun hc => ?_
  have all : ∀ k : Nat, ∀ j, j < k → 1 < (dn t j).z := by
    intro k
    induction k with
    | zero => intro j hj; omega
    | succ k ih =>
      intro j hj
      by_cases e : j < k
      · exact ih j e
      · obtain rfl : j = k := by omega
        by_cases hz : 1 < (dn t j).z
        · exact hz
        · exact absurd ⟨j, ih, hz⟩ hc
  have i := dn_inv h (t.z.toNat + 1) (all _)
  have o := T3.ok_spec i.1
  have o' := T3.ok_spec h
  omega
theorem dn_down {t : T3} (h : t.ok = true) {j k : Nat} (hk : ∀ a, a < k → 1 < (dn t a).z) (hj : j < k) : (dn t k).z < (dn t j).z := by
  induction k with
  | zero => omega
  | succ k ih =>
    have s := nb2_ok (dn_inv h k fun a ha => hk a (by omega)).1 (hk k (by omega))
    have e : (dn t (k + 1)).z < (dn t k).z := s.2
    by_cases he : j < k
    · have := ih (fun a ha => hk a (by omega)) he
      omega
    · obtain rfl : j = k := by omega
      exact e
/-- The first step down whose numbers are at most 5 is that of 1, 2, 5. -/
theorem at_five {t : T3} (h : t.ok = true) {m k : Nat} (hm : Ends t (m + 2)) (e : dn t m = ⟨1, 2, 5⟩) (h1 : ∀ j, j < k → 5 < (dn t j).z) (h2 : ¬ 5 < (dn t k).z) : k = m := by
  rcases Nat.lt_trichotomy k m with q | q | q
  · have := dn_down h (fun a ha => hm.1 a (by omega)) q
    rw [e] at this
    exact absurd this h2
  · exact q
  · have := h1 m q
    rw [e] at this
    exact absurd this (by decide)

end Go.Proofs.Ytcijbgfiefmdkaa
