/- Numbers of triples: the plain law, and the reference's list. -/
import Derived.Test.YtbmkpcenjjdflaaWFnExactTriplesBelow
import Derived.Lib.SlicesCompact
namespace Go.Proofs.Ytbmkpcenjjdflaa
open Go.RowKit
set_option linter.unusedSimpArgs false

/-- The greatest numbers of the triples of at most n. -/
def zsL (n : Int) : List Int := (trB n).map T3.z
def xyz (A : List T3) : List Int := A.flatMap fun t => [t.x, t.y, t.z]
theorem trL_xy {t : T3} (h : t ∈ trL) : (∃ s ∈ trL, s.z = t.x ∧ s.z ≤ t.z) ∧ ∃ s ∈ trL, s.z = t.y ∧ s.z ≤ t.z := by
  have e : (trL.all fun t => (trL.any fun s => decide (s.z = t.x) && decide (s.z ≤ t.z)) && (trL.any fun s => decide (s.z = t.y) && decide (s.z ≤ t.z))) = true := by decide +kernel
  have := List.all_eq_true.1 e t h
  simpa using this
theorem xyz_mem {n a : Int} : a ∈ xyz (trB n) ↔ a ∈ zsL n := by
  unfold xyz zsL
  rw [List.mem_flatMap, List.mem_map]
  constructor
  · rintro ⟨t, ht, ha⟩
    obtain ⟨h1, h2⟩ := mem_trB.1 ht
    obtain ⟨⟨s, hs, e1, e2⟩, ⟨r, hr, e3, e4⟩⟩ := trL_xy h1
    simp only [List.mem_cons, List.not_mem_nil, or_false] at ha
    rcases ha with rfl | rfl | rfl
    · exact ⟨s, mem_trB.2 ⟨hs, by omega⟩, e1⟩
    · exact ⟨r, mem_trB.2 ⟨hr, by omega⟩, e3⟩
    · exact ⟨t, ht, rfl⟩
  · rintro ⟨t, ht, rfl⟩
    exact ⟨t, ht, by simp⟩
theorem zsL_sorted (n : Int) : (zsL n).Pairwise (· < ·) := by
  unfold zsL
  rw [List.pairwise_map]
  exact trL_sorted.sublist List.filter_sublist
theorem int_uniq {A B : List Int} (hA : A.Pairwise (· < ·)) (hB : B.Pairwise (· < ·)) (h : ∀ t, t ∈ A ↔ t ∈ B) : A = B := by
  induction A generalizing B with
  | nil => cases B with
    | nil => rfl
    | cons b B => exact absurd ((h b).2 List.mem_cons_self) (by simp)
  | cons a A ih => cases B with
    | nil => exact absurd ((h a).1 List.mem_cons_self) (by simp)
    | cons b B =>
      obtain ⟨a1, a2⟩ := List.pairwise_cons.1 hA
      obtain ⟨b1, b2⟩ := List.pairwise_cons.1 hB
      have e : a = b := by
        rcases List.mem_cons.1 ((h a).1 List.mem_cons_self) with e | ha
        · exact e
        · rcases List.mem_cons.1 ((h b).2 List.mem_cons_self) with e | hb
          · exact e.symm
          · have := b1 _ ha
            have := a1 _ hb
            omega
      subst e
      rw [ih a2 b2 fun t => ?_]
      constructor
      · intro ht
        rcases List.mem_cons.1 ((h t).1 (List.mem_cons_of_mem _ ht)) with rfl | hb
        · have := a1 _ ht; omega
        · exact hb
      · intro ht
        rcases List.mem_cons.1 ((h t).2 (List.mem_cons_of_mem _ ht)) with rfl | hb
        · have := b1 _ ht; omega
        · exact hb
/-- Sorted numbers without repetitions. -/
theorem compact_sorted (d : Array Int) (hs : ∀ i j, i < j → j < d.size → d[i]! ≤ d[j]!) (m : Nat) (hm : m ≤ d.size) :
    (Lib.compactUpTo d m).Pairwise (· < ·) ∧ (∀ a, a ∈ Lib.compactUpTo d m ↔ ∃ j, j < m ∧ d[j]! = a) := by
  induction m with
  | zero => exact ⟨by simp [Lib.compactUpTo], by simp [Lib.compactUpTo]⟩
  | succ m ih =>
    obtain ⟨h1, h2⟩ := ih (by omega)
    rw [Lib.compactUpTo_succ]
    by_cases hk : Lib.keeps d m = true
    · rw [if_pos hk]
      have hlt : ∀ j, j < m → d[j]! < d[m]! := by
        intro j hj
        have h3 := hs j m hj (by omega)
        have h4 : d[m]! ≠ d[m - 1]! := by
          have hm0 : m ≠ 0 := by omega
          simpa [Lib.keeps, hm0] using hk
        by_cases e : j = m - 1
        · subst e; omega
        · have h5 := hs j (m - 1) (by omega) (by omega)
          have h6 := hs (m - 1) m (by omega) (by omega)
          omega
      refine ⟨?_, fun a => ?_⟩
      · rw [List.pairwise_append]
        refine ⟨h1, by simp, fun a ha b hb => ?_⟩
        obtain ⟨j, hj, rfl⟩ := (h2 a).1 ha
        rw [List.mem_singleton] at hb
        subst hb
        exact hlt j hj
      · rw [List.mem_append, h2 a, List.mem_singleton]
        constructor
        · rintro (⟨j, hj, e⟩ | e)
          · exact ⟨j, by omega, e⟩
          · exact ⟨m, by omega, e.symm⟩
        · rintro ⟨j, hj, e⟩
          by_cases ej : j = m
          · subst ej; exact .inr e.symm
          · exact .inl ⟨j, by omega, e⟩
    · rw [if_neg hk, List.append_nil]
      refine ⟨h1, fun a => ?_⟩
      rw [h2 a]
      constructor
      · rintro ⟨j, hj, e⟩
        exact ⟨j, by omega, e⟩
      · rintro ⟨j, hj, e⟩
        by_cases ej : j = m
        · subst ej
          have h4 : j ≠ 0 ∧ d[j]! = d[j - 1]! := by simpa [Lib.keeps] using hk
          exact ⟨j - 1, by omega, by rw [← h4.2]; exact e⟩
        · exact ⟨j, by omega, e⟩
theorem compact_zs {n : Int} {S : List Int} (hp : S.Perm (xyz (trB n))) (hs : S.Pairwise (· ≤ ·)) : Lib.compactUpTo S.toArray S.length = zsL n := by
  have h := compact_sorted S.toArray (fun i j hij hj => by
    have hj2 : j < S.length := by simpa using hj
    have := List.pairwise_iff_getElem.1 hs i j (by omega) hj2 hij
    rw [getElem!_pos S.toArray i (by simpa using (by omega : i < S.length)), getElem!_pos S.toArray j hj]
    simpa using this) S.length (by simp)
  refine int_uniq h.1 (zsL_sorted n) fun a => ?_
  rw [h.2 a, ← xyz_mem, ← hp.mem_iff]
  constructor
  · rintro ⟨j, hj, rfl⟩
    rw [getElem!_pos S.toArray j (by simpa using hj)]
    simp
  · intro ha
    obtain ⟨j, hj, rfl⟩ := List.getElem_of_mem ha
    exact ⟨j, hj, by rw [getElem!_pos S.toArray j (by simpa using hj)]; simp⟩

end Go.Proofs.Ytbmkpcenjjdflaa
