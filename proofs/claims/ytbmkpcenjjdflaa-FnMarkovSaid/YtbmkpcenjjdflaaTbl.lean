/- The triples of at most a million: the list, the tree of neighbours, and what tells a sorted list of those of at most n (plain law; checked by the kernel). -/
import Derived.Test.YtbmkpcenjjdflaaNb
namespace Go.Proofs.Ytbmkpcenjjdflaa
open Go.RowKit
set_option linter.unusedSimpArgs false

def trL : List T3 := [⟨1, 1, 1⟩, ⟨1, 1, 2⟩, ⟨1, 2, 5⟩, ⟨1, 5, 13⟩, ⟨2, 5, 29⟩, ⟨1, 13, 34⟩, ⟨1, 34, 89⟩, ⟨2, 29, 169⟩, ⟨5, 13, 194⟩, ⟨1, 89, 233⟩, ⟨5, 29, 433⟩, ⟨1, 233, 610⟩, ⟨2, 169, 985⟩, ⟨13, 34, 1325⟩, ⟨1, 610, 1597⟩, ⟨5, 194, 2897⟩, ⟨1, 1597, 4181⟩, ⟨2, 985, 5741⟩, ⟨5, 433, 6466⟩, ⟨13, 194, 7561⟩, ⟨34, 89, 9077⟩, ⟨1, 4181, 10946⟩, ⟨29, 169, 14701⟩, ⟨1, 10946, 28657⟩, ⟨2, 5741, 33461⟩, ⟨29, 433, 37666⟩, ⟨5, 2897, 43261⟩, ⟨13, 1325, 51641⟩, ⟨89, 233, 62210⟩, ⟨1, 28657, 75025⟩, ⟨5, 6466, 96557⟩, ⟨34, 1325, 135137⟩, ⟨2, 33461, 195025⟩, ⟨1, 75025, 196418⟩, ⟨13, 7561, 294685⟩, ⟨233, 610, 426389⟩, ⟨169, 985, 499393⟩, ⟨1, 196418, 514229⟩, ⟨5, 43261, 646018⟩, ⟨34, 9077, 925765⟩]
def trM : Int := 1000000
/-- The triples of at most n, in order. -/
def trB (n : Int) : List T3 := trL.filter fun t => decide (t.z ≤ n)
theorem mem_trB {n : Int} {t : T3} : t ∈ trB n ↔ t ∈ trL ∧ t.z ≤ n := by simp [trB]

def smallB (t : T3) : Bool := decide (-1000000000 ≤ t.x ∧ t.x ≤ 1000000000) && decide (-1000000000 ≤ t.y ∧ t.y ≤ 1000000000) && decide (-1000000000 ≤ t.z ∧ t.z ≤ 1000000000)
theorem smallB_ok {t : T3} (h : smallB t = true) : t.small := by
  simp only [smallB, Bool.and_eq_true, decide_eq_true_eq] at h
  exact ⟨h.1.1, h.1.2, h.2⟩
theorem trL_small {t : T3} (h : t ∈ trL) : t.small := by
  have e : trL.all smallB = true := by decide +kernel
  exact smallB_ok (List.all_eq_true.1 e t h)
theorem trL_pos {t : T3} (h : t ∈ trL) : 1 ≤ t.z := by
  have e : (trL.all fun t => decide (1 ≤ t.z)) = true := by decide +kernel
  simpa using List.all_eq_true.1 e t h
theorem trL_max {t : T3} (h : t ∈ trL) : t.z ≤ trM := by
  have e : (trL.all fun t => decide (t.z ≤ trM)) = true := by decide +kernel
  simpa using List.all_eq_true.1 e t h
theorem trL_nb {t : T3} (h : t ∈ trL) : ((t.nb 0).z ≤ trM → t.nb 0 ∈ trL) ∧ ((t.nb 1).z ≤ trM → t.nb 1 ∈ trL) := by
  have e : (trL.all fun t => (!decide ((t.nb 0).z ≤ trM) || trL.contains (t.nb 0)) && (!decide ((t.nb 1).z ≤ trM) || trL.contains (t.nb 1))) = true := by decide +kernel
  have := List.all_eq_true.1 e t h
  simp only [Bool.and_eq_true, Bool.or_eq_true, Bool.not_eq_true', decide_eq_false_iff_not, List.contains_iff_mem] at this
  exact ⟨fun h1 => this.1.resolve_left (fun h2 => h2 h1), fun h1 => this.2.resolve_left (fun h2 => h2 h1)⟩
theorem trL_up {t : T3} (h : t ∈ trL) : t = ⟨1, 1, 1⟩ ∨ ∃ p ∈ trL, p.z < t.z ∧ (p.nb 0 = t ∨ p.nb 1 = t) := by
  have e : (trL.all fun t => decide (t = ⟨1, 1, 1⟩) || trL.any fun p => decide (p.z < t.z) && (decide (p.nb 0 = t) || decide (p.nb 1 = t))) = true := by decide +kernel
  have := List.all_eq_true.1 e t h
  simpa using this
theorem trL_sorted : trL.Pairwise fun a b => a.z < b.z := by decide +kernel
theorem sorted_mem {A : List T3} (h : A.Pairwise fun a b => a.z < b.z) {s t : T3} (hs : s ∈ A) (ht : t ∈ A) (e : s.z = t.z) : s = t := by
  induction A with
  | nil => cases hs
  | cons a A ih =>
    obtain ⟨h1, h2⟩ := List.pairwise_cons.1 h
    rcases List.mem_cons.1 hs with e1 | hs2 <;> rcases List.mem_cons.1 ht with e2 | ht2
    · rw [e1, e2]
    · have := h1 _ ht2; rw [e1] at e; omega
    · have := h1 _ hs2; rw [e2] at e; omega
    · exact ih h2 hs2 ht2
theorem trL_inj {s t : T3} (hs : s ∈ trL) (ht : t ∈ trL) (e : s.z = t.z) : s = t := sorted_mem trL_sorted hs ht e
theorem sorted_uniq {A B : List T3} (hA : A.Pairwise fun a b => a.z < b.z) (hB : B.Pairwise fun a b => a.z < b.z) (h : ∀ t, t ∈ A ↔ t ∈ B) : A = B := by
  induction A generalizing B with
  | nil => cases B with
    | nil => rfl
    | cons b B => exact absurd ((h b).2 List.mem_cons_self) (by simp)
  | cons a A ih => cases B with
    | nil => exact absurd ((h a).1 List.mem_cons_self) (by simp)
    | cons b B =>
      obtain ⟨a1, a2⟩ := List.pairwise_cons.1 hA
      obtain ⟨b1, b2⟩ := List.pairwise_cons.1 hB
      have e : a = b := by
        rcases List.mem_cons.1 ((h a).1 List.mem_cons_self) with e | ha
        · exact e
        · rcases List.mem_cons.1 ((h b).2 List.mem_cons_self) with e | hb
          · exact e.symm
          · have := b1 _ ha
            have := a1 _ hb
            omega
      subst e
      rw [ih a2 b2 fun t => ?_]
      constructor
      · intro ht
        rcases List.mem_cons.1 ((h t).1 (List.mem_cons_of_mem _ ht)) with rfl | hb
        · have := a1 _ ht; omega
        · exact hb
      · intro ht
        rcases List.mem_cons.1 ((h t).2 (List.mem_cons_of_mem _ ht)) with rfl | hb
        · have := b1 _ ht; omega
        · exact hb
theorem tr_uniq {A : List T3} {n : Int} (hA : A.Pairwise fun a b => a.z < b.z) (h : ∀ t, t ∈ A ↔ t ∈ trL ∧ t.z ≤ n) : A = trB n :=
  sorted_uniq hA (trL_sorted.sublist List.filter_sublist) fun t => by rw [h t, mem_trB]
/-- A sorted list without repetition is strictly sorted. -/
theorem strict_of {A : List T3} (hs : A.Pairwise fun a b => a.z ≤ b.z) (hd : A.Nodup) (hm : ∀ t ∈ A, t ∈ trL) : A.Pairwise fun a b => a.z < b.z := by
  induction A with
  | nil => exact List.Pairwise.nil
  | cons a A ih =>
    obtain ⟨a1, a2⟩ := List.pairwise_cons.1 hs
    obtain ⟨d1, d2⟩ := List.nodup_cons.1 hd
    refine List.pairwise_cons.2 ⟨fun b hb => ?_, ih a2 d2 fun t ht => hm t (List.mem_cons_of_mem _ ht)⟩
    have := a1 b hb
    rcases Int.lt_or_eq_of_le this with h | h
    · exact h
    · have := trL_inj (hm a List.mem_cons_self) (hm b (List.mem_cons_of_mem _ hb)) h
      subst this
      exact absurd hb d1

/-- The tree of neighbours. -/
def okS (t s : T3) (i : Nat) (n : Int) : Bool := decide (s.z ≤ n) && decide (t.z < s.z) && (i == 0 || !decide (t.x = t.y))
def bel : Nat → T3 → Int → List T3
  | 0, _, _ => []
  | f + 1, t, n => (if okS t (t.nb 0) 0 n then t.nb 0 :: bel f (t.nb 0) n else []) ++ (if okS t (t.nb 1) 1 n then t.nb 1 :: bel f (t.nb 1) n else [])
def dp : Nat → T3 → Bool
  | 0, _ => false
  | f + 1, t => (!okS t (t.nb 0) 0 trM || (smallB (t.nb 0) && dp f (t.nb 0))) && (!okS t (t.nb 1) 1 trM || (smallB (t.nb 1) && dp f (t.nb 1)))
theorem okS_le {t s : T3} {i : Nat} {n : Int} (hn : n ≤ trM) : okS t s i n = (decide (s.z ≤ n) && okS t s i trM) := by
  unfold okS
  by_cases h : s.z ≤ n
  · have : s.z ≤ trM := by omega
    simp [h, this]
  · simp [h]
theorem bel_gt (f : Nat) (t : T3) (n : Int) : ∀ s ∈ bel f t n, t.z < s.z := by
  induction f generalizing t with
  | zero => intro s hs; cases hs
  | succ f ih =>
    have aux : ∀ (q : T3) (i : Nat) (s : T3), s ∈ (if okS t q i n then q :: bel f q n else []) → t.z < s.z := by
      intro q i s hs
      by_cases h : okS t q i n = true
      · rw [if_pos h] at hs
        have hq : t.z < q.z := by
          simp only [okS, Bool.and_eq_true, decide_eq_true_eq] at h
          exact h.1.2
        rcases List.mem_cons.1 hs with rfl | hs
        · exact hq
        · have := ih q s hs; omega
      · rw [if_neg h] at hs
        cases hs
    intro s hs
    rw [bel] at hs
    rcases List.mem_append.1 hs with hs | hs
    · exact aux _ _ _ hs
    · exact aux _ _ _ hs
theorem bel_filter (f : Nat) (t : T3) (n : Int) (hn : n ≤ trM) : bel f t n = (bel f t trM).filter fun s => decide (s.z ≤ n) := by
  induction f generalizing t with
  | zero => rfl
  | succ f ih =>
    have aux : ∀ (q : T3) (i : Nat), (if okS t q i n then q :: bel f q n else []) = (if okS t q i trM then q :: bel f q trM else []).filter fun s => decide (s.z ≤ n) := by
      intro q i
      rw [okS_le hn]
      by_cases h : okS t q i trM = true
      · rw [h, Bool.and_true, if_pos rfl]
        by_cases hz : q.z ≤ n
        · rw [if_pos (by simpa using hz), List.filter_cons_of_pos (by simpa using hz), ih]
        · rw [if_neg (by simpa using hz), List.filter_cons_of_neg (by simpa using hz)]
          symm
          rw [List.filter_eq_nil_iff]
          intro s hs
          have := bel_gt f q trM s hs
          simp only [decide_eq_true_eq]
          omega
      · rw [Bool.not_eq_true] at h
        rw [h, Bool.and_false]
        simp
    rw [bel, bel, List.filter_append, ← aux, ← aux]
def bel20 : List T3 := ⟨1, 1, 1⟩ :: bel 20 ⟨1, 1, 1⟩ trM
theorem dp20 : dp 20 ⟨1, 1, 1⟩ = true := by decide +kernel
theorem bel20_mem {t : T3} : t ∈ bel20 ↔ t ∈ trL := by
  have e1 : (bel20.all fun t => trL.contains t) = true := by decide +kernel
  have e2 : (trL.all fun t => bel20.contains t) = true := by decide +kernel
  constructor
  · intro h; simpa using List.all_eq_true.1 e1 t h
  · intro h; simpa using List.all_eq_true.1 e2 t h
theorem bel20_nodup : bel20.Nodup := by decide +kernel
theorem bel20_n {n : Int} (h1 : 1 ≤ n) (hn : n ≤ trM) : (⟨1, 1, 1⟩ : T3) :: bel 20 ⟨1, 1, 1⟩ n = bel20.filter fun s => decide (s.z ≤ n) := by
  rw [bel20, List.filter_cons_of_pos (by simpa using h1), bel_filter 20 _ n hn]

/-- A list that has the first triple and the neighbours of all that it has, as far as they are at most n, has all of at most n. -/
theorem clo_all {A : List T3} {n : Int} (h1 : 1 ≤ n → (⟨1, 1, 1⟩ : T3) ∈ A) (hc : ∀ t ∈ A, ((t.nb 0).z ≤ n → t.nb 0 ∈ A) ∧ ((t.nb 1).z ≤ n → t.nb 1 ∈ A)) : ∀ t, t ∈ trL → t.z ≤ n → t ∈ A := by
  have H : ∀ (k : Nat) (t : T3), t.z.toNat ≤ k → t ∈ trL → t.z ≤ n → t ∈ A := by
    intro k
    induction k with
    | zero =>
      intro t hk ht hz
      have := trL_pos ht
      omega
    | succ k ih =>
      intro t hk ht hz
      rcases trL_up ht with rfl | ⟨p, hp, hlt, e⟩
      · exact h1 (by simpa using hz)
      · have hp1 := trL_pos hp
        have hpA := ih p (by omega) hp (by omega)
        rcases e with e | e
        · rw [← e]; exact (hc p hpA).1 (by rw [e]; exact hz)
        · rw [← e]; exact (hc p hpA).2 (by rw [e]; exact hz)
  exact fun t ht hz => H t.z.toNat t (Nat.le_refl _) ht hz
/-- A triple is put at its place. -/
theorem ins_sorted {A : List T3} {x : T3} {a : Nat} (hA : A.Pairwise fun s t => s.z < t.z) (ha : a ≤ A.length) (hlo : ∀ (h : 0 < a), (A[a - 1]'(by omega)).z < x.z) (hhi : ∀ j (h : j < A.length), a ≤ j → x.z < A[j].z) : (A.take a ++ x :: A.drop a).Pairwise fun s t => s.z < t.z := by
  have hp := List.pairwise_iff_getElem.1 hA
  rw [List.pairwise_append]
  refine ⟨hA.sublist (List.take_sublist _ _), List.pairwise_cons.2 ⟨fun t ht => ?_, hA.sublist (List.drop_sublist _ _)⟩, fun s hs t ht => ?_⟩
  · obtain ⟨j, hj, rfl⟩ := List.getElem_of_mem ht
    rw [List.getElem_drop]
    exact hhi _ _ (by omega)
  · obtain ⟨i, hi, rfl⟩ := List.getElem_of_mem hs
    have hi2 : i < a := by simp at hi; omega
    rw [List.getElem_take]
    have h1 : (A[i]'(by omega)).z < x.z := by
      by_cases e : i = a - 1
      · subst e; exact hlo (by omega)
      · have := hp i (a - 1) (by omega) (by omega) (by omega)
        have := hlo (by omega)
        omega
    rcases List.mem_cons.1 ht with rfl | ht
    · exact h1
    · obtain ⟨j, hj, rfl⟩ := List.getElem_of_mem ht
      rw [List.getElem_drop]
      have := hhi (a + j) (by simp at hj; omega) (by omega)
      omega
theorem ins_mem {A : List T3} {x : T3} {a : Nat} (t : T3) : t ∈ A.take a ++ x :: A.drop a ↔ t = x ∨ t ∈ A := by
  rw [List.mem_append, List.mem_cons]
  constructor
  · rintro (h | h | h)
    · exact .inr (List.mem_of_mem_take h)
    · exact .inl h
    · exact .inr (List.mem_of_mem_drop h)
  · rintro (h | h)
    · exact .inr (.inl h)
    · rw [← List.take_append_drop a A] at h
      rcases List.mem_append.1 h with h | h
      · exact .inl h
      · exact .inr (.inr h)

end Go.Proofs.Ytbmkpcenjjdflaa
