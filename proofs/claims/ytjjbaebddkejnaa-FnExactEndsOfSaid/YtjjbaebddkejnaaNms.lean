/- The numbers of the orbits of a permutation (plain law). -/
import Derived.Test.YtjjbaebddkejnaaFin
namespace Go.Proofs.Ytjjbaebddkejnaa
open Go.RowKit
set_option linter.unusedSimpArgs false

/-- How many places are not yet met. -/
def unm (ns : List Int) : Nat := ns.count (-1)
/-- An orbit from a place on: its places get the number c. -/
def wlk (P : List Int) (c : Int) : Nat → Nat → List Int → List Int
  | 0, _, ns => ns
  | r + 1, k, ns => if ns.getD k 0 = -1 then wlk P c r (P.getD k 0).toNat (ns.set k c) else ns
/-- The numbers behind the first i places, and how many orbits there are. -/
def numTo (P : List Int) (N : Nat) : Nat → List Int × Nat
  | 0 => (List.replicate N (-1), 0)
  | i + 1 => if (numTo P N i).1.getD i 0 = -1 then (wlk P (numTo P N i).2 N i (numTo P N i).1, (numTo P N i).2 + 1) else numTo P N i
theorem getD_lt {ns : List Int} {k : Nat} (h : k < ns.length) : ns.getD k 0 = ns[k] := by
  rw [List.getD_eq_getElem?_getD, List.getElem?_eq_getElem h]; rfl
theorem unm_set {ns : List Int} {k : Nat} {c : Int} (hk : k < ns.length) (h : ns.getD k 0 = -1) (hc : 0 ≤ c) : unm (ns.set k c) + 1 = unm ns := by
  unfold unm
  rw [getD_lt hk] at h
  rw [List.count_set hk, h]
  have h1 : 0 < List.count (-1) ns := List.count_pos_iff.2 (by rw [← h]; exact List.getElem_mem hk)
  simp
  rw [if_neg (by omega)]
  omega
theorem unm_pos {ns : List Int} {k : Nat} (hk : k < ns.length) (h : ns.getD k 0 = -1) : 0 < unm ns := by
  unfold unm
  rw [getD_lt hk] at h
  exact List.count_pos_iff.2 (by rw [← h]; exact List.getElem_mem hk)
theorem unm_le (ns : List Int) : unm ns ≤ ns.length := List.count_le_length
theorem wlk_done {P : List Int} {c : Int} {r k : Nat} {ns : List Int} (h : ns.getD k 0 ≠ -1) : wlk P c r k ns = ns := by
  cases r with
  | zero => rfl
  | succ r => rw [wlk, if_neg h]
theorem wlk_next {P : List Int} {c : Int} {r k : Nat} {ns : List Int} (hk : k < ns.length) (h : ns.getD k 0 = -1) (hr : unm ns ≤ r) : ∃ r', r = r' + 1 ∧ wlk P c r k ns = wlk P c r' (P.getD k 0).toNat (ns.set k c) := by
  have := unm_pos hk h
  obtain ⟨r', rfl⟩ : ∃ r', r = r' + 1 := ⟨r - 1, by omega⟩
  exact ⟨r', rfl, by rw [wlk, if_pos h]⟩
theorem wlk_len (P : List Int) (c : Int) (r : Nat) : ∀ (k : Nat) (ns : List Int), (wlk P c r k ns).length = ns.length := by
  induction r with
  | zero => intro k ns; rfl
  | succ r ih =>
    intro k ns
    rw [wlk]
    split
    · rw [ih, List.length_set]
    · rfl
/-- Each place is not met, or has a number less than c. -/
def NOk (c : Nat) (ns : List Int) : Prop := ∀ j, j < ns.length → ns.getD j 0 = -1 ∨ (0 ≤ ns.getD j 0 ∧ ns.getD j 0 < c)
theorem set_getD {ns : List Int} {k j : Nat} {c : Int} (hj : j < ns.length) : (ns.set k c).getD j 0 = if k = j then c else ns.getD j 0 := by
  rw [List.getD_eq_getElem?_getD, List.getElem?_set]
  split
  · rename_i e
    rw [if_pos (by omega)]
    rfl
  · rw [List.getD_eq_getElem?_getD]
theorem NOk.set {c d : Nat} {ns : List Int} {k : Nat} (h : NOk c ns) (hd : d < c) : NOk c (ns.set k d) := fun j hj => by
  rw [List.length_set] at hj
  rw [set_getD hj]
  split
  · right; omega
  · exact h j hj
theorem NOk.mono {c d : Nat} {ns : List Int} (h : NOk c ns) (hd : c ≤ d) : NOk d ns := fun j hj => by
  rcases h j hj with e | e
  · exact .inl e
  · exact .inr (by omega)
theorem wlk_ok {P : List Int} {c : Nat} (r : Nat) : ∀ (k : Nat) (ns : List Int), NOk (c + 1) ns → NOk (c + 1) (wlk P c r k ns) := by
  induction r with
  | zero => intro k ns h; exact h
  | succ r ih =>
    intro k ns h
    rw [wlk]
    split
    · exact ih _ _ (h.set (by omega))
    · exact h
theorem wlk_keep {P : List Int} {c : Int} (r : Nat) : ∀ (k : Nat) (ns : List Int) (j : Nat), j < ns.length → ns.getD j 0 ≠ -1 → (wlk P c r k ns).getD j 0 = ns.getD j 0 := by
  induction r with
  | zero => intro k ns j _ _; rfl
  | succ r ih =>
    intro k ns j hj hn
    rw [wlk]
    split
    · rename_i h
      have hne : k ≠ j := fun e => by subst e; exact hn h
      have e : (ns.set k c).getD j 0 = ns.getD j 0 := by rw [set_getD hj, if_neg hne]
      rw [ih _ _ j (by rw [List.length_set]; exact hj) (by rw [e]; exact hn), e]
    · rfl
theorem wlk_at {P : List Int} {c : Nat} {r k : Nat} {ns : List Int} (hk : k < ns.length) (h : ns.getD k 0 = -1) (hr : unm ns ≤ r) : (wlk P c r k ns).getD k 0 = c := by
  obtain ⟨r', rfl, e⟩ := wlk_next (P := P) (c := c) hk h hr
  have e2 : (ns.set k c).getD k 0 = (c : Int) := by rw [set_getD hk, if_pos rfl]
  rw [e, wlk_keep r' _ _ k (by rw [List.length_set]; exact hk) (by rw [e2]; omega), e2]
theorem numTo_len (P : List Int) (N i : Nat) : (numTo P N i).1.length = N := by
  induction i with
  | zero => exact List.length_replicate
  | succ i ih =>
    rw [numTo]
    split
    · rw [wlk_len, ih]
    · exact ih
theorem numTo_ok (P : List Int) (N i : Nat) : NOk (numTo P N i).2 (numTo P N i).1 := by
  induction i with
  | zero =>
    intro j hj
    left
    have hj2 : j < N := by simpa [numTo] using hj
    show (List.replicate N (-1 : Int)).getD j 0 = -1
    rw [getD_lt (by rw [List.length_replicate]; exact hj2), List.getElem_replicate]
  | succ i ih =>
    rw [numTo]
    split
    · exact wlk_ok N i _ (ih.mono (by omega))
    · exact ih
theorem numTo_met (P : List Int) {N i : Nat} (hi : i ≤ N) : ∀ j, j < i → (numTo P N i).1.getD j 0 ≠ -1 := by
  induction i with
  | zero => intro j hj; omega
  | succ i ih =>
    intro j hj
    have hl := numTo_len P N i
    rw [numTo]
    split
    · rename_i h
      by_cases e : j = i
      · subst e
        rw [wlk_at (by rw [hl]; omega) h (by have := unm_le (numTo P N j).1; omega)]
        omega
      · have h0 := ih (by omega) j (by omega)
        rw [wlk_keep N _ _ j (by rw [hl]; omega) h0]
        exact h0
    · rename_i h
      by_cases e : j = i
      · subst e; exact h
      · exact ih (by omega) j (by omega)
theorem numTo_cnt (P : List Int) (N i : Nat) : (numTo P N i).2 ≤ i := by
  induction i with
  | zero => exact Nat.le_refl _
  | succ i ih =>
    rw [numTo]
    split
    · show (numTo P N i).2 + 1 ≤ i + 1; omega
    · omega
/-- All numbers. -/
def numL (P : List Int) (N : Nat) : List Int := (numTo P N N).1
def numC (P : List Int) (N : Nat) : Nat := (numTo P N N).2
theorem numL_len (P : List Int) (N : Nat) : (numL P N).length = N := numTo_len P N N
theorem numL_bd (P : List Int) {N j : Nat} (hj : j < N) : 0 ≤ (numL P N).getD j 0 ∧ (numL P N).getD j 0 < numC P N := by
  rcases numTo_ok P N N j (by rw [numTo_len]; exact hj) with h | h
  · exact absurd h (numTo_met P (Nat.le_refl N) j hj)
  · exact h
/-- Some multiples of a mix are added up, number by number. -/
def addAt (out : List Int) (c : Int) (a : Int) : List Int := out.set c.toNat (out.getD c.toNat 0 + a)
/-- The ends of the first k numbers of a mix: here and there. -/
def endTo (H T : Nat → Int) (x : List Int) (n : Nat) : Nat → List Int
  | 0 => List.replicate n 0
  | k + 1 => addAt (addAt (endTo H T x n k) (H k) (x.getD k 0)) (T k) (-(x.getD k 0))
theorem addAt_len (out : List Int) (c a : Int) : (addAt out c a).length = out.length := by unfold addAt; rw [List.length_set]
theorem endTo_len (H T : Nat → Int) (x : List Int) (n k : Nat) : (endTo H T x n k).length = n := by
  induction k with
  | zero => exact List.length_replicate
  | succ k ih => rw [endTo, addAt_len, addAt_len, ih]
theorem endTo_same {H T H' T' : Nat → Int} {x : List Int} {n k : Nat} (h1 : ∀ j, j < k → H j = H' j) (h2 : ∀ j, j < k → T j = T' j) : endTo H T x n k = endTo H' T' x n k := by
  induction k with
  | zero => rfl
  | succ k ih => rw [endTo, endTo, ih (fun j hj => h1 j (by omega)) (fun j hj => h2 j (by omega)), h1 k (by omega), h2 k (by omega)]
/-- No number is great. -/
theorem endTo_bd {H T : Nat → Int} {x : List Int} {n k : Nat} (hx : ∀ j, j < k → -1000000 ≤ x.getD j 0 ∧ x.getD j 0 ≤ 1000000) : ∀ j, -2000000 * (k : Int) ≤ (endTo H T x n k).getD j 0 ∧ (endTo H T x n k).getD j 0 ≤ 2000000 * (k : Int) := by
  induction k with
  | zero =>
    intro j
    have : (List.replicate n (0 : Int)).getD j 0 = 0 := by
      rw [List.getD_eq_getElem?_getD, List.getElem?_replicate]
      split <;> rfl
    show _ ≤ (List.replicate n (0 : Int)).getD j 0 ∧ (List.replicate n (0 : Int)).getD j 0 ≤ _
    rw [this]
    omega
  | succ k ih =>
    have ih' := ih (fun j hj => hx j (by omega))
    have hxk := hx k (by omega)
    have key : ∀ (out : List Int) (c a : Int) (j : Nat), (addAt out c a).getD j 0 = out.getD j 0 ∨ (addAt out c a).getD j 0 = out.getD j 0 + a := fun out c a j => by
      unfold addAt
      by_cases hj : j < out.length
      · rw [set_getD hj]
        split
        · rename_i e; rw [e]; exact .inr rfl
        · exact .inl rfl
      · left
        rw [List.getD_eq_getElem?_getD, List.getElem?_eq_none (by rw [List.length_set]; omega), List.getD_eq_getElem?_getD, List.getElem?_eq_none (by omega)]
    intro j
    rw [endTo]
    have h0 := ih' j
    rcases key (addAt (endTo H T x n k) (H k) (x.getD k 0)) (T k) (-(x.getD k 0)) j with e | e <;> rcases key (endTo H T x n k) (H k) (x.getD k 0) j with e' | e' <;> rw [e, e'] <;> omega

theorem wlk_new {P : List Int} {c : Int} (r : Nat) : ∀ (k : Nat) (ns : List Int) (j : Nat), j < ns.length → (wlk P c r k ns).getD j 0 = ns.getD j 0 ∨ ((wlk P c r k ns).getD j 0 = c ∧ ns.getD j 0 = -1) := by
  induction r with
  | zero => intro k ns j _; exact .inl rfl
  | succ r ih =>
    intro k ns j hj
    rw [wlk]
    split
    · rename_i h
      by_cases e : k = j
      · subst e
        have e2 : (ns.set k c).getD k 0 = c := by rw [set_getD hj, if_pos rfl]
        rcases ih (P.getD k 0).toNat (ns.set k c) k (by rw [List.length_set]; exact hj) with h1 | h1
        · exact .inr ⟨h1.trans e2, h⟩
        · exact .inr ⟨h1.1, h⟩
      · have e2 : (ns.set k c).getD j 0 = ns.getD j 0 := by rw [set_getD hj, if_neg e]
        rcases ih (P.getD k 0).toNat (ns.set k c) j (by rw [List.length_set]; exact hj) with h1 | h1
        · exact .inl (h1.trans e2)
        · exact .inr ⟨h1.1, by rw [← e2]; exact h1.2⟩
    · exact .inl rfl
/-- Orbit j has the places with the number j. -/
def OrbOf (css : List (List Nat)) (ns : List Int) : Prop := ∀ j (hj : j < css.length) (x : Nat), x ∈ css[j] ↔ (x < ns.length ∧ ns.getD x 0 = (j : Int))
def SetOf (ys : List Nat) (ns : List Int) (c : Nat) : Prop := ∀ x : Nat, x ∈ ys ↔ (x < ns.length ∧ ns.getD x 0 = (c : Int))
theorem SetOf.nil {ns : List Int} {c : Nat} (h : NOk c ns) : SetOf [] ns c := fun x => by
  constructor
  · intro h; cases h
  · rintro ⟨h1, h2⟩
    rcases h x h1 with e | e <;> omega
theorem SetOf.snoc {ys : List Nat} {ns : List Int} {c k : Nat} (h : SetOf ys ns c) (hk : k < ns.length) (_hn : ns.getD k 0 = -1) : SetOf (ys ++ [k]) (ns.set k c) c := fun x => by
  rw [List.mem_append, List.mem_singleton, h x, List.length_set]
  constructor
  · rintro (⟨h1, h2⟩ | rfl)
    · refine ⟨h1, ?_⟩
      rw [set_getD h1]
      split
      · rfl
      · exact h2
    · exact ⟨hk, by rw [set_getD hk, if_pos rfl]⟩
  · rintro ⟨h1, h2⟩
    rw [set_getD h1] at h2
    split at h2
    · rename_i e; exact .inr e.symm
    · exact .inl ⟨h1, h2⟩
theorem OrbOf.snoc {css : List (List Nat)} {ns : List Int} {c r k : Nat} {P : List Int} {ys : List Nat} (h : OrbOf css ns) (hc : css.length = c) (hy : SetOf ys (wlk P c r k ns) c) : OrbOf (css ++ [ys]) (wlk P c r k ns) := fun j hj x => by
  rw [List.length_append, List.length_singleton] at hj
  by_cases e : j < c
  · rw [List.getElem_append_left (by omega), h j (by omega) x, wlk_len]
    constructor
    · rintro ⟨h1, h2⟩
      exact ⟨h1, by rw [wlk_keep r _ _ x h1 (by omega)]; exact h2⟩
    · rintro ⟨h1, h2⟩
      rcases wlk_new (P := P) (c := c) r k ns x h1 with h3 | h3
      · exact ⟨h1, by rw [← h3]; exact h2⟩
      · omega
  · obtain rfl : j = c := by omega
    rw [List.getElem_append_right (by omega)]
    simp only [hc, Nat.sub_self, List.getElem_singleton]
    exact hy x

end Go.Proofs.Ytjjbaebddkejnaa
