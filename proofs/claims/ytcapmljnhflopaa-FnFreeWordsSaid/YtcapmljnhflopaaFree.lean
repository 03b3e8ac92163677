/- Free words: plain law. -/
import Derived.Test.YtcapmljnhflopaaChain
namespace Go.Proofs.Ytcapmljnhflopaa
open Go.RowKit

/-- A letter is put to a free word. -/
def putL (l : List UInt8) (b : UInt8) : List UInt8 :=
  match l.getLast? with
  | none => [b]
  | some x => if (x == 83) != (b == 83) then l ++ [b] else if b = 83 ∨ x ≠ b then l.dropLast else if b = 85 then l.dropLast ++ [86] else l.dropLast ++ [85]
theorem putL_nil (b : UInt8) : putL [] b = [b] := rfl
theorem putL_snoc (z : List UInt8) (x b : UInt8) : putL (z ++ [x]) b = if (x == 83) != (b == 83) then z ++ [x] ++ [b] else if b = 83 ∨ x ≠ b then z else if b = 85 then z ++ [86] else z ++ [85] := by
  unfold putL
  rw [List.getLast?_append, List.getLast?_singleton, Option.some_or]
  simp only [List.dropLast_concat]
theorem putL_len (l : List UInt8) (b : UInt8) : (putL l b).length ≤ l.length + 1 := by
  rcases List.eq_nil_or_concat l with rfl | ⟨z, x, rfl⟩
  · simp [putL_nil]
  · rw [List.concat_eq_append, putL_snoc]
    split
    · simp
    · split
      · simp; omega
      · split <;> simp
def usL : Nat → List UInt8 → List UInt8
  | 0, l => l
  | n + 1, l => usL n (putL (putL l 85) 83)
def svL : Nat → List UInt8 → List UInt8
  | 0, l => l
  | n + 1, l => svL n (putL (putL l 83) 86)
/-- One number of the chain more. -/
def stL (i : Nat) (q : Int) (l : List UInt8) : List UInt8 :=
  if 0 < q then usL q.toNat (if 0 < i then putL l 83 else l) else svL (-q).toNat (if 0 < i then putL l 83 else l)
/-- The word of the first k numbers. -/
def fwTo (qs : List Int) : Nat → List UInt8
  | 0 => []
  | k + 1 => stL k (qs.getD k 0) (fwTo qs k)
def freeL (qs : List Int) : List UInt8 := fwTo qs qs.length

theorem usL_len (n : Nat) (l : List UInt8) : (usL n l).length ≤ l.length + 2 * n := by
  induction n generalizing l with
  | zero => exact Nat.le_refl _
  | succ n ih =>
    have h1 := ih (putL (putL l 85) 83)
    have h2 := putL_len (putL l 85) 83
    have h3 := putL_len l 85
    simp only [usL]
    omega
theorem svL_len (n : Nat) (l : List UInt8) : (svL n l).length ≤ l.length + 2 * n := by
  induction n generalizing l with
  | zero => exact Nat.le_refl _
  | succ n ih =>
    have h1 := ih (putL (putL l 83) 86)
    have h2 := putL_len (putL l 83) 86
    have h3 := putL_len l 83
    simp only [svL]
    omega
/-- The sum of the sizes of the first k numbers. -/
def sumA (qs : List Int) : Nat → Nat
  | 0 => 0
  | k + 1 => sumA qs k + (qs.getD k 0).natAbs
theorem stL_len (i : Nat) (q : Int) (l : List UInt8) : (stL i q l).length ≤ l.length + 1 + 2 * q.natAbs := by
  have hl : (if 0 < i then putL l 83 else l).length ≤ l.length + 1 := by
    split
    · exact putL_len l 83
    · omega
  unfold stL
  split
  · have := usL_len q.toNat (if 0 < i then putL l 83 else l)
    omega
  · have := svL_len (-q).toNat (if 0 < i then putL l 83 else l)
    omega
theorem fwTo_len (qs : List Int) (k : Nat) : (fwTo qs k).length ≤ k + 2 * sumA qs k := by
  induction k with
  | zero => simp [fwTo]
  | succ k ih =>
    have := stL_len k (qs.getD k 0) (fwTo qs k)
    simp only [fwTo, sumA]
    omega

/-- Words that take U S plainly: empty, or with an S at the end. -/
def EndS (l : List UInt8) : Prop := l = [] ∨ ∃ z, l = z ++ [83]
def EndN (l : List UInt8) : Prop := l = [] ∨ ∃ z x, x ≠ 83 ∧ l = z ++ [x]
theorem us_step {l : List UInt8} (h : EndS l) : putL (putL l 85) 83 = l ++ [85, 83] := by
  rcases h with rfl | ⟨z, rfl⟩
  · rfl
  · rw [putL_snoc, if_pos (by decide), putL_snoc, if_pos (by decide), List.append_assoc, List.append_assoc, List.append_assoc]
    rfl
theorem sv_step {l : List UInt8} (h : EndN l) : putL (putL l 83) 86 = l ++ [83, 86] := by
  rcases h with rfl | ⟨z, x, hx, rfl⟩
  · rfl
  · rw [putL_snoc, if_pos (by rw [beq_eq_false_iff_ne.2 hx]; decide), putL_snoc, if_pos (by decide), List.append_assoc, List.append_assoc, List.append_assoc]
    rfl
theorem usL_end (n : Nat) : ∀ {l : List UInt8}, EndS l → (usL n l).length = l.length + 2 * n ∧ (0 < n → ∃ z, usL n l = z ++ [85, 83]) := by
  induction n with
  | zero => intro l _; exact ⟨rfl, fun h => absurd h (Nat.lt_irrefl _)⟩
  | succ n ih =>
    intro l h
    simp only [usL]
    rw [us_step h]
    obtain ⟨h1, h2⟩ := ih (l := l ++ [85, 83]) (.inr ⟨l ++ [85], by simp⟩)
    refine ⟨by rw [h1]; simp; omega, fun _ => ?_⟩
    by_cases hn : n = 0
    · subst hn; exact ⟨l, rfl⟩
    · exact h2 (by omega)
theorem svL_end (n : Nat) : ∀ {l : List UInt8}, EndN l → (svL n l).length = l.length + 2 * n ∧ (0 < n → ∃ z, svL n l = z ++ [83, 86]) := by
  induction n with
  | zero => intro l _; exact ⟨rfl, fun h => absurd h (Nat.lt_irrefl _)⟩
  | succ n ih =>
    intro l h
    simp only [svL]
    rw [sv_step h]
    obtain ⟨h1, h2⟩ := ih (l := l ++ [83, 86]) (.inr ⟨l ++ [83], 86, by decide, by simp⟩)
    refine ⟨by rw [h1]; simp; omega, fun _ => ?_⟩
    by_cases hn : n = 0
    · subst hn; exact ⟨l, rfl⟩
    · exact h2 (by omega)

/-- How the word ends behind a number. -/
structure TailR (q : Int) (l : List UInt8) : Prop where
  pos : 0 < q → ∃ z, l = z ++ [85, 83]
  neg : q < 0 → ∃ z, l = z ++ [83, 86]
  zero : q = 0 → l = []
theorem st_first (q : Int) : (stL 0 q []).length = 2 * q.natAbs ∧ TailR q (stL 0 q []) := by
  unfold stL
  rw [if_neg (Nat.lt_irrefl 0)]
  by_cases h : 0 < q
  · rw [if_pos h]
    obtain ⟨h1, h2⟩ := usL_end q.toNat (l := []) (.inl rfl)
    exact ⟨by rw [h1]; simp; omega, ⟨fun _ => h2 (by omega), fun h' => by omega, fun h' => by omega⟩⟩
  · rw [if_neg h]
    obtain ⟨h1, h2⟩ := svL_end (-q).toNat (l := []) (.inl rfl)
    refine ⟨by rw [h1]; simp; omega, ⟨fun h' => by omega, fun h' => h2 (by omega), fun h' => ?_⟩⟩
    subst h'
    rfl
theorem tail_us {b : Int} {l : List UInt8} (hb : 0 < b) (h : ∃ z, l = z ++ [85, 83]) : TailR b l := ⟨fun _ => h, fun h' => by omega, fun h' => by omega⟩
theorem tail_sv {b : Int} {l : List UInt8} (hb : b < 0) (h : ∃ z, l = z ++ [83, 86]) : TailR b l := ⟨fun h' => by omega, fun _ => h, fun h' => by omega⟩
/-- One number more behind the first: at most two letters go. -/
theorem st_step {i : Nat} {a b : Int} {l : List UInt8} (hi : 0 < i) (h : TailR a l) : l.length + 2 * b.natAbs ≤ (stL i b l).length + 2 ∧ (2 ≤ b.natAbs → TailR b (stL i b l)) := by
  unfold stL
  rw [if_pos hi]
  rcases Int.lt_trichotomy a 0 with ha | ha | ha
  · obtain ⟨z, rfl⟩ := h.neg ha
    have e0 : putL (z ++ [83, 86]) 83 = z ++ [83, 86, 83] := by
      rw [show z ++ [83, 86] = (z ++ [83]) ++ [86] by simp, putL_snoc, if_pos (by decide)]; simp
    rw [e0]
    by_cases hb : 0 < b
    · rw [if_pos hb]
      obtain ⟨h1, h2⟩ := usL_end b.toNat (l := z ++ [83, 86, 83]) (.inr ⟨z ++ [83, 86], by simp⟩)
      exact ⟨by rw [h1]; simp; omega, fun _ => tail_us hb (h2 (by omega))⟩
    · rw [if_neg hb]
      by_cases hb0 : b = 0
      · subst hb0
        exact ⟨by simp [svL], fun h' => by simp at h'⟩
      · obtain ⟨n, hn⟩ : ∃ n, (-b).toNat = n + 1 := ⟨(-b).toNat - 1, by omega⟩
        rw [hn]
        simp only [svL]
        have e1 : putL (putL (z ++ [83, 86, 83]) 83) 86 = z ++ [83, 85] := by
          rw [show z ++ [83, 86, 83] = (z ++ [83, 86]) ++ [83] by simp, putL_snoc, if_neg (by decide), if_pos (.inl rfl), show z ++ [83, 86] = (z ++ [83]) ++ [86] by simp, putL_snoc, if_neg (by decide), if_neg (by decide), if_neg (by decide)]
          simp
        rw [e1]
        obtain ⟨h1, h2⟩ := svL_end n (l := z ++ [83, 85]) (.inr ⟨z ++ [83], 85, by decide, by simp⟩)
        exact ⟨by rw [h1]; simp; omega, fun _ => tail_sv (by omega) (h2 (by omega))⟩
  · obtain rfl := h.zero ha
    rw [putL_nil]
    by_cases hb : 0 < b
    · rw [if_pos hb]
      obtain ⟨h1, h2⟩ := usL_end b.toNat (l := [83]) (.inr ⟨[], rfl⟩)
      exact ⟨by rw [h1]; simp; omega, fun _ => tail_us hb (h2 (by omega))⟩
    · rw [if_neg hb]
      by_cases hb0 : b = 0
      · subst hb0
        exact ⟨by simp, fun h' => by simp at h'⟩
      · obtain ⟨n, hn⟩ : ∃ n, (-b).toNat = n + 1 := ⟨(-b).toNat - 1, by omega⟩
        rw [hn]
        simp only [svL]
        have e1 : putL (putL [83] 83) 86 = [86] := by decide
        rw [e1]
        obtain ⟨h1, h2⟩ := svL_end n (l := [86]) (.inr ⟨[], 86, by decide, rfl⟩)
        exact ⟨by rw [h1]; simp; omega, fun _ => tail_sv (by omega) (h2 (by omega))⟩
  · obtain ⟨z, rfl⟩ := h.pos ha
    have e0 : putL (z ++ [85, 83]) 83 = z ++ [85] := by
      rw [show z ++ [85, 83] = (z ++ [85]) ++ [83] by simp, putL_snoc, if_neg (by decide), if_pos (.inl rfl)]
    rw [e0]
    by_cases hb : 0 < b
    · rw [if_pos hb]
      obtain ⟨n, hn⟩ : ∃ n, b.toNat = n + 1 := ⟨b.toNat - 1, by omega⟩
      rw [hn]
      simp only [usL]
      have e1 : putL (putL (z ++ [85]) 85) 83 = z ++ [86, 83] := by
        rw [putL_snoc, if_neg (by decide), if_neg (by decide), if_pos rfl, putL_snoc, if_pos (by decide)]
        simp
      rw [e1]
      obtain ⟨h1, h2⟩ := usL_end n (l := z ++ [86, 83]) (.inr ⟨z ++ [86], by simp⟩)
      exact ⟨by rw [h1]; simp; omega, fun _ => tail_us hb (h2 (by omega))⟩
    · rw [if_neg hb]
      by_cases hb0 : b = 0
      · subst hb0
        exact ⟨by simp [svL], fun h' => by simp at h'⟩
      · obtain ⟨h1, h2⟩ := svL_end (-b).toNat (l := z ++ [85]) (.inr ⟨z, 85, by decide, rfl⟩)
        exact ⟨by rw [h1]; simp; omega, fun _ => tail_sv (by omega) (h2 (by omega))⟩

/-- The numbers inside are 2 or more, or -2 or less. -/
def Inner (qs : List Int) : Prop := ∀ j, 0 < j → j + 1 < qs.length → 2 ≤ (qs.getD j 0).natAbs
theorem fw_low {qs : List Int} (h : Inner qs) (k : Nat) (hk : k + 1 < qs.length) :
    TailR (qs.getD k 0) (fwTo qs (k + 1)) ∧ 2 * sumA qs (k + 1) ≤ (fwTo qs (k + 1)).length + 2 * k ∧ 2 * k ≤ sumA qs (k + 1) ∧ ((∃ j, j ≤ k ∧ 200 < (qs.getD j 0).natAbs) → 400 + 2 * k ≤ 2 * sumA qs (k + 1)) := by
  induction k with
  | zero =>
    obtain ⟨h1, h2⟩ := st_first (qs.getD 0 0)
    simp only [fwTo, sumA]
    refine ⟨h2, by omega, by omega, ?_⟩
    rintro ⟨j, hj, hq⟩
    obtain rfl : j = 0 := by omega
    omega
  | succ k ih =>
    obtain ⟨h1, h2, h3, h4⟩ := ih (by omega)
    obtain ⟨g1, g2⟩ := st_step (i := k + 1) (b := qs.getD (k + 1) 0) (by omega) h1
    have hq := h (k + 1) (by omega) (by omega)
    have e1 : fwTo qs (k + 1 + 1) = stL (k + 1) (qs.getD (k + 1) 0) (fwTo qs (k + 1)) := rfl
    have e2 : sumA qs (k + 1 + 1) = sumA qs (k + 1) + (qs.getD (k + 1) 0).natAbs := rfl
    rw [e1, e2]
    refine ⟨g2 hq, by omega, by omega, ?_⟩
    rintro ⟨j, hj, hjq⟩
    by_cases e : j ≤ k
    · have := h4 ⟨j, e, hjq⟩
      omega
    · obtain rfl : j = k + 1 := by omega
      omega
/-- A great number, or a great sum: the word is too long. -/
theorem free_long {qs : List Int} (h : Inner qs) (h0 : 0 < qs.length) (hg : (∃ j, j < qs.length ∧ 200 < (qs.getD j 0).natAbs) ∨ 600 < sumA qs qs.length) : 200 < (freeL qs).length := by
  unfold freeL
  by_cases h1 : qs.length = 1
  · rw [h1] at hg ⊢
    have := (st_first (qs.getD 0 0)).1
    simp only [fwTo]
    rcases hg with ⟨j, hj, hq⟩ | hg
    · obtain rfl : j = 0 := by omega
      omega
    · simp only [sumA] at hg
      omega
  · obtain ⟨n, hn⟩ : ∃ n, qs.length = n + 1 + 1 := ⟨qs.length - 2, by omega⟩
    obtain ⟨k1, k2, k3, k4⟩ := fw_low h n (by omega)
    obtain ⟨g1, -⟩ := st_step (i := n + 1) (b := qs.getD (n + 1) 0) (by omega) k1
    rw [hn] at hg ⊢
    have e1 : fwTo qs (n + 1 + 1) = stL (n + 1) (qs.getD (n + 1) 0) (fwTo qs (n + 1)) := rfl
    have e2 : sumA qs (n + 1 + 1) = sumA qs (n + 1) + (qs.getD (n + 1) 0).natAbs := rfl
    rw [e1]
    rw [e2] at hg
    rcases hg with ⟨j, hj, hq⟩ | hg
    · by_cases e : j ≤ n
      · have := k4 ⟨j, e, hq⟩
        omega
      · obtain rfl : j = n + 1 := by omega
        omega
    · omega

theorem flr_two {a c : Int} (hc : c ≠ 0) (h : 2 * c.natAbs ≤ a.natAbs) : 2 ≤ (flr (2 * a + c) (2 * c)).natAbs := by
  by_cases hp : 0 < c
  · rw [flr_pos (by omega)]
    by_cases ha : 0 ≤ a
    · have : 2 ≤ (2 * a + c) / (2 * c) := (Int.le_ediv_iff_mul_le (by omega)).2 (by omega)
      omega
    · have : (2 * a + c) / (2 * c) < -1 := Int.ediv_lt_of_lt_mul (by omega) (by omega)
      omega
  · have hf : flr (2 * a + c) (2 * c) = (-(2 * a + c)) / (-(2 * c)) := by unfold flr; rw [if_neg (by omega)]
    rw [hf]
    by_cases ha : 0 ≤ a
    · have : (-(2 * a + c)) / (-(2 * c)) < -1 := Int.ediv_lt_of_lt_mul (by omega) (by omega)
      omega
    · have : 2 ≤ (-(2 * a + c)) / (-(2 * c)) := (Int.le_ediv_iff_mul_le (by omega)).2 (by omega)
      omega
/-- All numbers of a chain. -/
def chAll (m : M) (k : Nat) : List Int := chQs m k ++ [(chM m k).a * (chM m k).b]
theorem chAll_len (m : M) (k : Nat) : (chAll m k).length = k + 1 := by simp [chAll, chQs_len]
theorem chAll_get {m : M} {k j : Nat} (h : j < k) : (chAll m k).getD j 0 = chQ1 (chM m j) := by
  unfold chAll
  rw [List.getD, List.getElem?_append_left (by rw [chQs_len]; exact h)]
  simp [chQs, h]
theorem ch_inner {m : M} {k : Nat} (h : chOK m) (he : ChEnds m k) : Inner (chAll m k) := by
  intro j hj hl
  rw [chAll_len] at hl
  rw [chAll_get (by omega)]
  obtain ⟨i, rfl⟩ : ∃ i, j = i + 1 := ⟨j - 1, by omega⟩
  have h1 := (chM_ok h i (fun l hl => he.1 l (by omega))).1
  have h2 := (chS_ok h1 (he.1 i (by omega))).2
  exact flr_two (a := (chM m i).c) (c := (chS (chM m i)).c) (he.1 (i + 1) (by omega)) h2
theorem ch_pow {m : M} (h : chOK m) (k : Nat) (hk : ∀ j, j < k → (chM m j).c ≠ 0) : 2 ^ k * (chM m k).c.natAbs ≤ m.c.natAbs := by
  induction k with
  | zero => simp [chM]
  | succ k ih =>
    have h0 := ih fun j hj => hk j (by omega)
    have h1 := (chM_ok h k (fun l hl => hk l (by omega))).1
    have h2 := (chS_ok h1 (hk k (by omega))).2
    show 2 ^ (k + 1) * (chS (chM m k)).c.natAbs ≤ _
    rw [Nat.pow_succ, Nat.mul_assoc]
    exact Nat.le_trans (Nat.mul_le_mul_left _ h2) h0
theorem ch_short {m : M} {k : Nat} (h : chOK m) (he : ChEnds m k) : k ≤ 31 := by
  by_cases hk : k ≤ 31
  · exact hk
  · have h1 := ch_pow h 31 (fun j hj => he.1 j (by omega))
    have h2 := he.1 31 (by omega)
    have h3 := h.2.2.2.1
    have h4 : 2 ^ 31 * 1 ≤ 2 ^ 31 * (chM m 31).c.natAbs := Nat.mul_le_mul_left _ (by omega)
    have h5 : m.c.natAbs ≤ 1000000000 := by omega
    have h6 : (2 : Nat) ^ 31 = 2147483648 := by decide
    omega
/-- The word as a string, and the code. -/
def resF (qs : List Int) : ByteArray × Int := if 200 < (freeL qs).length then (⟨#[]⟩, 3) else (⟨(freeL qs).toArray⟩, 0)

end Go.Proofs.Ytcapmljnhflopaa
