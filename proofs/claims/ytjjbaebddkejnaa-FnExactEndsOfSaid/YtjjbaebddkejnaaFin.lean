/- The lines of the levels up to 60, checked one by one: how long they are, and that the products of their pairs with two matrices are among them (plain law). -/
import Derived.Test.YtjjbaebddkejnaaMv
namespace Go.Proofs.Ytjjbaebddkejnaa
open Go.RowKit
set_option linter.unusedSimpArgs false

def ltF (a b c d : Nat) : Bool := bif Nat.blt a c then true else bif Nat.beq a c then Nat.blt b d else false
def lnF (n c d : Nat) : Nat → Bool
  | 0 => true
  | k + 1 => bif Nat.beq (Nat.gcd (k + 1) n) 1 then (bif ltF (Nat.mod (Nat.mul (k + 1) c) n) (Nat.mod (Nat.mul (k + 1) d) n) c d then false else lnF n c d k) else lnF n c d k
def isLnF (n c d : Nat) : Bool := bif Nat.beq (Nat.gcd (Nat.gcd c d) n) 1 then lnF n c d (n - 1) else false
def nrmA (n c d : Nat) : Nat → Nat → Nat → Nat × Nat
  | 0, x, y => (x, y)
  | j + 1, x, y => bif Nat.beq (Nat.gcd (n - (j + 1)) n) 1 then (bif ltF (Nat.mod (Nat.mul (n - (j + 1)) c) n) (Nat.mod (Nat.mul (n - (j + 1)) d) n) x y then nrmA n c d j (Nat.mod (Nat.mul (n - (j + 1)) c) n) (Nat.mod (Nat.mul (n - (j + 1)) d) n) else nrmA n c d j x y) else nrmA n c d j x y
def nrmF (n c d : Nat) : Nat × Nat := nrmA n c d (n - 1) c d
def rowF (n c d : Nat) : Bool :=
  match nrmF n d ((n - c) % n) with
  | (x, y) => isLnF n x y && match nrmF n ((c + d) % n) ((n - c) % n) with
    | (x, y) => isLnF n x y && match nrmF n ((x + y) % n) ((n - x) % n) with
      | (x2, y2) => isLnF n x2 y2 && match nrmF n d ((2 * n - c - d) % n) with
        | (x3, y3) => Nat.beq x2 x3 && Nat.beq y2 y3
def rowsF (n c : Nat) : Nat → Bool
  | 0 => true
  | d + 1 => bif isLnF n c d then (bif rowF n c d then rowsF n c d else false) else rowsF n c d
def allF (n : Nat) : Nat → Bool
  | 0 => true
  | c + 1 => bif rowsF n c n then allF n c else false
def cntR (n c : Nat) : Nat → Nat
  | 0 => 0
  | d + 1 => bif isLnF n c d then Nat.succ (cntR n c d) else cntR n c d
def cntF (n : Nat) : Nat → Nat
  | 0 => 0
  | c + 1 => cntR n c n + cntF n c

theorem beq_dec (a b : Nat) : Nat.beq a b = decide (a = b) := by
  cases h : Nat.beq a b with
  | true => simp [Nat.eq_of_beq_eq_true h]
  | false => simp [Nat.ne_of_beq_eq_false h]
theorem blt_dec (a b : Nat) : Nat.blt a b = decide (a < b) := by
  by_cases h : a < b
  · simp only [h, decide_true]
    exact Nat.ble_eq_true_of_le h
  · simp only [h, decide_false]
    exact Bool.eq_false_iff.2 fun e => h (Nat.le_of_ble_eq_true e)
theorem ltF_dec (a b c d : Nat) : ltF a b c d = decide (ltP (a, b) (c, d)) := by
  unfold ltF ltP
  rw [blt_dec, blt_dec, beq_dec]
  by_cases h1 : a < c
  · simp [h1]
  · by_cases h2 : a = c
    · simp [h1, h2]
    · simp [h1, h2]
theorem ltP_trans {x y z : Nat × Nat} (h1 : ltP x y) (h2 : ltP y z) : ltP x z := by
  unfold ltP at *
  omega
theorem ltP_irr (x : Nat × Nat) : ¬ ltP x x := by
  unfold ltP
  omega
theorem nrm_le (n c d k : Nat) : nrm n c d k = (c, d) ∨ ltP (nrm n c d k) (c, d) := by
  induction k with
  | zero => exact .inl rfl
  | succ k ih =>
    simp only [nrm, nst]
    split
    · rename_i h
      rcases ih with e | e
      · rw [e] at h
        exact .inr h.2
      · exact .inr (ltP_trans h.2 e)
    · exact ih
theorem lnF_iff (n c d k : Nat) : lnF n c d k = true ↔ nrm n c d k = (c, d) := by
  induction k with
  | zero => simp [lnF, nrm]
  | succ k ih =>
    rw [lnF, beq_dec, ltF_dec]
    simp only [nrm, nst]
    show (bif decide (Nat.gcd (k + 1) n = 1) then (bif decide (ltP ((k + 1) * c % n, (k + 1) * d % n) (c, d)) then false else lnF n c d k) else lnF n c d k) = true ↔ _
    by_cases hg : Nat.gcd (k + 1) n = 1
    · by_cases hl : ltP ((k + 1) * c % n, (k + 1) * d % n) (c, d)
      · simp only [hg, hl, decide_true, cond_true, true_and]
        constructor
        · intro h; cases h
        · intro h
          split at h
          · rw [h] at hl
            exact absurd hl (ltP_irr _)
          · rename_i hn
            rw [h] at hn
            exact absurd hl hn
      · simp only [hg, hl, decide_true, decide_false, cond_true, cond_false, true_and]
        rw [ih]
        constructor
        · intro h
          rw [h, if_neg hl]
        · intro h
          split at h
          · rename_i h2
            rcases nrm_le n c d k with e | e
            · exact e
            · exact absurd (ltP_trans h2 e) hl
          · exact h
    · simp only [hg, decide_false, cond_false, false_and, if_false]
      exact ih
theorem isLnF_eq (n c d : Nat) : isLnF n c d = isLn n c d := by
  unfold isLnF isLn isPr nrmN
  rw [beq_dec]
  by_cases h : Nat.gcd (Nat.gcd c d) n = 1
  · simp only [h, decide_true, cond_true, Bool.true_and]
    have := lnF_iff n c d (n - 1)
    by_cases h2 : nrm n c d (n - 1) = (c, d)
    · rw [this.2 h2]; simp [h2]
    · simp only [h2, decide_false]
      exact Bool.eq_false_iff.2 fun e => h2 (this.1 e)
  · simp [h]
theorem nrmA_eq (n c d j : Nat) (hj : j ≤ n - 1) : nrmA n c d j (nrm n c d (n - 1 - j)).1 (nrm n c d (n - 1 - j)).2 = nrm n c d (n - 1) := by
  induction j with
  | zero => rfl
  | succ j ih =>
    have e : n - 1 - j = (n - 1 - (j + 1)) + 1 := by omega
    have e2 : n - (j + 1) = (n - 1 - (j + 1)) + 1 := by omega
    have ih' := ih (by omega)
    rw [e] at ih'
    rw [← ih', nrmA, beq_dec, ltF_dec, e2]
    simp only [nrm, nst]
    generalize n - 1 - (j + 1) = k
    show (bif decide (Nat.gcd (k + 1) n = 1) then (bif decide (ltP ((k + 1) * c % n, (k + 1) * d % n) (nrm n c d k)) then nrmA n c d j ((k + 1) * c % n) ((k + 1) * d % n) else nrmA n c d j (nrm n c d k).1 (nrm n c d k).2) else nrmA n c d j (nrm n c d k).1 (nrm n c d k).2) = _
    by_cases hg : Nat.gcd (k + 1) n = 1
    · by_cases hl : ltP ((k + 1) * c % n, (k + 1) * d % n) (nrm n c d k)
      · simp [hg, hl]
      · simp [hg, hl]
    · simp [hg]
theorem nrmF_eq (n c d : Nat) : nrmF n c d = nrmN n c d := by
  have := nrmA_eq n c d (n - 1) (Nat.le_refl _)
  rw [Nat.sub_self] at this
  exact this
theorem cntR_eq (n c d : Nat) : cntR n c d = (lnRow n c d).length := by
  induction d with
  | zero => rfl
  | succ d ih =>
    rw [cntR, lnRow, isLnF_eq, List.length_append, ← ih]
    cases isLn n c d <;> simp
theorem cntF_eq (n c : Nat) : cntF n c = (lnTo n c).length := by
  induction c with
  | zero => rfl
  | succ c ih => rw [cntF, lnTo, List.length_append, ← ih, cntR_eq]; omega
theorem line_len (n : Nat) : (lineL n).length = cntF n n := (cntF_eq n n).symm
theorem rowsF_ok {n c d : Nat} (h : rowsF n c d = true) : ∀ k, k < d → isLn n c k = true → rowF n c k = true := by
  induction d with
  | zero => intro k hk; omega
  | succ d ih =>
    intro k hk hl
    rw [rowsF, isLnF_eq] at h
    by_cases e : k = d
    · subst e
      rw [hl] at h
      simp only [cond_true] at h
      cases hr : rowF n c k with
      | true => rfl
      | false => rw [hr] at h; cases h
    · refine ih ?_ k (by omega) hl
      cases h2 : isLn n c d with
      | true =>
        rw [h2] at h
        cases hr : rowF n c d with
        | true => rw [hr] at h; exact h
        | false => rw [hr] at h; cases h
      | false => rw [h2] at h; exact h
theorem allF_ok {n c : Nat} (h : allF n c = true) : ∀ k, k < c → rowsF n k n = true := by
  induction c with
  | zero => intro k hk; omega
  | succ c ih =>
    intro k hk
    rw [allF] at h
    cases hr : rowsF n c n with
    | false => rw [hr] at h; cases h
    | true =>
      rw [hr] at h
      by_cases e : k = c
      · subst e; exact hr
      · exact ih h k (by omega)
/-- What a level's check says of a pair of its line. -/
theorem row_ok {n : Nat} (h : allF n n = true) {x : Nat × Nat} (hx : x ∈ lineL n) :
    isLn n (nrmN n x.2 ((n - x.1) % n)).1 (nrmN n x.2 ((n - x.1) % n)).2 = true ∧ isLn n (nrmN n ((x.1 + x.2) % n) ((n - x.1) % n)).1 (nrmN n ((x.1 + x.2) % n) ((n - x.1) % n)).2 = true
    ∧ (∀ y, y = nrmN n ((x.1 + x.2) % n) ((n - x.1) % n) → nrmN n ((y.1 + y.2) % n) ((n - y.1) % n) = nrmN n x.2 ((2 * n - x.1 - x.2) % n)) ∧ isLn n (nrmN n x.2 ((2 * n - x.1 - x.2) % n)).1 (nrmN n x.2 ((2 * n - x.1 - x.2) % n)).2 = true := by
  obtain ⟨h1, h2, h3⟩ := lnTo_mem.1 hx
  have := rowsF_ok (allF_ok h x.1 h1) x.2 h2 h3
  unfold rowF at this
  simp only [nrmF_eq, isLnF_eq, Bool.and_eq_true, beq_dec, decide_eq_true_eq] at this
  obtain ⟨a, b, c, d, e⟩ := this
  have f : nrmN n (((nrmN n ((x.1 + x.2) % n) ((n - x.1) % n)).1 + (nrmN n ((x.1 + x.2) % n) ((n - x.1) % n)).2) % n) ((n - (nrmN n ((x.1 + x.2) % n) ((n - x.1) % n)).1) % n) = nrmN n x.2 ((2 * n - x.1 - x.2) % n) := Prod.ext d e
  refine ⟨a, b, fun y hy => by rw [hy]; exact f, ?_⟩
  rw [← f]
  exact c
/-- All levels from n - j + 1 up to n. -/
def upF : Nat → Nat → Bool
  | 0, _ => true
  | j + 1, n => bif allF (n - j) (n - j) then upF j n else false
theorem upF_ok {j n : Nat} (h : upF j n = true) : ∀ k, n - j < k → k ≤ n → allF k k = true := by
  induction j with
  | zero => intro k h1 h2; omega
  | succ j ih =>
    intro k h1 h2
    rw [upF] at h
    cases hr : allF (n - j) (n - j) with
    | false => rw [hr] at h; cases h
    | true =>
      rw [hr] at h
      by_cases e : k = n - j
      · subst e; exact hr
      · exact ih h k (by omega) h2
theorem up1 : upF 40 40 = true := by decide +kernel
theorem up2 : upF 12 52 = true := by decide +kernel
theorem up3 : upF 8 60 = true := by decide +kernel
theorem all_ok {n : Nat} (hn : 1 ≤ n ∧ n ≤ 60) : allF n n = true := by
  by_cases h1 : n ≤ 40
  · exact upF_ok up1 n (by omega) h1
  · by_cases h2 : n ≤ 52
    · exact upF_ok up2 n (by omega) h2
    · exact upF_ok up3 n (by omega) hn.2

end Go.Proofs.Ytjjbaebddkejnaa
