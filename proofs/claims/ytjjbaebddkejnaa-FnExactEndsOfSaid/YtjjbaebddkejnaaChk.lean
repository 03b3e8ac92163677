/- The cusps of the fractions of a level's coset matrices, checked level by level (plain law). -/
import Derived.Test.YtjjbaebddkejnaaNms
namespace Go.Proofs.Ytjjbaebddkejnaa
open Go.RowKit
set_option linter.unusedSimpArgs false

/-- The line, and places in it, as the kernel reckons fast. -/
def rowQ (n c : Nat) : Nat → List (Nat × Nat)
  | 0 => []
  | d + 1 => bif isLnF n c d then rowQ n c d ++ [(c, d)] else rowQ n c d
def lineQ (n : Nat) : Nat → List (Nat × Nat)
  | 0 => []
  | c + 1 => lineQ n c ++ rowQ n c n
def idQ : List (Nat × Nat) → Nat → Nat → Nat
  | [], _, _ => 0
  | p :: l, x, y => bif (bif Nat.beq p.1 x then Nat.beq p.2 y else false) then 0 else Nat.succ (idQ l x y)
theorem rowQ_eq (n c d : Nat) : rowQ n c d = lnRow n c d := by
  induction d with
  | zero => rfl
  | succ d ih =>
    rw [rowQ, lnRow, isLnF_eq, ih]
    cases isLn n c d <;> simp
theorem lineQ_eq (n c : Nat) : lineQ n c = lnTo n c := by
  induction c with
  | zero => rfl
  | succ c ih => rw [lineQ, lnTo, ih, rowQ_eq]
theorem idQ_eq {l : List (Nat × Nat)} {p : Nat × Nat} (h : idQ l p.1 p.2 < l.length) : idxP l p = (idQ l p.1 p.2 : Int) := by
  have key : ∀ l : List (Nat × Nat), idQ l p.1 p.2 < l.length → p ∈ l ∧ l.idxOf p = idQ l p.1 p.2 := fun l => by
    induction l with
    | nil => intro h; exact absurd h (Nat.not_lt_zero _)
    | cons q l ih =>
      intro h
      rw [idQ, beq_dec, beq_dec] at h ⊢
      by_cases e : q = p
      · subst e
        simp
      · have e2 : (bif decide (q.1 = p.1) then decide (q.2 = p.2) else false) = false := by
          by_cases h1 : q.1 = p.1
          · by_cases h2 : q.2 = p.2
            · exact absurd (Prod.ext h1 h2) e
            · simp [h1, h2]
          · simp [h1]
        rw [e2] at h ⊢
        simp only [cond_false, List.length_cons, Nat.succ_eq_add_one] at h ⊢
        obtain ⟨h1, h2⟩ := ih (by omega)
        exact ⟨List.mem_cons_of_mem _ h1, by rw [List.idxOf_cons, beq_eq_false_iff_ne.2 e, h2]; rfl⟩
  obtain ⟨h1, h2⟩ := key l h
  unfold idxP
  rw [if_pos h1, h2]
/-- Multiples of the level are added to d until c and d have no divisor in common. -/
def kdQ (n c : Nat) : Nat → Nat → Option Nat
  | 0, _ => none
  | r + 1, d => bif Nat.blt 1 (Nat.gcd c d) then kdQ n c r (d + n) else some d
/-- The least a with a d of the rest 1 by c. -/
def aQ (c d : Nat) : Nat → Nat → Option Nat
  | 0, _ => none
  | r + 1, a => bif Nat.beq (Nat.mod (Nat.mul a d) c) (Nat.mod 1 c) then some a else aQ c d r (a + 1)
/-- The coset matrix of a pair: a and d; b is (a d - 1) / c. -/
def cosQ (n c d : Nat) : Option (Nat × Nat) := bif Nat.beq c 0 then some (1, 1) else (kdQ n c 70 d).bind fun d2 => (aQ c d2 70 0).bind fun a => some (a, d2)
def bQ (c : Nat) (q : Nat × Nat) : Int := bif Nat.beq c 0 then 0 else Int.tdiv ((q.1 : Int) * (q.2 : Int) - 1) (c : Int)
/-- The fraction with a denominator of at least 0. -/
def nfQ (p : Int) (q : Nat) : Int := bif Nat.beq q 0 then 1 else p
/-- The program's bezout, with numbers that stay small. -/
def smB (z : Int) : Bool := decide (-1000000000 ≤ z) && decide (z ≤ 1000000000)
def bzF : Nat → Int → Int → Int → Int → Int → Int → Option (Int × Int)
  | 0, _, _, _, _, _, _ => none
  | r + 1, p, q, a, b, c, d => bif decide (q = 0) then some (-b * p, a * p) else
    bif smB (a - Int.tdiv p q * c) && smB (b - Int.tdiv p q * d) then bzF r q (p - Int.tdiv p q * q) c d (a - Int.tdiv p q * c) (b - Int.tdiv p q * d) else none
/-- The coset of a fraction. -/
def cfQ (n : Nat) (L : List (Nat × Nat)) (p : Int) (q : Nat) : Option Nat :=
  (bzF 64 p (q : Int) 1 0 0 1).bind fun rs => match nrmF n (Nat.mod q n) (Int.toNat (rs.2 % (n : Int))) with
    | (x, y) => bif Nat.blt (idQ L x y) L.length then some (idQ L x y) else none
def tQ (n : Nat) (L : List (Nat × Nat)) (x : Nat × Nat) : Nat := match nrmF n x.1 (Nat.mod (x.1 + x.2) n) with | (u, v) => idQ L u v
def sQ (n : Nat) (L : List (Nat × Nat)) (x : Nat × Nat) : Nat := match nrmF n x.2 (Nat.mod (n - x.1) n) with | (u, v) => idQ L u v
/-- The check of a pair at the place i. -/
def pairQ (n : Nat) (L : List (Nat × Nat)) (ns : List Int) (i : Nat) (x : Nat × Nat) : Bool :=
  match cosQ n x.1 x.2 with
  | none => false
  | some q =>
    decide (Int.gcd (q.1 : Int) (x.1 : Int) = 1) && decide (Int.gcd (nfQ (bQ x.1 q) q.2) (q.2 : Int) = 1) && Nat.blt q.1 100000 && Nat.blt q.2 100000 && decide (-1000000 ≤ bQ x.1 q ∧ bQ x.1 q ≤ 1000000)
    && (match cfQ n L (nfQ (q.1 : Int) x.1) x.1 with | none => false | some j => decide (ns.getD j 0 = ns.getD i 0))
    && (match cfQ n L (nfQ (bQ x.1 q) q.2) q.2 with | none => false | some j => decide (ns.getD j 0 = ns.getD (sQ n L x) 0))
    && Nat.blt (tQ n L x) L.length && Nat.blt (sQ n L x) L.length
def allQ (n : Nat) (L : List (Nat × Nat)) (ns : List Int) : Nat → List (Nat × Nat) → Bool
  | _, [] => true
  | i, x :: l => bif pairQ n L ns i x then allQ n L ns (i + 1) l else false
def numQ (n : Nat) (L : List (Nat × Nat)) : List Int := numL (L.map fun x => (tQ n L x : Int)) L.length
def levQ (n : Nat) (L : List (Nat × Nat)) : Bool := bif Nat.blt 72 L.length then true else allQ n L (numQ n L) 0 L
def upQ : Nat → Nat → Bool
  | 0, _ => true
  | j + 1, n => bif levQ (n - j) (lineQ (n - j) (n - j)) then upQ j n else false
theorem upQ1 : upQ 24 24 = true := by decide +kernel
theorem upQ2 : upQ 12 36 = true := by decide +kernel
theorem upQ3 : upQ 12 48 = true := by decide +kernel
theorem upQ4 : upQ 12 60 = true := by decide +kernel

end Go.Proofs.Ytjjbaebddkejnaa
