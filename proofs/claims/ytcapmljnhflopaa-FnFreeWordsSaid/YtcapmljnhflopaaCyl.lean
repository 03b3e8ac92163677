/- Cyclic words: plain law. -/
import Derived.Test.YtcapmljnhflopaaFree
namespace Go.Proofs.Ytcapmljnhflopaa
open Go.RowKit

/-- The letters' matrices, and the product of a word. -/
def lm3 (b : UInt8) : M := if b = 83 then ⟨0, -1, 1, 0⟩ else if b = 85 then ⟨1, -1, 1, 0⟩ else ⟨0, -1, 1, -1⟩
def X3 : List UInt8 → M
  | [] => M.one
  | b :: l => (lm3 b).mul (X3 l)
theorem mul_assoc3 (a b c : M) : (a.mul b).mul c = a.mul (b.mul c) := by
  simp only [M.mul, M.mk.injEq]
  refine ⟨?_, ?_, ?_, ?_⟩ <;> grind
theorem one_mul3 (a : M) : M.one.mul a = a := by
  cases a
  simp [M.mul]
theorem mul_one3 (a : M) : a.mul M.one = a := by
  cases a
  simp [M.mul]
theorem tr_comm3 (a b : M) : (a.mul b).tr = (b.mul a).tr := by
  simp only [M.mul, M.tr]; grind
/-- Equal but for the sign. -/
def Sg (m n : M) : Prop := m = n ∨ m = n.neg
theorem Sg.refl (m : M) : Sg m m := .inl rfl
theorem neg_neg3 (m : M) : m.neg.neg = m := by
  cases m
  simp [M.neg]
theorem Sg.symm {m n : M} (h : Sg m n) : Sg n m := by
  rcases h with rfl | rfl
  · exact .inl rfl
  · exact .inr (neg_neg3 n).symm
theorem Sg.trans {m n k : M} (h : Sg m n) (g : Sg n k) : Sg m k := by
  rcases h with rfl | rfl <;> rcases g with rfl | rfl
  · exact .inl rfl
  · exact .inr rfl
  · exact .inr rfl
  · exact .inl (neg_neg3 _)
theorem neg_mul3 (a b : M) : a.neg.mul b = (a.mul b).neg := by
  simp only [M.mul, M.neg, M.mk.injEq]
  refine ⟨?_, ?_, ?_, ?_⟩ <;> grind
theorem mul_neg3 (a b : M) : a.mul b.neg = (a.mul b).neg := by
  simp only [M.mul, M.neg, M.mk.injEq]
  refine ⟨?_, ?_, ?_, ?_⟩ <;> grind
theorem Sg.mul {a b c d : M} (h : Sg a b) (g : Sg c d) : Sg (a.mul c) (b.mul d) := by
  rcases h with rfl | rfl <;> rcases g with rfl | rfl
  · exact .inl rfl
  · exact .inr (mul_neg3 _ _)
  · exact .inr (neg_mul3 _ _)
  · rw [neg_mul3, mul_neg3, neg_neg3]; exact .inl rfl
theorem Sg.tr {a b : M} (h : Sg a b) : a.tr.natAbs = b.tr.natAbs := by
  rcases h with rfl | rfl
  · rfl
  · simp only [M.tr]; omega
theorem X3_app (a b : List UInt8) : X3 (a ++ b) = (X3 a).mul (X3 b) := by
  induction a with
  | nil => rw [List.nil_append]; exact (one_mul3 _).symm
  | cons x a ih =>
    show (lm3 x).mul (X3 (a ++ b)) = ((lm3 x).mul (X3 a)).mul (X3 b)
    rw [ih, mul_assoc3]
theorem X3_one (b : UInt8) : X3 [b] = lm3 b := mul_one3 _

/-- Letters of free words. -/
def L3 (b : UInt8) : Prop := b = 83 ∨ b = 85 ∨ b = 86
def Let3 (l : List UInt8) : Prop := ∀ x, x ∈ l → L3 x
theorem L3.b83 : L3 83 := .inl rfl
theorem L3.b85 : L3 85 := .inr (.inl rfl)
theorem L3.b86 : L3 86 := .inr (.inr rfl)
theorem Let3.nil : Let3 [] := fun _ h => absurd h (List.not_mem_nil)
theorem Let3.app {a b : List UInt8} (ha : Let3 a) (hb : Let3 b) : Let3 (a ++ b) := fun x h => by
  rcases List.mem_append.1 h with h | h
  · exact ha x h
  · exact hb x h
theorem Let3.left {a b : List UInt8} (h : Let3 (a ++ b)) : Let3 a := fun x hx => h x (List.mem_append.2 (.inl hx))
theorem Let3.right {a b : List UInt8} (h : Let3 (a ++ b)) : Let3 b := fun x hx => h x (List.mem_append.2 (.inr hx))
theorem Let3.one {b : UInt8} (h : L3 b) : Let3 [b] := fun x hx => by rw [List.mem_singleton.1 hx]; exact h
theorem Let3.head {b : UInt8} {l : List UInt8} (h : Let3 (b :: l)) : L3 b := h b List.mem_cons_self
theorem Let3.tail {b : UInt8} {l : List UInt8} (h : Let3 (b :: l)) : Let3 l := fun x hx => h x (List.mem_cons_of_mem _ hx)
theorem putL_let {l : List UInt8} {b : UInt8} (h : Let3 l) (hb : L3 b) : Let3 (putL l b) := by
  rcases List.eq_nil_or_concat l with rfl | ⟨z, x, rfl⟩
  · exact Let3.one hb
  · rw [List.concat_eq_append] at h ⊢
    rw [putL_snoc]
    split
    · exact Let3.app h (Let3.one hb)
    · split
      · exact h.left
      · split
        · exact Let3.app h.left (Let3.one L3.b86)
        · exact Let3.app h.left (Let3.one L3.b85)
/-- A letter put to a word: its product, but for the sign. -/
theorem putL_sg {l : List UInt8} {b : UInt8} (h : Let3 l) (hb : L3 b) : Sg (X3 (putL l b)) ((X3 l).mul (lm3 b)) := by
  rcases List.eq_nil_or_concat l with rfl | ⟨z, x, rfl⟩
  · rw [putL_nil, X3_one]; exact .inl (one_mul3 _).symm
  · rw [List.concat_eq_append] at h ⊢
    have hx : L3 x := h.right.head
    rw [putL_snoc, X3_app, X3_one, mul_assoc3]
    have key : ∀ (t : List UInt8), Sg (X3 t) ((lm3 x).mul (lm3 b)) → Sg (X3 (z ++ t)) ((X3 z).mul ((lm3 x).mul (lm3 b))) := fun t ht => by
      rw [X3_app]; exact (Sg.refl _).mul ht
    split
    · rw [List.append_assoc]
      refine key _ (.inl ?_)
      rw [X3_app, X3_one, X3_one]
    · rename_i h0
      split
      · have := key [] ?_
        · rwa [List.append_nil] at this
        · rename_i h1
          rcases hx with rfl | rfl | rfl <;> rcases hb with rfl | rfl | rfl <;> first | (exfalso; revert h0; decide) | (exfalso; revert h1; decide) | (unfold Sg X3 lm3; decide)
      · rename_i h1
        split
        · rename_i h2
          refine key _ ?_
          rcases hx with rfl | rfl | rfl <;> rcases hb with rfl | rfl | rfl <;> first | (exfalso; revert h0; decide) | (exfalso; revert h1; decide) | (exfalso; revert h2; decide) | (rw [X3_one]; unfold Sg lm3; decide)
        · rename_i h2
          refine key _ ?_
          rcases hx with rfl | rfl | rfl <;> rcases hb with rfl | rfl | rfl <;> first | (exfalso; revert h0; decide) | (exfalso; revert h1; decide) | (exfalso; revert h2; decide) | (rw [X3_one]; unfold Sg lm3; decide)

/-- S and others by turns. -/
def altB : Bool → List UInt8 → Prop
  | _, [] => True
  | s, x :: l => (x == 83) = s ∧ altB (!s) l
def xr (s : Bool) (n : Nat) : Bool := if n % 2 = 1 then !s else s
theorem altB_app (s : Bool) (a b : List UInt8) : altB s (a ++ b) ↔ altB s a ∧ altB (xr s a.length) b := by
  induction a generalizing s with
  | nil => simp [altB, xr]
  | cons x a ih =>
    have e : xr (!s) a.length = xr s (x :: a).length := by
      unfold xr
      rw [List.length_cons]
      by_cases h : a.length % 2 = 1
      · rw [if_pos h, if_neg (by omega), Bool.not_not]
      · rw [if_neg h, if_pos (by omega)]
    show (x == 83) = s ∧ altB (!s) (a ++ b) ↔ ((x == 83) = s ∧ altB (!s) a) ∧ altB (xr s (x :: a).length) b
    rw [ih, e, and_assoc]
def Alt (l : List UInt8) : Prop := ∃ s, altB s l
theorem putL_alt {l : List UInt8} {b : UInt8} {s : Bool} (hl : l ≠ []) (h : altB s l) : altB s (putL l b) := by
  rcases List.eq_nil_or_concat l with rfl | ⟨z, x, rfl⟩
  · exact absurd rfl hl
  · rw [List.concat_eq_append] at h ⊢
    rw [putL_snoc]
    have h1 := (altB_app s z [x]).1 h
    obtain ⟨hz, hx, -⟩ := h1
    split
    · rename_i h0
      refine (altB_app _ _ _).2 ⟨h, ?_, trivial⟩
      have e : xr s (z ++ [x]).length = !(xr s z.length) := by
        unfold xr
        rw [List.length_append, List.length_singleton]
        by_cases hz : z.length % 2 = 1
        · rw [if_pos hz, if_neg (by omega), Bool.not_not]
        · rw [if_neg hz, if_pos (by omega)]
      rw [e, ← hx]
      cases h5 : (x == 83) <;> cases h6 : (b == 83) <;> simp_all
    · rename_i h0
      split
      · exact hz
      · rename_i h1
        have hb : ¬ b = 83 := fun e => h1 (.inl e)
        have h4 : (x == 83) = false := by
          cases h5 : (x == 83) with
          | false => rfl
          | true =>
            exfalso
            apply h0
            rw [h5, beq_eq_false_iff_ne.2 hb]
            rfl
        split
        · exact (altB_app _ _ _).2 ⟨hz, by rw [← hx, h4]; rfl, trivial⟩
        · exact (altB_app _ _ _).2 ⟨hz, by rw [← hx, h4]; rfl, trivial⟩
theorem putL_Alt {l : List UInt8} {b : UInt8} (h : Alt l) : Alt (putL l b) := by
  by_cases hl : l = []
  · subst hl; exact ⟨b == 83, rfl, trivial⟩
  · obtain ⟨s, hs⟩ := h
    exact ⟨s, putL_alt hl hs⟩

/-- The free word has the matrix, but for the sign. -/
structure Wd (l : List UInt8) : Prop where
  lets : Let3 l
  alt : Alt l
theorem Wd.nil : Wd [] := ⟨Let3.nil, true, trivial⟩
theorem Wd.put {l : List UInt8} {b : UInt8} (h : Wd l) (hb : L3 b) : Wd (putL l b) := ⟨putL_let h.lets hb, putL_Alt h.alt⟩
theorem usL_wd (n : Nat) {l : List UInt8} (h : Wd l) : Wd (usL n l) := by
  induction n generalizing l with
  | zero => exact h
  | succ n ih => exact ih ((h.put L3.b85).put L3.b83)
theorem svL_wd (n : Nat) {l : List UInt8} (h : Wd l) : Wd (svL n l) := by
  induction n generalizing l with
  | zero => exact h
  | succ n ih => exact ih ((h.put L3.b83).put L3.b86)
theorem stL_wd (i : Nat) (q : Int) {l : List UInt8} (h : Wd l) : Wd (stL i q l) := by
  have h0 : Wd (if 0 < i then putL l 83 else l) := by split; exact h.put L3.b83; exact h
  unfold stL
  split
  · exact usL_wd _ h0
  · exact svL_wd _ h0
theorem fwTo_wd (qs : List Int) (k : Nat) : Wd (fwTo qs k) := by
  induction k with
  | zero => exact Wd.nil
  | succ k ih => exact stL_wd _ _ ih
/-- The power of T. -/
def tp (q : Int) : M := ⟨1, q, 0, 1⟩
theorem tp_add (a b : Int) : (tp a).mul (tp b) = tp (a + b) := by
  simp only [M.mul, tp, M.mk.injEq]
  refine ⟨?_, ?_, ?_, ?_⟩ <;> grind
theorem putL_mul {l : List UInt8} {b : UInt8} {m : M} (h : Let3 l) (hb : L3 b) (hm : Sg (X3 l) m) : Sg (X3 (putL l b)) (m.mul (lm3 b)) := (putL_sg h hb).trans (hm.mul (Sg.refl _))
theorem us_sg {l : List UInt8} {m : M} (h : Wd l) (hm : Sg (X3 l) m) : Sg (X3 (putL (putL l 85) 83)) (m.mul (tp 1)) := by
  have h1 := putL_mul (h.put L3.b85).lets L3.b83 (putL_mul h.lets L3.b85 hm)
  refine h1.trans ?_
  rw [mul_assoc3]
  exact (Sg.refl _).mul (by unfold Sg lm3 tp; decide)
theorem sv_sg {l : List UInt8} {m : M} (h : Wd l) (hm : Sg (X3 l) m) : Sg (X3 (putL (putL l 83) 86)) (m.mul (tp (-1))) := by
  have h1 := putL_mul (h.put L3.b83).lets L3.b86 (putL_mul h.lets L3.b83 hm)
  refine h1.trans ?_
  rw [mul_assoc3]
  exact (Sg.refl _).mul (by unfold Sg lm3 tp; decide)
theorem usL_sg (n : Nat) {l : List UInt8} {m : M} (h : Wd l) (hm : Sg (X3 l) m) : Sg (X3 (usL n l)) (m.mul (tp n)) := by
  induction n generalizing l m with
  | zero => show Sg (X3 l) (m.mul M.one); rw [mul_one3]; exact hm
  | succ n ih =>
    have h1 := ih ((h.put L3.b85).put L3.b83) (us_sg h hm)
    rw [mul_assoc3, tp_add, show (1 : Int) + (n : Int) = ((n + 1 : Nat) : Int) by omega] at h1
    exact h1
theorem svL_sg (n : Nat) {l : List UInt8} {m : M} (h : Wd l) (hm : Sg (X3 l) m) : Sg (X3 (svL n l)) (m.mul (tp (-(n : Int)))) := by
  induction n generalizing l m with
  | zero => show Sg (X3 l) (m.mul M.one); rw [mul_one3]; exact hm
  | succ n ih =>
    have h1 := ih ((h.put L3.b83).put L3.b86) (sv_sg h hm)
    rw [mul_assoc3, tp_add, show (-1 : Int) + -(n : Int) = -((n + 1 : Nat) : Int) by omega] at h1
    exact h1
theorem stL_sg (i : Nat) (q : Int) {l : List UInt8} {m : M} (h : Wd l) (hm : Sg (X3 l) m) : Sg (X3 (stL i q l)) ((if 0 < i then m.mul (lm3 83) else m).mul (tp q)) := by
  have h0 : Wd (if 0 < i then putL l 83 else l) := by split; exact h.put L3.b83; exact h
  have h1 : Sg (X3 (if 0 < i then putL l 83 else l)) (if 0 < i then m.mul (lm3 83) else m) := by
    split
    · exact putL_mul h.lets L3.b83 hm
    · exact hm
  unfold stL
  split
  · have := usL_sg q.toNat h0 h1
    rwa [Int.toNat_of_nonneg (by omega)] at this
  · have := svL_sg (-q).toNat h0 h1
    rwa [Int.toNat_of_nonneg (by omega), Int.neg_neg] at this
/-- A step of the chain takes a power of T and an S away. -/
theorem chS_mul (m : M) : (tp (chQ1 m)).mul ((lm3 83).mul (chS m)) = m := by
  obtain ⟨a, b, c, d⟩ := m
  have e : lm3 83 = ⟨0, -1, 1, 0⟩ := rfl
  rw [e]
  unfold chS tp M.mul
  simp only [M.mk.injEq]
  generalize chQ1 _ = q
  refine ⟨?_, ?_, ?_, ?_⟩ <;> grind
theorem fwTo_sg {m : M} {k : Nat} (j : Nat) (hj : j ≤ k) : Sg ((X3 (fwTo (chAll m k) j)).mul (if 0 < j then (lm3 83).mul (chM m j) else chM m j)) m := by
  induction j with
  | zero => rw [if_neg (Nat.lt_irrefl 0)]; show Sg (M.one.mul m) m; rw [one_mul3]; exact Sg.refl _
  | succ j ih =>
    have h0 := ih (by omega)
    rw [if_pos (by omega)]
    have e : (chAll m k).getD j 0 = chQ1 (chM m j) := chAll_get (by omega)
    have h1 := stL_sg j (chQ1 (chM m j)) (fwTo_wd (chAll m k) j) (Sg.refl _)
    show Sg ((X3 (stL j ((chAll m k).getD j 0) (fwTo (chAll m k) j))).mul ((lm3 83).mul (chS (chM m j)))) m
    rw [e]
    refine (h1.mul (Sg.refl _)).trans ?_
    rw [mul_assoc3, chS_mul]
    by_cases hj0 : 0 < j
    · rw [if_pos hj0] at h0 ⊢
      rw [mul_assoc3]
      exact h0
    · rw [if_neg hj0] at h0 ⊢
      exact h0
theorem tp_end {m : M} (hc : m.c = 0) (hd : m.det = 1) : Sg (tp (m.a * m.b)) m := by
  obtain ⟨a, b, c, d⟩ := m
  simp only [M.det] at *
  subst hc
  rw [Int.mul_zero, Int.sub_zero] at hd
  have h5 : a.natAbs * d.natAbs = 1 := by rw [← Int.natAbs_mul, hd]; rfl
  have h6 := Nat.eq_one_of_mul_eq_one_right h5
  have h7 : a = 1 ∨ a = -1 := by omega
  rcases h7 with rfl | rfl
  · obtain rfl : d = 1 := by omega
    refine .inl ?_
    show (⟨1, 1 * b, 0, 1⟩ : M) = ⟨1, b, 0, 1⟩
    rw [Int.one_mul]
  · obtain rfl : d = -1 := by omega
    refine .inr ?_
    show (⟨1, -1 * b, 0, 1⟩ : M) = ⟨1, -b, 0, 1⟩
    rw [Int.neg_one_mul]
theorem freeL_sg {m : M} {k : Nat} (h : chOK m) (he : ChEnds m k) : Sg (X3 (freeL (chAll m k))) m := by
  have h0 := fwTo_sg (m := m) (k := k) k (Nat.le_refl k)
  have hk := (chM_ok h k (fun l hl => he.1 l hl)).1
  have h2 := tp_end he.2 hk.1
  have e : (chAll m k).getD k 0 = (chM m k).a * (chM m k).b := by
    unfold chAll
    rw [List.getD, List.getElem?_append_right (by rw [chQs_len]; omega), chQs_len, Nat.sub_self]
    rfl
  have h1 := stL_sg k ((chM m k).a * (chM m k).b) (fwTo_wd (chAll m k) k) (Sg.refl _)
  unfold freeL
  rw [chAll_len]
  show Sg (X3 (stL k ((chAll m k).getD k 0) (fwTo (chAll m k) k))) m
  rw [e]
  refine h1.trans (Sg.trans ?_ h0)
  by_cases hk0 : 0 < k
  · rw [if_pos hk0, if_pos hk0, mul_assoc3]
    exact (Sg.refl _).mul ((Sg.refl _).mul h2)
  · rw [if_neg hk0, if_neg hk0]
    exact (Sg.refl _).mul h2
theorem freeL_wd (qs : List Int) : Wd (freeL qs) := fwTo_wd qs _

/-- Words that stand for matrices of the kind 3. -/
structure Good (l : List UInt8) : Prop where
  wd : Wd l
  big : 3 ≤ (X3 l).tr.natAbs
theorem Good.two {l : List UInt8} (h : Good l) : 2 ≤ l.length := by
  obtain ⟨⟨hl, -⟩, hb⟩ := h
  match l with
  | [] => exact absurd hb (by decide)
  | [x] =>
    rw [X3_one] at hb
    rcases hl.head with rfl | rfl | rfl <;> exact absurd hb (by decide)
  | _ :: _ :: l => simp
theorem Good.form {l : List UInt8} (h : Good l) (ho : l.length % 2 = 1) : ∃ x w y, l = x :: (w ++ [y]) ∧ w.length % 2 = 1 ∧ (x == 83) = (y == 83) ∧ altB (!(x == 83)) w ∧ L3 x ∧ L3 y ∧ Let3 w := by
  have h2 := h.two
  obtain ⟨⟨hl, s, hs⟩, -⟩ := h
  match l with
  | [] => simp at ho
  | x :: t =>
    rcases List.eq_nil_or_concat t with rfl | ⟨w, y, rfl⟩
    · simp at h2
    · rw [List.concat_eq_append] at *
      obtain ⟨hx, ht⟩ := hs
      obtain ⟨hw, hy, -⟩ := (altB_app _ _ _).1 ht
      simp only [List.length_cons, List.length_append, List.length_nil] at ho
      have hwo : w.length % 2 = 1 := by omega
      refine ⟨x, w, y, rfl, hwo, ?_, by rw [hx]; exact hw, hl.head, hl.tail.right.head, hl.tail.left⟩
      unfold xr at hy
      rw [if_pos hwo, Bool.not_not] at hy
      rw [hx, hy]
/-- A round of each loop. -/
def rdI (l : List UInt8) : List UInt8 := putL [l.getLast?.getD 0] (l.headD 0) ++ l.dropLast.tail
def rdS (l : List UInt8) : List UInt8 := putL l.tail (l.headD 0)
theorem rdI_form (x : UInt8) (w : List UInt8) (y : UInt8) : rdI (x :: (w ++ [y])) = putL [y] x ++ w := by
  unfold rdI
  rw [← List.cons_append, List.getLast?_concat, List.dropLast_concat]
  rfl
theorem rdS_form (x : UInt8) (w : List UInt8) (y : UInt8) : rdS (x :: (w ++ [y])) = putL (w ++ [y]) x := rfl
theorem putL_one {x y : UInt8} (h : (x == 83) = (y == 83)) : putL [y] x = (if x = 83 ∨ y ≠ x then [] else if x = 85 then [86] else [85]) := by
  have := putL_snoc [] y x
  rw [List.nil_append] at this
  rw [this, if_neg (by rw [h]; simp)]
  simp
theorem putL_two {w : List UInt8} {x y : UInt8} (h : (x == 83) = (y == 83)) : putL (w ++ [y]) x = (if x = 83 ∨ y ≠ x then w else if x = 85 then w ++ [86] else w ++ [85]) := by
  rw [putL_snoc, if_neg (by rw [h]; simp)]
theorem mid_alt {x y : UInt8} {w : List UInt8} (h : (x == 83) = (y == 83)) (hw : altB (!(x == 83)) w) : Alt (putL [y] x ++ w) := by
  rw [putL_one h]
  split
  · exact ⟨_, hw⟩
  · rename_i h1
    have hx : (x == 83) = false := beq_eq_false_iff_ne.2 fun e => h1 (.inl e)
    rw [hx] at hw
    split
    · exact ⟨false, rfl, hw⟩
    · exact ⟨false, rfl, hw⟩
theorem Good.rdI {l : List UInt8} (h : Good l) (ho : l.length % 2 = 1) : Good (rdI l) ∧ (rdI l).length < l.length := by
  obtain ⟨x, w, y, rfl, hw, hxy, ha, lx, ly, lw⟩ := h.form ho
  rw [rdI_form]
  refine ⟨⟨⟨(putL_let (Let3.one ly) lx).app lw, mid_alt hxy ha⟩, ?_⟩, ?_⟩
  · have h1 := h.big
    have h2 := putL_sg (Let3.one ly) lx
    rw [X3_one] at h2
    have h3 := (h2.mul (Sg.refl (X3 w))).tr
    rw [← X3_app] at h3
    rw [h3, mul_assoc3, tr_comm3, mul_assoc3]
    show 3 ≤ ((lm3 x).mul ((X3 w).mul (lm3 y))).tr.natAbs
    have e : X3 (x :: (w ++ [y])) = (lm3 x).mul ((X3 w).mul (lm3 y)) := by
      show (lm3 x).mul (X3 (w ++ [y])) = _
      rw [X3_app, X3_one]
    rw [← e]
    exact h1
  · rw [putL_one hxy]
    simp only [List.length_append, List.length_cons, List.length_nil]
    split
    · simp; omega
    · split <;> simp <;> omega
theorem Good.rdS {l : List UInt8} (h : Good l) (ho : l.length % 2 = 1) : Good (rdS l) ∧ (rdS l).length < l.length := by
  obtain ⟨x, w, y, rfl, hw, hxy, ha, lx, ly, lw⟩ := h.form ho
  rw [rdS_form]
  have hwy : Alt (w ++ [y]) := by
    obtain ⟨s, hs⟩ := h.wd.alt
    exact ⟨_, hs.2⟩
  refine ⟨⟨⟨putL_let (lw.app (Let3.one ly)) lx, putL_Alt hwy⟩, ?_⟩, ?_⟩
  · have h1 := h.big
    have h3 := (putL_sg (lw.app (Let3.one ly)) lx).tr
    rw [h3, tr_comm3]
    exact h1
  · rw [putL_two hxy]
    simp only [List.length_append, List.length_cons, List.length_nil]
    split
    · omega
    · split <;> simp
/-- Some rounds. -/
def runI : Nat → List UInt8 → List UInt8
  | 0, l => l
  | n + 1, l => if (runI n l).length % 2 = 1 then rdI (runI n l) else runI n l
def runS : Nat → List UInt8 → List UInt8
  | 0, l => l
  | n + 1, l => if (runS n l).length % 2 = 1 then rdS (runS n l) else runS n l
theorem runI_more {l : List UInt8} {n : Nat} (h : (runI n l).length % 2 ≠ 1) (k : Nat) : runI (n + k) l = runI n l := by
  induction k with
  | zero => rfl
  | succ k ih =>
    show (if (runI (n + k) l).length % 2 = 1 then _ else runI (n + k) l) = _
    rw [ih, if_neg h]
theorem runS_more {l : List UInt8} {n : Nat} (h : (runS n l).length % 2 ≠ 1) (k : Nat) : runS (n + k) l = runS n l := by
  induction k with
  | zero => rfl
  | succ k ih =>
    show (if (runS (n + k) l).length % 2 = 1 then _ else runS (n + k) l) = _
    rw [ih, if_neg h]
/-- The end of each loop. -/
def EndI (l r : List UInt8) : Prop := (∃ n, runI n l = r) ∧ r.length % 2 = 0
def EndS3 (l r : List UInt8) : Prop := (∃ n, runS n l = r) ∧ r.length % 2 = 0
theorem EndI.unique {l r r' : List UInt8} (h : EndI l r) (h' : EndI l r') : r = r' := by
  obtain ⟨⟨n, rfl⟩, he⟩ := h
  obtain ⟨⟨n', rfl⟩, he'⟩ := h'
  rcases Nat.le_total n n' with e | e
  · rw [show n' = n + (n' - n) by omega]; exact (runI_more (by omega) _).symm
  · rw [show n = n' + (n - n') by omega]; exact runI_more (by omega) _
theorem EndS3.unique {l r r' : List UInt8} (h : EndS3 l r) (h' : EndS3 l r') : r = r' := by
  obtain ⟨⟨n, rfl⟩, he⟩ := h
  obtain ⟨⟨n', rfl⟩, he'⟩ := h'
  rcases Nat.le_total n n' with e | e
  · rw [show n' = n + (n' - n) by omega]; exact (runS_more (by omega) _).symm
  · rw [show n = n' + (n - n') by omega]; exact runS_more (by omega) _
/-- After as many rounds both words are the same, or one is the other's turn. -/
def Turned (a b : List UInt8) : Prop := ∃ z w, L3 z ∧ z ≠ 83 ∧ a = z :: w ∧ b = w ++ [z] ∧ w.length % 2 = 1 ∧ altB true w
theorem round_both {l : List UInt8} (h : Good l) (ho : l.length % 2 = 1) : rdI l = rdS l ∨ Turned (rdI l) (rdS l) := by
  obtain ⟨x, w, y, rfl, hw, hxy, ha, lx, ly, lw⟩ := h.form ho
  rw [rdI_form, rdS_form, putL_one hxy, putL_two hxy]
  split
  · exact .inl rfl
  · rename_i h1
    have hx : (x == 83) = false := beq_eq_false_iff_ne.2 fun e => h1 (.inl e)
    rw [hx] at ha
    split
    · exact .inr ⟨86, w, L3.b86, by decide, rfl, rfl, hw, ha⟩
    · exact .inr ⟨85, w, L3.b85, by decide, rfl, rfl, hw, ha⟩
theorem runs_both {l : List UInt8} (h : Good l) (n : Nat) : Good (runI n l) ∧ Good (runS n l) ∧ (runI n l = runS n l ∨ Turned (runI n l) (runS n l)) := by
  induction n with
  | zero => exact ⟨h, h, .inl rfl⟩
  | succ n ih =>
    obtain ⟨g1, g2, g3⟩ := ih
    have e1 : runI (n + 1) l = if (runI n l).length % 2 = 1 then rdI (runI n l) else runI n l := rfl
    have e2 : runS (n + 1) l = if (runS n l).length % 2 = 1 then rdS (runS n l) else runS n l := rfl
    rw [e1, e2]
    rcases g3 with g3 | g3
    · rw [← g3]
      by_cases ho : (runI n l).length % 2 = 1
      · rw [if_pos ho, if_pos ho]
        exact ⟨(g1.rdI ho).1, (g1.rdS ho).1, round_both g1 ho⟩
      · rw [if_neg ho, if_neg ho]
        exact ⟨g1, g1, .inl rfl⟩
    · obtain ⟨z, w, hz, hz3, h1, h2, hw, ha⟩ := g3
      have l1 : (runI n l).length % 2 = 0 := by rw [h1, List.length_cons]; omega
      have l2 : (runS n l).length % 2 = 0 := by rw [h2, List.length_append, List.length_singleton]; omega
      rw [if_neg (by omega), if_neg (by omega)]
      exact ⟨g1, g2, .inr ⟨z, w, hz, hz3, h1, h2, hw, ha⟩⟩
theorem runI_ends {l : List UInt8} (h : Good l) : ∃ r, EndI l r := by
  have key : ∀ n, (runI n l).length % 2 = 0 ∨ (runI n l).length + n ≤ l.length := fun n => by
    induction n with
    | zero => exact .inr (Nat.le_refl _)
    | succ n ih =>
      have e1 : runI (n + 1) l = if (runI n l).length % 2 = 1 then rdI (runI n l) else runI n l := rfl
      by_cases ho : (runI n l).length % 2 = 1
      · have := ((runs_both h n).1.rdI ho).2
        rw [e1, if_pos ho]
        rcases ih with ih | ih
        · omega
        · exact .inr (by omega)
      · rw [e1, if_neg ho]
        exact .inl (by omega)
  have := key (l.length + 1)
  refine ⟨_, ⟨l.length + 1, rfl⟩, ?_⟩
  omega
theorem ends_both {l r s : List UInt8} (h : Good l) (hr : EndI l r) (hs : EndS3 l s) : r = s ∨ Turned r s := by
  obtain ⟨⟨n, rfl⟩, he⟩ := hr
  obtain ⟨⟨k, rfl⟩, hk⟩ := hs
  rcases Nat.le_total n k with e | e
  · rw [← runI_more (n := n) (by omega) (k - n), show n + (k - n) = k by omega]
    exact (runs_both h k).2.2
  · rw [← runS_more (n := k) (by omega) (n - k), show k + (n - k) = n by omega]
    exact (runs_both h n).2.2

/-- The letters of a word of L and T. -/
def ltr (l : List UInt8) : List UInt8 := (l.filter (· != 83)).map fun b => if b = 85 then 84 else 76
theorem ltr_app (a b : List UInt8) : ltr (a ++ b) = ltr a ++ ltr b := by
  unfold ltr
  rw [List.filter_append, List.map_append]
theorem ltr_S : ltr [83] = [] := rfl
theorem ltr_one {z : UInt8} (h : z ≠ 83) : ltr [z] = [if z = 85 then 84 else 76] := by
  unfold ltr
  rw [List.filter_cons_of_pos (by simpa using h)]
  rfl
/-- The word turned by k. -/
def rot (k : Nat) (l : List UInt8) : List UInt8 := l.drop k ++ l.take k
/-- A least one of all turns. -/
def Least (l r : List UInt8) : Prop := (∃ k, k < l.length ∧ r = rot k l) ∧ ∀ k, k < l.length → Go.Op.bytesLess (rot k l) r = false
theorem less_irrefl (a : List UInt8) : Go.Op.bytesLess a a = false := by
  induction a with
  | nil => rfl
  | cons x a ih =>
    unfold Go.Op.bytesLess
    rw [ih]
    simp
theorem less_total {a b : List UInt8} (h1 : Go.Op.bytesLess a b = false) (h2 : Go.Op.bytesLess b a = false) : a = b := by
  induction a generalizing b with
  | nil =>
    cases b with
    | nil => rfl
    | cons y b => simp [Go.Op.bytesLess] at h1
  | cons x a ih =>
    cases b with
    | nil => simp [Go.Op.bytesLess] at h2
    | cons y b =>
      unfold Go.Op.bytesLess at h1 h2
      simp only [Bool.or_eq_false_iff, decide_eq_false_iff_not, Bool.and_eq_false_iff, beq_eq_false_iff_ne] at h1 h2
      have hxy : x = y := UInt8.le_antisymm (UInt8.not_lt.1 h2.1) (UInt8.not_lt.1 h1.1)
      subst hxy
      rw [ih (h1.2.resolve_left fun e => e rfl) (h2.2.resolve_left fun e => e rfl)]
theorem less_trans {a b c : List UInt8} (h1 : Go.Op.bytesLess a b = true) (h2 : Go.Op.bytesLess b c = true) : Go.Op.bytesLess a c = true := by
  induction a generalizing b c with
  | nil =>
    cases c with
    | nil => cases b <;> simp [Go.Op.bytesLess] at h2
    | cons z c => rfl
  | cons x a ih =>
    cases b with
    | nil => simp [Go.Op.bytesLess] at h1
    | cons y b =>
      cases c with
      | nil => simp [Go.Op.bytesLess] at h2
      | cons z c =>
        unfold Go.Op.bytesLess at h1 h2 ⊢
        simp only [Bool.or_eq_true, decide_eq_true_iff, Bool.and_eq_true, beq_iff_eq] at h1 h2 ⊢
        rcases h1 with h1 | ⟨rfl, h1⟩
        · rcases h2 with h2 | ⟨rfl, h2⟩
          · exact .inl (UInt8.lt_trans h1 h2)
          · exact .inl h1
        · rcases h2 with h2 | ⟨rfl, h2⟩
          · exact .inl h2
          · exact .inr ⟨rfl, ih h1 h2⟩
/-- Nothing less than what is not less than something less. -/
theorem less_low {a b c : List UInt8} (h1 : Go.Op.bytesLess a b = false) (h2 : Go.Op.bytesLess c b = true) : Go.Op.bytesLess a c = false := by
  cases h : Go.Op.bytesLess a c with
  | false => rfl
  | true => rw [less_trans h h2] at h1; exact absurd h1 (by decide)
theorem Least.unique {l r r' : List UInt8} (h : Least l r) (h' : Least l r') : r = r' := by
  obtain ⟨⟨k, hk, rfl⟩, hl⟩ := h
  obtain ⟨⟨k', hk', rfl⟩, hl'⟩ := h'
  exact less_total (hl' k hk) (hl k' hk')
theorem rot_turn (z : UInt8) (w : List UInt8) (k : Nat) (hk : k ≤ w.length) : rot k (w ++ [z]) = rot (k + 1) (z :: w) := by
  unfold rot
  rw [List.drop_append_of_le_length hk, List.take_append_of_le_length hk, List.drop_succ_cons, List.take_succ_cons, List.append_assoc]
  rfl
theorem rot_all (l : List UInt8) : rot l.length l = rot 0 l := by
  unfold rot
  simp
theorem Least.turn {z : UInt8} {w r : List UInt8} (h : Least (w ++ [z]) r) : Least (z :: w) r := by
  obtain ⟨⟨k, hk, rfl⟩, hl⟩ := h
  rw [List.length_append, List.length_singleton] at hk hl
  have key : ∀ j, j < (z :: w).length → ∃ i, i < w.length + 1 ∧ rot j (z :: w) = rot i (w ++ [z]) := fun j hj => by
    rw [List.length_cons] at hj
    by_cases h0 : j = 0
    · subst h0
      refine ⟨w.length, by omega, ?_⟩
      rw [rot_turn z w w.length (Nat.le_refl _), ← List.length_cons (a := z), rot_all]
    · obtain ⟨i, rfl⟩ : ∃ i, j = i + 1 := ⟨j - 1, by omega⟩
      exact ⟨i, by omega, (rot_turn z w i (by omega)).symm⟩
  refine ⟨?_, fun j hj => ?_⟩
  · by_cases he : k = w.length
    · subst he
      refine ⟨0, by simp, ?_⟩
      rw [rot_turn z w w.length (Nat.le_refl _), ← List.length_cons (a := z), rot_all]
    · exact ⟨k + 1, by rw [List.length_cons]; omega, rot_turn z w k (by omega)⟩
  · obtain ⟨i, hi, e⟩ := key j hj
    rw [e]
    exact hl i hi
/-- The cyclic word of a free word. -/
def CycI (f r : List UInt8) : Prop := ∃ i, EndI f i ∧ Least (ltr i) r
theorem CycI.unique {f r r' : List UInt8} (h : CycI f r) (h' : CycI f r') : r = r' := by
  obtain ⟨i, h1, h2⟩ := h
  obtain ⟨i', h1', h2'⟩ := h'
  rw [EndI.unique h1' h1] at h2'
  exact h2.unique h2'
theorem CycI.ofS {f r s : List UInt8} (g : Good f) (h1 : EndS3 f s) (h2 : Least (ltr s) r) : CycI f r := by
  obtain ⟨i, hi⟩ := runI_ends g
  refine ⟨i, hi, ?_⟩
  rcases ends_both g hi h1 with rfl | ⟨z, w, lz, hz, rfl, rfl, hw, ha⟩
  · exact h2
  · rw [ltr_app, ltr_one hz] at h2
    have e : ltr (z :: w) = (if z = 85 then 84 else 76) :: ltr w := by
      rw [show z :: w = [z] ++ w from rfl, ltr_app, ltr_one hz]; rfl
    rw [e]
    exact h2.turn

theorem altB_get {s : Bool} {l : List UInt8} (h : altB s l) (j : Nat) (hj : j < l.length) : (l[j] == 83) = xr s j := by
  induction l generalizing s j with
  | nil => exact absurd hj (Nat.not_lt_zero _)
  | cons x l ih =>
    cases j with
    | zero => exact h.1
    | succ j =>
      have := ih h.2 j (by simpa using hj)
      rw [List.getElem_cons_succ, this]
      unfold xr
      by_cases e : j % 2 = 1
      · rw [if_pos e, if_neg (by omega), Bool.not_not]
      · rw [if_neg e, if_pos (by omega)]
/-- A word of even length: its ends differ; turned, it begins with no S. -/
theorem Good.even {l : List UInt8} (h : Good l) (he : l.length % 2 = 0) : ∃ x m y, l = x :: (m ++ [y]) ∧ (y == 83) = !(x == 83) ∧ ((x == 83) = false → altB false l) ∧ ((x == 83) = true → altB false ((m ++ [y]) ++ [x])) := by
  have h2 := h.two
  obtain ⟨⟨hl, s, hs⟩, -⟩ := h
  match l with
  | [] => simp at h2
  | x :: t =>
    rcases List.eq_nil_or_concat t with rfl | ⟨m, y, rfl⟩
    · simp at h2
    · rw [List.concat_eq_append] at *
      obtain ⟨hx, ht⟩ := hs
      obtain ⟨hm, hy, -⟩ := (altB_app _ _ _).1 ht
      simp only [List.length_cons, List.length_append, List.length_nil] at he
      have hme : ¬ m.length % 2 = 1 := by omega
      unfold xr at hy
      rw [if_neg hme] at hy
      refine ⟨x, m, y, rfl, by rw [hx, hy], fun h0 => ?_, fun h0 => ?_⟩
      · rw [h0] at hx
        subst hx
        exact ⟨h0, ht⟩
      · rw [h0] at hx
        subst hx
        refine (altB_app _ _ _).2 ⟨ht, ?_, trivial⟩
        rw [h0]
        unfold xr
        rw [List.length_append, List.length_singleton, if_pos (by omega)]
        rfl
theorem ltr_turn {x : UInt8} {t : List UInt8} (h : x = 83) : ltr (t ++ [x]) = ltr (x :: t) := by
  subst h
  rw [show (83 : UInt8) :: t = [83] ++ t from rfl, ltr_app, ltr_app, ltr_S, List.append_nil, List.nil_append]
theorem ltr_step {p : List UInt8} (h : altB false p) (he : p.length % 2 = 0) (j : Nat) (hj : 2 * j < p.length) : ltr (p.take (2 * j + 2)) = ltr (p.take (2 * j)) ++ [if p[2 * j] = 85 then 84 else 76] := by
  have h1 := altB_get h (2 * j) hj
  have h2 := altB_get h (2 * j + 1) (by omega)
  unfold xr at h1 h2
  rw [if_neg (by omega)] at h1
  rw [if_pos (by omega)] at h2
  have e2 : p[2 * j + 1] = 83 := by simpa using h2
  have e1 : p[2 * j] ≠ 83 := beq_eq_false_iff_ne.1 h1
  rw [List.take_succ_eq_append_getElem (by omega), List.take_succ_eq_append_getElem (by omega), ltr_app, ltr_app, e2, ltr_S, List.append_nil, ltr_one e1]
theorem ltr_len {p : List UInt8} (h : altB false p) (he : p.length % 2 = 0) (j : Nat) (hj : 2 * j ≤ p.length) : (ltr (p.take (2 * j))).length = j := by
  induction j with
  | zero => rfl
  | succ j ih =>
    rw [show 2 * (j + 1) = 2 * j + 2 by omega, ltr_step h he j (by omega), List.length_append, ih (by omega)]
    rfl

end Go.Proofs.Ytcapmljnhflopaa
