/- Slices of whole numbers: of the call's own, and read; the laws' functions that mark, hold and compare them. -/
import Derived.Test.YtcapmljnhflopaaRows
import Derived.Test.YtcapmljnhflopaaCore
import Derived.OneCell
namespace Go.Proofs.Ytcapmljnhflopaa
open Go.RowKit

/-- v is a slice of the call's own (in a block from B on) that reads as the numbers xs. -/
def Own (w : World) (B : Nat) (v : Value) (xs : List Int) : Prop := w.ownsRow B 2 1 v xs.length (xs.map (Value.int .i64))

theorem Own.nil (w : World) (B : Nat) : Own w B (.slice none 0 0) [] := World.ownsRow_nil _ _ _ _
theorem Own.same {w w' : World} {B : Nat} {v : Value} {xs : List Int} (h : Own w B v xs) (hs : ∀ g, v.ownBlock = some g → w'.heap[g]? = w.heap[g]?) : Own w' B v xs := by
  obtain ⟨h1, h2⟩ := h
  refine ⟨h1, ?_⟩
  rcases h2 with h2 | ⟨g, cap, cur, rfl, hg, hh, r⟩
  · exact .inl h2
  · exact .inr ⟨g, cap, cur, rfl, hg, (hs g rfl).trans hh, r⟩
theorem Own.lt {w : World} {B : Nat} {v : Value} {xs : List Int} (h : Own w B v xs) {g : Nat} (hg : v.ownBlock = some g) : B ≤ g ∧ g < w.heap.size := World.ownsRow.lt h g hg
theorem Own.below {w w1 : World} {B : Nat} {v : Value} {xs : List Int} (hb : Below w.heap.size w w1) (h : Own w B v xs) : Own w1 B v xs := h.same fun _ hg => hb.block _ (h.lt hg).2
theorem Own.alloc {w : World} {o : Obj} {B : Nat} {v : Value} {xs : List Int} (h : Own w B v xs) : Own (w.alloc o) B v xs := h.below ((Below.refl _ _).alloc (Nat.le_refl _) _)
theorem Own.drew {w : World} {B : Nat} {v : Value} {xs : List Int} (h : Own w B v xs) : Own w.drew B v xs := h
theorem Own.drewN {w : World} {B n : Nat} {v : Value} {xs : List Int} (h : Own w B v xs) : Own (w.drewN n) B v xs := h
theorem Own.put {w : World} {B g i : Nat} {v u : Value} {xs : List Int} (hn : v.ownBlock ≠ some g) (h : Own w B v xs) : Own (w.setCell ⟨g, i, none⟩ u) B v xs :=
  h.same fun k hk => Below.heap_setCell _ _ _ _ (fun e => hn (by rw [hk]; exact congrArg some e))
theorem Own.mono {w : World} {B B' : Nat} {v : Value} {xs : List Int} (hB : B' ≤ B) (h : Own w B v xs) : Own w B' v xs := by
  obtain ⟨h1, h2⟩ := h
  refine ⟨h1, ?_⟩
  rcases h2 with h2 | ⟨g, cap, cur, rfl, hg, r⟩
  · exact .inl h2
  · exact .inr ⟨g, cap, cur, rfl, by omega, r⟩
theorem Own.grown {w w' : World} {B : Nat} {v : Value} {xs : List Int} {row : Option Nat} (hg : w.grownBy w' row) (hne : v.ownBlock ≠ row) (h : Own w B v xs) : Own w' B v xs :=
  h.same fun g hk => hg.block g (h.lt hk).2 (by rw [← hk]; exact hne)
theorem Own.slIn {w : World} {B : Nat} {v : Value} {xs : List Int} (h : Own w B v xs) : SlIn w .i64 v xs := by
  have h0 := h
  obtain ⟨h1, h2⟩ := h
  rcases h2 with ⟨rfl, h2⟩ | ⟨g, cap, cur, rfl, hg, hh, hn, hc, hs, ht⟩
  · exact .inl ⟨rfl, List.eq_nil_of_length_eq_zero h2⟩
  · refine .inr ⟨⟨g, 0, none⟩, cap, rfl, hn, hc, fun j hj => ?_⟩
    have e := World.ownsRow.cells h0 (g := g) rfl j (.int .i64 xs[j]) (by simp [List.getElem?_map, List.getElem?_eq_getElem hj])
    exact e
theorem Own.at {w : World} {B g j : Nat} {v : Value} {xs : List Int} {x : Int} (h : Own w B v xs) (hg : v.ownBlock = some g) (e : xs[j]? = some x) : w.cell? ⟨g, j, none⟩ = some (.int .i64 x) := by
  have q := World.ownsRow.cells h (g := g) hg j (.int .i64 x) (by simp [List.getElem?_map, e])
  rwa [show (⟨g, 0, none⟩ : Addr).add j = ⟨g, j, none⟩ by simp [Addr.add]; exact Eq.symm] at q
/-- A block that holds just the numbers. -/
theorem Own.of_blk {w : World} {B g : Nat} {xs : List Int} {cs : Array Value} (h : Blk w g 2 cs) (hB : B ≤ g) (hc : cs.toList = xs.map (Value.int .i64)) (hl : xs.length ≤ maxLen) :
    Own w B (.slice (some ⟨g, 0, none⟩) xs.length xs.length) xs :=
  ⟨by simp, .inr ⟨g, xs.length, cs, rfl, hB, h, Nat.le_refl _, hl, by rw [← Array.length_toList, hc]; simp, by rw [hc, Nat.mul_one, List.take_of_length_le (by simp)]⟩⟩

/-- n numbers from k on. -/
def runOf (k : Int) (n : Nat) : List Int := (List.range n).map fun (i : Nat) => k + i
theorem runOf_length (k : Int) (n : Nat) : (runOf k n).length = n := by simp [runOf]
theorem runOf_get (k : Int) (n j : Nat) (h : j < (runOf k n).length) : (runOf k n)[j] = k + j := by simp [runOf]

theorem SlIn.form {w : World} {k : IntKind} {v : Value} {xs : List Int} (h : SlIn w k v xs) :
    ∃ ao c, v = .slice ao xs.length c ∧ (0 < xs.length → ∃ a : Addr, ao = some a ∧ ∀ j (h : j < xs.length), w.cell? (a.add j) = some (.int k xs[j])) := by
  rcases h with ⟨rfl, rfl⟩ | ⟨a, c, rfl, _, _, hx⟩
  · exact ⟨none, 0, rfl, fun h => by simp at h⟩
  · exact ⟨some a, c, rfl, fun _ => ⟨a, rfl, hx⟩⟩
theorem SlIn.below {w w1 : World} {k : IntKind} {v : Value} {xs : List Int} (hb : Below w.heap.size w w1) (h : SlIn w k v xs) : SlIn w1 k v xs := by
  rcases h with h | ⟨a, c, rfl, h1, h2, hx⟩
  · exact .inl h
  · refine .inr ⟨a, c, rfl, h1, h2, fun j hj => ?_⟩
    have e := hx j hj
    rw [hb.cell (block_lt_of_cell e :)]
    exact e

theorem SlIn.alloc {w : World} {o : Obj} {k : IntKind} {v : Value} {xs : List Int} (h : SlIn w k v xs) : SlIn (w.alloc o) k v xs := h.below ((Below.refl _ _).alloc (Nat.le_refl _) _)
theorem SlIn.drew {w : World} {k : IntKind} {v : Value} {xs : List Int} (h : SlIn w k v xs) : SlIn w.drew k v xs := h
theorem SlIn.drewN {w : World} {n : Nat} {k : IntKind} {v : Value} {xs : List Int} (h : SlIn w k v xs) : SlIn (w.drewN n) k v xs := h

theorem Below.grownO {B B2 : Nat} {W w w' : World} {u : Value} {ys : List Int} (hg : w.grownBy w' u.ownBlock) (hu : Own w B2 u ys) (hB : B ≤ B2) (hs : B ≤ w.heap.size) (h : Below B W w) : Below B W w' :=
  h.trans ⟨hg.os, hg.tape, hg.output, hg.size, fun k hk => hg.block k (by omega) fun e => by have := (hu.lt e.symm).1; omega⟩
theorem Blk.grown {B2 k : Nat} {w w' : World} {u : Value} {ys : List Int} {E : TypeId} {cs : Array Value} (hg : w.grownBy w' u.ownBlock) (hu : Own w B2 u ys) (hk : k < B2) (h : Blk w k E cs) : Blk w' k E cs :=
  (hg.block k h.lt fun e => by have := (hu.lt e.symm).1; omega).trans h
theorem Own.apart {B B0 B2 : Nat} {w w0 w' : World} {v u : Value} {xs zs ys : List Int} (hg : w.grownBy w' u.ownBlock) (hu : Own w B2 u ys) (h0 : Own w0 B0 v zs) (hB : w0.heap.size ≤ B2) (h : Own w B v xs) : Own w' B v xs :=
  h.same fun g hk => hg.block g (h.lt hk).2 fun e => by have := (hu.lt e.symm).1; have := (h0.lt hk).2; omega

theorem beq_of_all {xs ys : List Int} (hl : xs.length = ys.length) (h : ∀ j (h1 : j < xs.length) (h2 : j < ys.length), xs[j] = ys[j]) : (xs == ys) = true := by
  rw [beq_iff_eq]; exact List.ext_getElem hl h
theorem beq_no_len {xs ys : List Int} (hl : ¬ xs.length = ys.length) : (xs == ys) = false := by
  rw [beq_eq_false_iff_ne]; intro e; exact hl (by rw [e])
theorem beq_no_at {xs ys : List Int} {j : Nat} (h1 : j < xs.length) (h2 : j < ys.length) (h : ¬ xs[j] = ys[j]) : (xs == ys) = false := by
  rw [beq_eq_false_iff_ne]; intro e; subst e; exact h rfl

theorem eq_step {xs ys : List Int} {k : Nat} (h : ∀ j (h1 : j < xs.length) (h2 : j < ys.length), j < k → xs[j] = ys[j]) (h1 : k < xs.length) (h2 : k < ys.length) (he : xs[k] = ys[k]) :
    ∀ j (h1 : j < xs.length) (h2 : j < ys.length), j < k + 1 → xs[j] = ys[j] := by
  intro j k1 k2 hj
  by_cases e : j < k
  · exact h j k1 k2 e
  · obtain rfl : j = k := by omega
    exact he


/-- Only block g may have changed, and it stands. -/
structure Only (g : Nat) (w w' : World) : Prop where
  os : w'.os = w.os
  tape : w'.tape = w.tape
  output : w'.output = w.output
  size : w'.heap.size = w.heap.size
  block : ∀ k, k ≠ g → w'.heap[k]? = w.heap[k]?
theorem Only.refl (g : Nat) (w : World) : Only g w w := ⟨rfl, rfl, rfl, rfl, fun _ _ => rfl⟩
theorem Only.set {g i : Nat} {w w' : World} {u : Value} (h : Only g w w') : Only g w (w'.setCell ⟨g, i, none⟩ u) :=
  ⟨h.os, h.tape, h.output, by rw [← h.size]; simp [World.setCell], fun k hk => (Below.heap_setCell _ _ _ _ hk).trans (h.block k hk)⟩
theorem Only.grown {g : Nat} {w w' : World} (h : Only g w w') : w.grownBy w' (some g) := ⟨h.os, h.tape, h.output, by rw [h.size]; exact Nat.le_refl _, fun k _ hn => h.block k (fun e => hn (by rw [e]))⟩

/-- The first j cells hold the numbers from k on. -/
def fillTo (cs : Array Value) (k : Int) : Nat → Array Value
  | 0 => cs
  | j + 1 => (fillTo cs k j).setIfInBounds j (.int .i64 (k + j))
theorem fillTo_size (cs : Array Value) (k : Int) (j : Nat) : (fillTo cs k j).size = cs.size := by
  induction j with
  | zero => rfl
  | succ j ih => simp [fillTo, ih]
theorem fillTo_get (cs : Array Value) (k : Int) (j i : Nat) (hi : i < j) (hs : i < cs.size) : (fillTo cs k j)[i]? = some (.int .i64 (k + i)) := by
  induction j with
  | zero => omega
  | succ j ih =>
    simp only [fillTo, Array.getElem?_setIfInBounds, fillTo_size]
    by_cases e : j = i
    · subst e; simp [hs]
    · rw [if_neg e]; exact ih (by omega)
theorem fillTo_take (cs : Array Value) (k : Int) (n : Nat) (hn : n ≤ cs.size) : (fillTo cs k n).toList.take n = (runOf k n).map (Value.int .i64) := by
  apply List.ext_getElem?
  intro i
  by_cases hi : i < n
  · have e := fillTo_get cs k n i hi (by omega)
    rw [← Array.getElem?_toList] at e
    rw [List.getElem?_take, if_pos hi, e]
    simp [runOf, hi]
  · rw [List.getElem?_take, if_neg hi]
    simp [runOf, hi]



end Go.Proofs.Ytcapmljnhflopaa
