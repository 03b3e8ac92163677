import Derived.Test.YtjpkopnkfpgahaaRows
import Derived.Test.YtjpkopnkfpgahaaCore
import Derived.OneCell
import Derived.OwnWalk
import Derived.Laws.OwnMore
import Derived.Test.YtjpkopnkfpgahaaQ1
import Derived.Deep.OwnRows
/- Slices of whole numbers: of the call's own, and read; the laws' functions that mark, hold and compare them. -/
namespace Go.Proofs.Ytjpkopnkfpgahaa
open Go.RowKit

/-- v is a slice of the call's own (in a block from B on) that reads as the numbers xs. -/
def Own (w : World) (B : Nat) (v : Value) (xs : List Int) : Prop := w.ownsRow B 2 1 v xs.length (xs.map (Value.int .i64))

theorem Own.nil (w : World) (B : Nat) : Own w B (.slice none 0 0) [] := World.ownsRow_nil _ _ _ _
theorem Own.same {w w' : World} {B : Nat} {v : Value} {xs : List Int} (h : Own w B v xs) (hs : ∀ g, v.ownBlock = some g → w'.heap[g]? = w.heap[g]?) : Own w' B v xs := by
  obtain ⟨h1, h2⟩ := h
  refine ⟨h1, ?_⟩
  rcases h2 with h2 | ⟨g, cap, cur, rfl, hg, hh, r⟩
  · exact .inl h2
  · exact .inr ⟨g, cap, cur, rfl, hg, (hs g rfl).trans hh, r⟩
theorem Own.lt {w : World} {B : Nat} {v : Value} {xs : List Int} (h : Own w B v xs) {g : Nat} (hg : v.ownBlock = some g) : B ≤ g ∧ g < w.heap.size := World.ownsRow.lt h g hg
theorem Own.below {w w1 : World} {B : Nat} {v : Value} {xs : List Int} (hb : Below w.heap.size w w1) (h : Own w B v xs) : Own w1 B v xs := h.same fun _ hg => hb.block _ (h.lt hg).2
theorem Own.alloc {w : World} {o : Obj} {B : Nat} {v : Value} {xs : List Int} (h : Own w B v xs) : Own (w.alloc o) B v xs := h.below ((Below.refl _ _).alloc (Nat.le_refl _) _)
theorem Own.drew {w : World} {B : Nat} {v : Value} {xs : List Int} (h : Own w B v xs) : Own w.drew B v xs := h
theorem Own.drewN {w : World} {B n : Nat} {v : Value} {xs : List Int} (h : Own w B v xs) : Own (w.drewN n) B v xs := h
theorem Own.put {w : World} {B g i : Nat} {v u : Value} {xs : List Int} (hn : v.ownBlock ≠ some g) (h : Own w B v xs) : Own (w.setCell ⟨g, i, none⟩ u) B v xs :=
  h.same fun k hk => Below.heap_setCell _ _ _ _ (fun e => hn (by rw [hk]; exact congrArg some e))
theorem Own.mono {w : World} {B B' : Nat} {v : Value} {xs : List Int} (hB : B' ≤ B) (h : Own w B v xs) : Own w B' v xs := by
  obtain ⟨h1, h2⟩ := h
  refine ⟨h1, ?_⟩
  rcases h2 with h2 | ⟨g, cap, cur, rfl, hg, r⟩
  · exact .inl h2
  · exact .inr ⟨g, cap, cur, rfl, by omega, r⟩
theorem Own.grown {w w' : World} {B : Nat} {v : Value} {xs : List Int} {row : Option Nat} (hg : w.grownBy w' row) (hne : v.ownBlock ≠ row) (h : Own w B v xs) : Own w' B v xs :=
  h.same fun g hk => hg.block g (h.lt hk).2 (by rw [← hk]; exact hne)
theorem Own.slIn {w : World} {B : Nat} {v : Value} {xs : List Int} (h : Own w B v xs) : SlIn w .i64 v xs := by
  have h0 := h
  obtain ⟨h1, h2⟩ := h
  rcases h2 with ⟨rfl, h2⟩ | ⟨g, cap, cur, rfl, hg, hh, hn, hc, hs, ht⟩
  · exact .inl ⟨rfl, List.eq_nil_of_length_eq_zero h2⟩
  · refine .inr ⟨⟨g, 0, none⟩, cap, rfl, hn, hc, fun j hj => ?_⟩
    have e := World.ownsRow.cells h0 (g := g) rfl j (.int .i64 xs[j]) (by simp [List.getElem?_map, List.getElem?_eq_getElem hj])
    exact e
theorem Own.at {w : World} {B g j : Nat} {v : Value} {xs : List Int} {x : Int} (h : Own w B v xs) (hg : v.ownBlock = some g) (e : xs[j]? = some x) : w.cell? ⟨g, j, none⟩ = some (.int .i64 x) := by
  have q := World.ownsRow.cells h (g := g) hg j (.int .i64 x) (by simp [List.getElem?_map, e])
  rwa [show (⟨g, 0, none⟩ : Addr).add j = ⟨g, j, none⟩ by simp [Addr.add]; exact Eq.symm] at q
/-- A block that holds just the numbers. -/
theorem Own.of_blk {w : World} {B g : Nat} {xs : List Int} {cs : Array Value} (h : Blk w g 2 cs) (hB : B ≤ g) (hc : cs.toList = xs.map (Value.int .i64)) (hl : xs.length ≤ maxLen) :
    Own w B (.slice (some ⟨g, 0, none⟩) xs.length xs.length) xs :=
  ⟨by simp, .inr ⟨g, xs.length, cs, rfl, hB, h, Nat.le_refl _, hl, by rw [← Array.length_toList, hc]; simp, by rw [hc, Nat.mul_one, List.take_of_length_le (by simp)]⟩⟩

/-- n numbers from k on. -/
def runOf (k : Int) (n : Nat) : List Int := (List.range n).map fun (i : Nat) => k + i
theorem runOf_length (k : Int) (n : Nat) : (runOf k n).length = n := by simp [runOf]
theorem runOf_get (k : Int) (n j : Nat) (h : j < (runOf k n).length) : (runOf k n)[j] = k + j := by simp [runOf]

theorem SlIn.form {w : World} {k : IntKind} {v : Value} {xs : List Int} (h : SlIn w k v xs) :
    ∃ ao c, v = .slice ao xs.length c ∧ (0 < xs.length → ∃ a : Addr, ao = some a ∧ ∀ j (h : j < xs.length), w.cell? (a.add j) = some (.int k xs[j])) := by
  rcases h with ⟨rfl, rfl⟩ | ⟨a, c, rfl, _, _, hx⟩
  · exact ⟨none, 0, rfl, fun h => by simp at h⟩
  · exact ⟨some a, c, rfl, fun _ => ⟨a, rfl, hx⟩⟩
theorem SlIn.below {w w1 : World} {k : IntKind} {v : Value} {xs : List Int} (hb : Below w.heap.size w w1) (h : SlIn w k v xs) : SlIn w1 k v xs := by
  rcases h with h | ⟨a, c, rfl, h1, h2, hx⟩
  · exact .inl h
  · refine .inr ⟨a, c, rfl, h1, h2, fun j hj => ?_⟩
    have e := hx j hj
    rw [hb.cell (block_lt_of_cell e :)]
    exact e

theorem SlIn.alloc {w : World} {o : Obj} {k : IntKind} {v : Value} {xs : List Int} (h : SlIn w k v xs) : SlIn (w.alloc o) k v xs := h.below ((Below.refl _ _).alloc (Nat.le_refl _) _)
theorem SlIn.drew {w : World} {k : IntKind} {v : Value} {xs : List Int} (h : SlIn w k v xs) : SlIn w.drew k v xs := h
theorem SlIn.drewN {w : World} {n : Nat} {k : IntKind} {v : Value} {xs : List Int} (h : SlIn w k v xs) : SlIn (w.drewN n) k v xs := h

theorem Below.grownO {B B2 : Nat} {W w w' : World} {u : Value} {ys : List Int} (hg : w.grownBy w' u.ownBlock) (hu : Own w B2 u ys) (hB : B ≤ B2) (hs : B ≤ w.heap.size) (h : Below B W w) : Below B W w' :=
  h.trans ⟨hg.os, hg.tape, hg.output, hg.size, fun k hk => hg.block k (by omega) fun e => by have := (hu.lt e.symm).1; omega⟩
theorem Blk.grown {B2 k : Nat} {w w' : World} {u : Value} {ys : List Int} {E : TypeId} {cs : Array Value} (hg : w.grownBy w' u.ownBlock) (hu : Own w B2 u ys) (hk : k < B2) (h : Blk w k E cs) : Blk w' k E cs :=
  (hg.block k h.lt fun e => by have := (hu.lt e.symm).1; omega).trans h
theorem Own.apart {B B0 B2 : Nat} {w w0 w' : World} {v u : Value} {xs zs ys : List Int} (hg : w.grownBy w' u.ownBlock) (hu : Own w B2 u ys) (h0 : Own w0 B0 v zs) (hB : w0.heap.size ≤ B2) (h : Own w B v xs) : Own w' B v xs :=
  h.same fun g hk => hg.block g (h.lt hk).2 fun e => by have := (hu.lt e.symm).1; have := (h0.lt hk).2; omega

theorem beq_of_all {xs ys : List Int} (hl : xs.length = ys.length) (h : ∀ j (h1 : j < xs.length) (h2 : j < ys.length), xs[j] = ys[j]) : (xs == ys) = true := by
  rw [beq_iff_eq]; exact List.ext_getElem hl h
theorem beq_no_len {xs ys : List Int} (hl : ¬ xs.length = ys.length) : (xs == ys) = false := by
  rw [beq_eq_false_iff_ne]; intro e; exact hl (by rw [e])
theorem beq_no_at {xs ys : List Int} {j : Nat} (h1 : j < xs.length) (h2 : j < ys.length) (h : ¬ xs[j] = ys[j]) : (xs == ys) = false := by
  rw [beq_eq_false_iff_ne]; intro e; subst e; exact h rfl

theorem eq_step {xs ys : List Int} {k : Nat} (h : ∀ j (h1 : j < xs.length) (h2 : j < ys.length), j < k → xs[j] = ys[j]) (h1 : k < xs.length) (h2 : k < ys.length) (he : xs[k] = ys[k]) :
    ∀ j (h1 : j < xs.length) (h2 : j < ys.length), j < k + 1 → xs[j] = ys[j] := by
  intro j k1 k2 hj
  by_cases e : j < k
  · exact h j k1 k2 e
  · obtain rfl : j = k := by omega
    exact he


/-- Only block g may have changed, and it stands. -/
structure Only (g : Nat) (w w' : World) : Prop where
  os : w'.os = w.os
  tape : w'.tape = w.tape
  output : w'.output = w.output
  size : w'.heap.size = w.heap.size
  block : ∀ k, k ≠ g → w'.heap[k]? = w.heap[k]?
theorem Only.refl (g : Nat) (w : World) : Only g w w := ⟨rfl, rfl, rfl, rfl, fun _ _ => rfl⟩
theorem Only.set {g i : Nat} {w w' : World} {u : Value} (h : Only g w w') : Only g w (w'.setCell ⟨g, i, none⟩ u) :=
  ⟨h.os, h.tape, h.output, by rw [← h.size]; simp [World.setCell], fun k hk => (Below.heap_setCell _ _ _ _ hk).trans (h.block k hk)⟩
theorem Only.grown {g : Nat} {w w' : World} (h : Only g w w') : w.grownBy w' (some g) := ⟨h.os, h.tape, h.output, by rw [h.size]; exact Nat.le_refl _, fun k _ hn => h.block k (fun e => hn (by rw [e]))⟩

/-- The first j cells hold the numbers from k on. -/
def fillTo (cs : Array Value) (k : Int) : Nat → Array Value
  | 0 => cs
  | j + 1 => (fillTo cs k j).setIfInBounds j (.int .i64 (k + j))
theorem fillTo_size (cs : Array Value) (k : Int) (j : Nat) : (fillTo cs k j).size = cs.size := by
  induction j with
  | zero => rfl
  | succ j ih => simp [fillTo, ih]
theorem fillTo_get (cs : Array Value) (k : Int) (j i : Nat) (hi : i < j) (hs : i < cs.size) : (fillTo cs k j)[i]? = some (.int .i64 (k + i)) := by
  induction j with
  | zero => omega
  | succ j ih =>
    simp only [fillTo, Array.getElem?_setIfInBounds, fillTo_size]
    by_cases e : j = i
    · subst e; simp [hs]
    · rw [if_neg e]; exact ih (by omega)
theorem fillTo_take (cs : Array Value) (k : Int) (n : Nat) (hn : n ≤ cs.size) : (fillTo cs k n).toList.take n = (runOf k n).map (Value.int .i64) := by
  apply List.ext_getElem?
  intro i
  by_cases hi : i < n
  · have e := fillTo_get cs k n i hi (by omega)
    rw [← Array.getElem?_toList] at e
    rw [List.getElem?_take, if_pos hi, e]
    simp [runOf, hi]
  · rw [List.getElem?_take, if_neg hi]
    simp [runOf, hi]



end Go.Proofs.Ytjpkopnkfpgahaa

/- Slices of the call's own, whatever the elements: read, kept, appended to. -/
namespace Go.Proofs.Ytjpkopnkfpgahaa
open Go.RowKit

/-- How an element lies in cells. -/
structure Enc (α : Type) where
  k : Nat
  enc : α → List Value
  hk : ∀ x, (enc x).length = k
  pos : 0 < k
  one : ∀ x, ∀ u ∈ enc x, u.oneCell' = true
def encI : Enc Int := ⟨1, fun x => [.int .i64 x], fun _ => rfl, by decide, fun x u hu => by simp at hu; subst hu; rfl⟩

/-- The slice v of elements of the type E owns the elements xs in a block of the number B or above. -/
def OwnK {α : Type} (e : Enc α) (E : TypeId) (w : World) (B : Nat) (v : Value) (xs : List α) : Prop := w.ownsRow B E e.k v xs.length (xs.flatMap e.enc)

section
variable {α : Type} {e : Enc α} {E : TypeId} {w w' : World} {B : Nat} {v : Value} {xs : List α}

theorem OwnK.nil (w : World) (B : Nat) : OwnK e E w B (.slice none 0 0) [] := World.ownsRow_nil _ _ _ _
theorem OwnK.same (h : OwnK e E w B v xs) (hs : ∀ g, v.ownBlock = some g → w'.heap[g]? = w.heap[g]?) : OwnK e E w' B v xs := by
  obtain ⟨h1, h2⟩ := h
  refine ⟨h1, ?_⟩
  rcases h2 with h2 | ⟨g, cap, cur, rfl, hb, hh, r⟩
  · exact .inl h2
  · exact .inr ⟨g, cap, cur, rfl, hb, (hs g rfl).trans hh, r⟩
theorem OwnK.lt (h : OwnK e E w B v xs) {g : Nat} (hg : v.ownBlock = some g) : B ≤ g ∧ g < w.heap.size := World.ownsRow.lt h g hg
theorem OwnK.below (hb : Below w.heap.size w w') (h : OwnK e E w B v xs) : OwnK e E w' B v xs := h.same fun _ hg => hb.block _ (h.lt hg).2
theorem OwnK.alloc {o : Obj} (h : OwnK e E w B v xs) : OwnK e E (w.alloc o) B v xs := h.below ((Below.refl _ _).alloc (Nat.le_refl _) _)
theorem OwnK.drew (h : OwnK e E w B v xs) : OwnK e E w.drew B v xs := h
theorem OwnK.drewN {n : Nat} (h : OwnK e E w B v xs) : OwnK e E (w.drewN n) B v xs := h
theorem OwnK.put {g i : Nat} {u : Value} (hg : g < B) (h : OwnK e E w B v xs) : OwnK e E (w.setCell ⟨g, i, none⟩ u) B v xs :=
  h.same fun k hk => Below.heap_setCell _ _ _ _ (fun (e : k = g) => by have := (h.lt hk).1; omega)
theorem OwnK.mono {B' : Nat} (hB : B' ≤ B) (h : OwnK e E w B v xs) : OwnK e E w B' v xs := by
  obtain ⟨h1, h2⟩ := h
  refine ⟨h1, ?_⟩
  rcases h2 with h2 | ⟨g, cap, cur, rfl, hg, r⟩
  · exact .inl h2
  · exact .inr ⟨g, cap, cur, rfl, by omega, r⟩
/-- A row that was there before the other one was made stays behind the other's growth. -/
theorem OwnK.apart {β : Type} {e2 : Enc β} {E2 : TypeId} {B0 B2 : Nat} {w0 : World} {u : Value} {zs : List α} {ys : List β} (hg : w.grownBy w' u.ownBlock) (hu : OwnK e2 E2 w B2 u ys) (h0 : OwnK e E w0 B0 v zs) (hB : w0.heap.size ≤ B2) (h : OwnK e E w B v xs) : OwnK e E w' B v xs :=
  h.same fun g hk => hg.block g (h.lt hk).2 fun e => by have := (hu.lt e.symm).1; have := (h0.lt hk).2; omega
theorem Below.grownK {B0 : Nat} {W : World} (hg : w.grownBy w' v.ownBlock) (hu : OwnK e E w B v xs) (hB : B0 ≤ B) (hs : B0 ≤ w.heap.size) (h : Below B0 W w) : Below B0 W w' :=
  h.trans ⟨hg.os, hg.tape, hg.output, hg.size, fun k hk => hg.block k (by omega) fun e => by have := (hu.lt e.symm).1; omega⟩
theorem Blk.grownK {k : Nat} {F : TypeId} {cs : Array Value} (hg : w.grownBy w' v.ownBlock) (hu : OwnK e E w B v xs) (hk : k < B) (h : Blk w k F cs) : Blk w' k F cs :=
  (hg.block k h.lt fun e => by have := (hu.lt e.symm).1; omega).trans h

theorem flat_get (e : Enc α) (xs : List α) (j i : Nat) (x : α) (u : Value) (h : xs[j]? = some x) (hu : (e.enc x)[i]? = some u) : (xs.flatMap e.enc)[j * e.k + i]? = some u := by
  induction xs generalizing j with
  | nil => simp at h
  | cons y l ih =>
    have hi : i < e.k := by rw [← e.hk x]; exact (List.getElem?_eq_some_iff.1 hu).1
    cases j with
    | zero =>
      simp at h; subst h
      rw [List.flatMap_cons, List.getElem?_append_left (by rw [e.hk]; omega)]
      simpa using hu
    | succ j =>
      simp at h
      rw [List.flatMap_cons, List.getElem?_append_right (by rw [e.hk, Nat.add_mul]; omega), e.hk]
      have := ih j h
      rwa [show (j + 1) * e.k + i - e.k = j * e.k + i by rw [Nat.add_mul]; omega]
theorem flat_len (e : Enc α) (xs : List α) : (xs.flatMap e.enc).length = xs.length * e.k := by
  induction xs with
  | nil => simp
  | cons x l ih => rw [List.flatMap_cons, List.length_append, e.hk, ih, List.length_cons, Nat.add_mul]; omega

theorem OwnK.at {g j i : Nat} {x : α} {u : Value} (h : OwnK e E w B v xs) (hg : v.ownBlock = some g) (hx : xs[j]? = some x) (hu : (e.enc x)[i]? = some u) : w.cell? ⟨g, j * e.k + i, none⟩ = some u := by
  have q := World.ownsRow.cells h (g := g) hg (j * e.k + i) u (flat_get e xs j i x u hx hu)
  rwa [show (⟨g, 0, none⟩ : Addr).add (j * e.k + i) = ⟨g, j * e.k + i, none⟩ by simp only [Addr.add]; split <;> simp_all] at q
/-- Nil, or a block. -/
theorem OwnK.form (h : OwnK e E w B v xs) : (v = .slice none 0 0 ∧ xs = []) ∨ ∃ g cap, v = .slice (some ⟨g, 0, none⟩) xs.length cap ∧ B ≤ g ∧ g < w.heap.size ∧ xs.length ≤ cap ∧ cap ≤ maxLen ∧ (∀ i, w.frozen? ⟨g, i, none⟩ = false) := by
  have h0 := h
  obtain ⟨h1, h2⟩ := h
  rcases h2 with ⟨rfl, h2⟩ | ⟨g, cap, cur, rfl, hg, hh, hn, hc, hs, ht⟩
  · exact .inl ⟨rfl, List.eq_nil_of_length_eq_zero h2⟩
  · exact .inr ⟨g, cap, rfl, hg, (h0.lt rfl).2, hn, hc, fun i => blk_free hh⟩
/-- A block that holds just the elements. -/
theorem OwnK.of_blk {g : Nat} {cs : Array Value} (h : Blk w g E cs) (hB : B ≤ g) (hc : cs.toList = xs.flatMap e.enc) (hl : xs.length ≤ maxLen) :
    OwnK e E w B (.slice (some ⟨g, 0, none⟩) xs.length xs.length) xs :=
  ⟨flat_len e xs, .inr ⟨g, xs.length, cs, rfl, hB, h, Nat.le_refl _, hl, by rw [← Array.length_toList, hc, flat_len], by rw [hc, List.take_of_length_le (by rw [flat_len]; exact Nat.le_refl _)]⟩⟩
theorem OwnK.len (h : OwnK e E w B v xs) : ∃ ao c, v = .slice ao xs.length c := by
  rcases h.form with ⟨rfl, rfl⟩ | ⟨g, cap, rfl, _⟩
  · exact ⟨_, _, rfl⟩
  · exact ⟨_, _, rfl⟩

def lenOf : Value → Nat
  | .slice _ n _ => n
  | _ => 0
theorem OwnK.lenOf (h : OwnK e E w B v xs) : lenOf v = xs.length := by
  obtain ⟨ao, c, rfl⟩ := h.len
  rfl

theorem OwnK.ne_blk {g : Nat} {F : TypeId} {cs : Array Value} (h : OwnK e E w B v xs) (hb : Blk w g F cs) (hF : E ≠ F) : v.ownBlock ≠ some g := by
  intro hg
  obtain ⟨h1, h2⟩ := h
  rcases h2 with ⟨rfl, _⟩ | ⟨k, cap, cur, rfl, _, hh, _⟩
  · cases hg
  · simp only [Value.ownBlock, Option.some.injEq] at hg
    subst hg
    have e := hh.symm.trans hb
    simp only [Option.some.injEq, Obj.cells.injEq] at e
    exact hF e.2.1
theorem Blk.grownN {k : Nat} {F : TypeId} {cs : Array Value} (hg : w.grownBy w' v.ownBlock) (hk : v.ownBlock ≠ some k) (h : Blk w k F cs) : Blk w' k F cs :=
  (hg.block k h.lt fun e => hk e.symm).trans h

/-- out = append(out, news...), the new elements lying in a block of their own. -/
theorem wpList_app {P : Program} {ops : Array Oper} {rest : List Oper} {o : Oper} {a : Act} {Q : Exit → Act → World → Prop} (e : Enc α) (hgd : o.guard = none) (s x : Operand) (T E : TypeId) (by_ : Nat)
    (ho : o.op = .call { callee := .builtin .append, args := #[s, x], argTypes := #[T, T] })
    (ht : P.underlying T = some (.slice E)) (i : TypeInfo) (z : Value) (hi : P.info? E = some i) (hz : i.zero = some z) (hsize : i.size = e.k) (hby : i.bytes = by_) (hzs : z.cells.size = e.k)
    (v : Value) (xs : List α) (B g c : Nat) (cs : Array Value) (news : List α) (hs : a.eval s = v) (hown : OwnK e E w B v xs) (hx : a.eval x = .slice (some ⟨g, 0, none⟩) news.length c) (hb : Blk w g E cs) (hc : cs.toList = news.flatMap e.enc)
    (h63 : xs.length + news.length ≤ maxLen) (hbytes : (xs.length + news.length) * by_ ≤ 140737488355328) (hbase : B ≤ w.heap.size)
    (h : ∀ v' w', OwnK e E w' B v' (xs ++ news) → w.grownBy w' v.ownBlock → wpList P ops Q rest (a.put o.dst v') w') : wpList P ops Q (o :: rest) a w :=
  wpList_append_own w hgd s x T ho B E i z e.k by_ ht hi hz hsize hby hzs e.pos v xs.length (xs.flatMap e.enc) hs hown ⟨g, 0, none⟩ news.length c (news.flatMap e.enc) hx (flat_len e news)
    (fun j u hu => by
      have hadd : (⟨g, 0, none⟩ : Addr).add j = ⟨g, j, none⟩ := by unfold Addr.add; split <;> simp_all
      rw [hadd, hb.cell j, ← Array.getElem?_toList, hc]; exact hu)
    (fun u hu => by obtain ⟨x, _, hu⟩ := List.mem_flatMap.1 hu; exact e.one x u hu)
    h63 hbytes hbase
    (fun v' w' h1 h2 _ => h v' w' (by unfold OwnK; rw [List.length_append, List.flatMap_append]; exact h1) h2)
end

theorem flat_encI (xs : List Int) : xs.flatMap encI.enc = xs.map (Value.int .i64) := by
  induction xs with
  | nil => rfl
  | cons x l ih => rw [List.flatMap_cons, ih]; rfl
theorem Own.toK {w : World} {B : Nat} {v : Value} {xs : List Int} (h : Own w B v xs) : OwnK encI 2 w B v xs := by
  unfold OwnK; rw [flat_encI]; exact h
theorem OwnK.toOwn {w : World} {B : Nat} {v : Value} {xs : List Int} (h : OwnK encI 2 w B v xs) : Own w B v xs := by
  unfold OwnK at h; rw [flat_encI] at h; exact h

end Go.Proofs.Ytjpkopnkfpgahaa

/- Contracts of the laws' own small functions. -/
namespace Go.Proofs.Ytjpkopnkfpgahaa
open Go.RowKit




end Go.Proofs.Ytjpkopnkfpgahaa

/- Actions: the laws' functions on them. -/
namespace Go.Proofs.Ytjpkopnkfpgahaa
open Go.RowKit

theorem infoI : (Try.prog.info? 2).map (fun i => (i.zero, i.size, i.bytes)) = some (some (.int .i64 0), 1, 8) := by kernel_rfl

/-- The first k of the numbers, and zeros. -/
def cpy (xs : List Int) (k : Nat) : Array Value := ((xs.take k).map (Value.int .i64) ++ List.replicate (xs.length - k) (Value.int .i64 0)).toArray
theorem cpy_size (xs : List Int) (k : Nat) (h : k ≤ xs.length) : (cpy xs k).size = xs.length := by simp [cpy]; omega
theorem cpy_set (xs : List Int) (k : Nat) (h : k < xs.length) : (cpy xs k).setIfInBounds k (.int .i64 xs[k]) = cpy xs (k + 1) := by
  apply Array.toList_inj.1
  apply List.ext_getElem?
  intro j
  simp only [cpy, Array.toList_setIfInBounds, List.getElem?_set, List.length_append, List.length_map, List.length_take, List.length_replicate]
  rcases Nat.lt_trichotomy j k with e | e | e
  · rw [if_neg (by omega), List.getElem?_append_left (by simp; omega), List.getElem?_append_left (by simp; omega)]
    simp [e, show j < k + 1 by omega]
  · subst e
    rw [if_pos rfl, if_pos (by omega), List.getElem?_append_left (by simp; omega)]
    simp [List.getElem?_eq_getElem h]
  · rw [if_neg (by omega), List.getElem?_append_right (by simp; omega), List.getElem?_append_right (by simp; omega)]
    simp only [List.length_map, List.length_take, List.getElem?_replicate]
    by_cases hj : j < xs.length
    · rw [if_pos (by omega), if_pos (by omega)]
    · rw [if_neg (by omega), if_neg (by omega)]

theorem made_cpy (xs : List Int) : madeCells #[Value.int .i64 0] xs.length = cpy xs 0 := by
  apply Array.ext
  · rw [size_madeCells, cpy_size xs 0 (by omega)]
  · intro j h1 h2
    simp [madeCells, cpy, Nat.mod_one]
theorem cpy_all (xs : List Int) : (cpy xs xs.length).toList = xs.map (Value.int .i64) := by simp [cpy]

theorem Blk.p2 {w : World} {g : Nat} {E : TypeId} {x y : Value} (h : Blk w g E #[x, y]) : w.cell? ⟨g, 0, none⟩ = some x ∧ w.cell? ⟨g, 1, none⟩ = some y := ⟨h.at rfl, h.at rfl⟩
structure Act where
  S : List Int
  T : List Int
/-- Two slices of the call's own, in blocks of their own. -/
def OwnA (w : World) (B : Nat) (s t : Value) (X : Act) : Prop := Own w B s X.S ∧ Own w B t X.T ∧ ∀ g, s.ownBlock = some g → t.ownBlock ≠ some g

def szR (l n : Int) : Int := if l - n < 0 then -1 else l - n
/-- What is left of the bulk. -/
def szA (S T : List Int) : Int := if szR 1048576 S.length < 0 then -1 else if szR (szR 1048576 S.length) T.length < 0 then -1 else szR (szR 1048576 S.length) T.length
theorem szR_bd {l n : Int} (h : 0 ≤ l ∧ l ≤ 1048576) (hn : 0 ≤ n) (k : ¬ szR l n < 0) : 0 ≤ szR l n ∧ szR l n ≤ 1048576 ∧ n ≤ 1048576 := by
  unfold szR at *; split at * <;> omega
theorem szA_ok {S T : List Int} (h : ¬ szA S T < 0) : S.length ≤ 1048576 ∧ T.length ≤ 1048576 := by
  unfold szA at h
  split at h
  · omega
  · have a := szR_bd (l := 1048576) (n := S.length) (by omega) (by omega) (by assumption)
    split at h
    · omega
    · have b := szR_bd (l := szR 1048576 S.length) (n := T.length) (by omega) (by omega) (by assumption)
      omega
end Go.Proofs.Ytjpkopnkfpgahaa
