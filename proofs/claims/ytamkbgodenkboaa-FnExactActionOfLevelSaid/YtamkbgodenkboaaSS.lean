/- Slices of slices of points. -/
import Derived.Test.YtamkbgodenkboaaCycW
import Derived.Test.YtamkbgodenkboaaAct3
namespace Go.Proofs.Ytamkbgodenkboaa
open Go.RowKit

/-- A slice as it lies in a cell. -/
structure Sl where
  ao : Option Addr
  n : Nat
  c : Nat
abbrev Sl.v (s : Sl) : Value := .slice s.ao s.n s.c
def encV : Enc Sl := ⟨1, fun x => [x.v], fun _ => rfl, by decide, fun x u hu => by simp at hu; subst hu; rfl⟩
theorem infoSl : (Try.prog.info? 22).map (fun i => (i.zero, i.size, i.bytes)) = some (some (.slice none 0 0), 1, 24) := by kernel_rfl

theorem OwnK.ne_own {α : Type} {e : Enc α} {E : TypeId} {w : World} {B B' : Nat} {v u : Value} {xs : List α} {ys : List Int} (h : OwnK e E w B v xs) (h2 : Own w B' u ys) (hE : E ≠ 2) :
    ∀ g, v.ownBlock = some g → u.ownBlock ≠ some g := by
  intro g hg hu
  obtain ⟨_, h1⟩ := h
  obtain ⟨_, h2⟩ := h2
  rcases h1 with ⟨rfl, _⟩ | ⟨k, cap, cur, rfl, _, hh, _⟩
  · cases hg
  · rcases h2 with ⟨rfl, _⟩ | ⟨k2, cap2, cur2, rfl, _, hh2, _⟩
    · cases hu
    · simp only [Value.ownBlock, Option.some.injEq] at hg hu
      subst hg hu
      have e := hh.symm.trans hh2
      simp only [Option.some.injEq, Obj.cells.injEq] at e
      exact hE e.2.1

/-- The rows lie in blocks of their own, from B on. -/
def RowS (w : World) (B : Nat) : List Sl → List (List Nat) → Prop
  | [], [] => True
  | s :: vs, c :: cs => Own w B s.v (c.map Int.ofNat) ∧ (∀ t ∈ vs, ∀ g, s.v.ownBlock = some g → t.v.ownBlock ≠ some g) ∧ RowS w B vs cs
  | [], _ :: _ => False
  | _ :: _, [] => False
theorem RowS.len {w : World} {B : Nat} : ∀ {vs : List Sl} {cs : List (List Nat)}, RowS w B vs cs → vs.length = cs.length
  | [], [], _ => rfl
  | _ :: _, _ :: _, h => by simp [RowS.len h.2.2]
  | [], _ :: _, h => h.elim
  | _ :: _, [], h => h.elim
theorem RowS.same {w w' : World} {B : Nat} : ∀ {vs : List Sl} {cs : List (List Nat)}, RowS w B vs cs → (∀ t ∈ vs, ∀ g, t.v.ownBlock = some g → w'.heap[g]? = w.heap[g]?) → RowS w' B vs cs
  | [], [], _, _ => trivial
  | _ :: _, _ :: _, h, hs => ⟨h.1.same (hs _ (by simp)), h.2.1, h.2.2.same fun t ht => hs t (by simp [ht])⟩
  | [], _ :: _, h, _ => h.elim
  | _ :: _, [], h, _ => h.elim
theorem RowS.lt {w : World} {B : Nat} : ∀ {vs : List Sl} {cs : List (List Nat)}, RowS w B vs cs → ∀ t ∈ vs, ∀ g, t.v.ownBlock = some g → B ≤ g ∧ g < w.heap.size
  | [], [], _ => fun t ht => by cases ht
  | _ :: _, _ :: _, h => fun t ht g hg => by
    rcases List.mem_cons.1 ht with rfl | ht
    · exact h.1.lt hg
    · exact RowS.lt h.2.2 t ht g hg
  | [], _ :: _, h => h.elim
  | _ :: _, [], h => h.elim
theorem RowS.below {w w' : World} {B : Nat} {vs : List Sl} {cs : List (List Nat)} (h : RowS w B vs cs) (hb : Below w.heap.size w w') : RowS w' B vs cs :=
  h.same fun t ht g hg => hb.block _ (h.lt t ht g hg).2
theorem RowS.mono {w : World} {B B' : Nat} (hB : B' ≤ B) : ∀ {vs : List Sl} {cs : List (List Nat)}, RowS w B vs cs → RowS w B' vs cs
  | [], [], _ => trivial
  | _ :: _, _ :: _, h => ⟨h.1.mono hB, h.2.1, RowS.mono hB h.2.2⟩
  | [], _ :: _, h => h.elim
  | _ :: _, [], h => h.elim
theorem RowS.snoc {w : World} {B : Nat} {s : Sl} {c : List Nat} (hs : Own w B s.v (c.map Int.ofNat)) : ∀ {vs : List Sl} {cs : List (List Nat)}, RowS w B vs cs →
    (∀ t ∈ vs, ∀ g, t.v.ownBlock = some g → s.v.ownBlock ≠ some g) → RowS w B (vs ++ [s]) (cs ++ [c])
  | [], [], _, _ => ⟨hs, fun t ht => (by cases ht), trivial⟩
  | a :: vs, _ :: _, h, hd => ⟨h.1, fun t ht g hg => by
      rcases List.mem_append.1 ht with ht | ht
      · exact h.2.1 t ht g hg
      · simp at ht
        subst ht
        exact hd a (by simp) g hg, RowS.snoc hs h.2.2 fun t ht => hd t (by simp [ht])⟩
  | [], _ :: _, h, _ => h.elim
  | _ :: _, [], h, _ => h.elim
/-- RowS stay when a slice of another type grows. -/
theorem RowS.grown {α : Type} {e : Enc α} {E : TypeId} {w w' : World} {B B' : Nat} {v : Value} {xs : List α} {vs : List Sl} {cs : List (List Nat)} (hg : w.grownBy w' v.ownBlock) (hv : OwnK e E w B' v xs) (hE : E ≠ 2) : RowS w B vs cs → RowS w' B vs cs := by
  intro h
  have key : ∀ {vs : List Sl} {cs : List (List Nat)}, RowS w B vs cs → ∀ t ∈ vs, ∀ g, t.v.ownBlock = some g → v.ownBlock ≠ some g := by
    intro vs
    induction vs with
    | nil => intro cs _ t ht; cases ht
    | cons a vs ih =>
      intro cs h t ht g hgt
      cases cs with
      | nil => exact h.elim
      | cons c cs =>
        rcases List.mem_cons.1 ht with rfl | ht
        · exact fun e => hv.ne_own h.1 hE g e hgt
        · exact ih h.2.2 t ht g hgt
  exact h.same fun t ht g hgt => hg.block g (h.lt t ht g hgt).2 fun e => key h t ht g hgt e.symm
/-- RowS below m stay when a row from m on grows. -/
theorem RowS.apart {w w' : World} {B m : Nat} {u : Value} {xs : List Int} {vs : List Sl} {cs : List (List Nat)} (hg : w.grownBy w' u.ownBlock) (hu : Own w m u xs) (hm : ∀ t ∈ vs, ∀ g, t.v.ownBlock = some g → g < m) (h : RowS w B vs cs) : RowS w' B vs cs :=
  h.same fun t ht g hgt => hg.block g (h.lt t ht g hgt).2 fun e => by
    have := (hu.lt e.symm).1
    have := hm t ht g hgt
    omega
theorem RowS.put {w : World} {B b i : Nat} {u : Value} {vs : List Sl} {cs : List (List Nat)} (hn : ∀ t ∈ vs, t.v.ownBlock ≠ some b) (h : RowS w B vs cs) : RowS (w.setCell ⟨b, i, none⟩ u) B vs cs :=
  h.same fun t ht g hg => Below.heap_setCell _ _ _ _ (fun e => hn t ht (by rw [hg, e]))
theorem RowS.ne_blk {w : World} {B b : Nat} {F : TypeId} {cells : Array Value} (hb : Blk w b F cells) (hF : F ≠ 2) : ∀ {vs : List Sl} {cs : List (List Nat)}, RowS w B vs cs → ∀ t ∈ vs, t.v.ownBlock ≠ some b
  | [], [], _ => fun t ht => by cases ht
  | _ :: _, _ :: _, h => fun t ht => by
    rcases List.mem_cons.1 ht with rfl | ht
    · exact h.1.toK.ne_blk hb (Ne.symm hF)
    · exact RowS.ne_blk hb hF h.2.2 t ht
  | [], _ :: _, h => h.elim
  | _ :: _, [], h => h.elim

theorem foldl_min_le (l : List Int) (a : Int) : l.foldl min a ≤ a ∧ ∀ x ∈ l, l.foldl min a ≤ x := by
  induction l generalizing a with
  | nil => exact ⟨Int.le_refl _, fun x hx => by cases hx⟩
  | cons y l ih =>
    simp only [List.foldl_cons]
    obtain ⟨h1, h2⟩ := ih (min a y)
    refine ⟨by omega, fun x hx => ?_⟩
    rcases List.mem_cons.1 hx with rfl | hx
    · omega
    · exact h2 x hx
theorem foldl_min_mem (l : List Int) (a : Int) : l.foldl min a = a ∨ l.foldl min a ∈ l := by
  induction l generalizing a with
  | nil => exact .inl rfl
  | cons y l ih =>
    simp only [List.foldl_cons]
    rcases ih (min a y) with h | h
    · rw [h]
      by_cases e : a ≤ y
      · exact .inl (by omega)
      · exact .inr (by rw [show min a y = y by omega]; simp)
    · exact .inr (List.mem_cons_of_mem _ h)
theorem min_cyc {g : Nat → Nat} {n i : Nat} (hg : ∀ a, a < n → g a < n) (hj : Inj g n) (hi : i < n) : (minL ((cyL g i n).map Int.ofNat) ((cyL g i n).map Int.ofNat).length == (i : Int)) = isMin g i n := by
  have hp := per_spec hg hj hi
  have h0 : i ∈ cyL g i n := cyK_mem.2 ⟨0, hp.one, rfl⟩
  have hlen : 0 < ((cyL g i n).map Int.ofNat).length := by rw [List.length_map]; exact List.length_pos_of_mem h0
  have hd : ((cyL g i n).map Int.ofNat).getD 0 0 ∈ (cyL g i n).map Int.ofNat := by
    rw [List.getD, List.getElem?_eq_getElem hlen]
    exact List.getElem_mem hlen
  generalize hm : minL ((cyL g i n).map Int.ofNat) ((cyL g i n).map Int.ofNat).length = m
  unfold minL at hm
  rw [List.take_length] at hm
  have hle := foldl_min_le ((cyL g i n).map Int.ofNat) (((cyL g i n).map Int.ofNat).getD 0 0)
  have hmem := foldl_min_mem ((cyL g i n).map Int.ofNat) (((cyL g i n).map Int.ofNat).getD 0 0)
  rw [hm] at hle hmem
  have hmem : m ∈ (cyL g i n).map Int.ofNat := by
    rcases hmem with h | h
    · rw [h]; exact hd
    · exact h
  have hi2 : m ≤ (i : Int) := hle.2 _ (List.mem_map.2 ⟨i, h0, rfl⟩)
  obtain ⟨q, hq, rfl⟩ := List.mem_map.1 hmem
  cases hb : isMin g i n with
  | true =>
    have := List.all_eq_true.1 hb q hq
    simp only [decide_eq_true_eq] at this
    rw [beq_iff_eq]
    show ((q : Nat) : Int) = (i : Int)
    have hi3 : ((q : Nat) : Int) ≤ (i : Int) := hi2
    omega
  | false =>
    rw [beq_eq_false_iff_ne]
    intro e
    have e2 : ((q : Nat) : Int) = (i : Int) := e
    have : isMin g i n = true := List.all_eq_true.2 fun x hx => by
      have := hle.2 _ (List.mem_map.2 ⟨x, hx, rfl⟩)
      have h3 : ((q : Nat) : Int) ≤ ((x : Nat) : Int) := this
      simp only [decide_eq_true_eq]
      omega
    rw [hb] at this
    cases this

theorem flat_iff {g : Nat → Nat} {n : Nat} (hg : ∀ a, a < n → g a < n) (hj : Inj g n) (k : Nat) (hk : k ≤ n) (x : Nat) : x ∈ (cysL g n k).flatten ↔ ∃ j, j < k ∧ On g j x := by
  induction k with
  | zero => simp [cysL]
  | succ k ih =>
    have ih := ih (by omega)
    simp only [cysL]
    constructor
    · intro h
      split at h
      · rw [List.flatten_append, List.mem_append] at h
        rcases h with h | h
        · obtain ⟨j, h1, h2⟩ := ih.1 h
          exact ⟨j, by omega, h2⟩
        · simp at h
          exact ⟨k, by omega, (On.iff hg hj (by omega)).2 h⟩
      · obtain ⟨j, h1, h2⟩ := ih.1 h
        exact ⟨j, by omega, h2⟩
    · rintro ⟨j, h1, h2⟩
      by_cases e : j < k
      · have := ih.2 ⟨j, e, h2⟩
        split
        · rw [List.flatten_append]; exact List.mem_append_left _ this
        · exact this
      · obtain rfl : j = k := by omega
        split
        · rw [List.flatten_append]
          exact List.mem_append_right _ (by simpa using (On.iff hg hj (by omega)).1 h2)
        · rename_i hm
          have hm' : ¬ ∀ x, On g j x → j ≤ x := fun h => hm ((isMin_iff hg hj (by omega)).2 h)
          obtain ⟨y, hy⟩ := Classical.not_forall.1 hm'
          have hy1 : On g j y := Classical.byContradiction fun h => hy (fun h' => absurd h' h)
          have hy2 : y < j := by
            by_cases h : j ≤ y
            · exact absurd (fun _ => h) hy
            · omega
          exact ih.2 ⟨y, hy2, (hy1.symm hg hj (by omega)).trans h2⟩
theorem met_min {g : Nat → Nat} {n : Nat} (hg : ∀ a, a < n → g a < n) (hj : Inj g n) {k : Nat} (hk : k < n) : decide (k ∈ (cysL g n k).flatten) = !isMin g k n := by
  cases h : isMin g k n with
  | true =>
    apply decide_eq_false
    intro hm
    obtain ⟨j, h1, h2⟩ := (flat_iff hg hj k (by omega) k).1 hm
    have := (isMin_iff hg hj hk).1 h j (h2.symm hg hj (by omega))
    omega
  | false =>
    apply decide_eq_true
    have hm' : ¬ ∀ x, On g k x → k ≤ x := fun h' => by rw [(isMin_iff hg hj hk).2 h'] at h; cases h
    obtain ⟨y, hy⟩ := Classical.not_forall.1 hm'
    have hy1 : On g k y := Classical.byContradiction fun h => hy (fun h' => absurd h' h)
    have hy2 : y < k := by
      by_cases h : k ≤ y
      · exact absurd (fun _ => h) hy
      · omega
    exact (flat_iff hg hj k (by omega) k).2 ⟨y, hy2, hy1.symm hg hj hk⟩
/-- Whether the j-th point is met already: only when the cycle is through. -/
theorem met_in {g : Nat → Nat} {n : Nat} (hg : ∀ a, a < n → g a < n) (hj : Inj g n) {k j : Nat} (hk : k < n) (hm : isMin g k n = true) (hjp : j ≤ per g k n) :
    decide (it g j k ∈ (cysL g n k).flatten ++ cyK g k j) = decide (j = per g k n) := by
  have hp := per_spec hg hj hk
  by_cases e : j = per g k n
  · rw [decide_eq_true e]
    apply decide_eq_true
    apply List.mem_append_right
    rw [e, hp.ret]
    exact cyK_mem.2 ⟨0, hp.one, rfl⟩
  · rw [decide_eq_false e]
    apply decide_eq_false
    intro h
    rcases List.mem_append.1 h with h | h
    · obtain ⟨i, h1, h2⟩ := (flat_iff hg hj k (by omega) _).1 h
      have h3 : On g k i := On.trans ⟨j, rfl⟩ (h2.symm hg hj (by omega))
      have := (isMin_iff hg hj hk).1 hm i h3
      omega
    · obtain ⟨i, h1, h2⟩ := cyK_mem.1 h
      have := hp.no.inj hg hj hk i j (by omega) (by omega) h2
      omega

end Go.Proofs.Ytamkbgodenkboaa
