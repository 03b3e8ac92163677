/- Slices of the call's own, whatever the elements: read, kept, appended to. -/
import Derived.Test.YtcapmljnhflopaaSl
import Derived.OwnWalk
import Derived.Laws.OwnMore
namespace Go.Proofs.Ytcapmljnhflopaa
open Go.RowKit

/-- How an element lies in cells. -/
structure Enc (α : Type) where
  k : Nat
  enc : α → List Value
  hk : ∀ x, (enc x).length = k
  pos : 0 < k
  one : ∀ x, ∀ u ∈ enc x, u.oneCell' = true
def encI : Enc Int := ⟨1, fun x => [.int .i64 x], fun _ => rfl, by decide, fun x u hu => by simp at hu; subst hu; rfl⟩

/-- The slice v of elements of the type E owns the elements xs in a block of the number B or above. -/
def OwnK {α : Type} (e : Enc α) (E : TypeId) (w : World) (B : Nat) (v : Value) (xs : List α) : Prop := w.ownsRow B E e.k v xs.length (xs.flatMap e.enc)

section
variable {α : Type} {e : Enc α} {E : TypeId} {w w' : World} {B : Nat} {v : Value} {xs : List α}

theorem OwnK.nil (w : World) (B : Nat) : OwnK e E w B (.slice none 0 0) [] := World.ownsRow_nil _ _ _ _
theorem OwnK.same (h : OwnK e E w B v xs) (hs : ∀ g, v.ownBlock = some g → w'.heap[g]? = w.heap[g]?) : OwnK e E w' B v xs := by
  obtain ⟨h1, h2⟩ := h
  refine ⟨h1, ?_⟩
  rcases h2 with h2 | ⟨g, cap, cur, rfl, hb, hh, r⟩
  · exact .inl h2
  · exact .inr ⟨g, cap, cur, rfl, hb, (hs g rfl).trans hh, r⟩
theorem OwnK.lt (h : OwnK e E w B v xs) {g : Nat} (hg : v.ownBlock = some g) : B ≤ g ∧ g < w.heap.size := World.ownsRow.lt h g hg
theorem OwnK.below (hb : Below w.heap.size w w') (h : OwnK e E w B v xs) : OwnK e E w' B v xs := h.same fun _ hg => hb.block _ (h.lt hg).2
theorem OwnK.alloc {o : Obj} (h : OwnK e E w B v xs) : OwnK e E (w.alloc o) B v xs := h.below ((Below.refl _ _).alloc (Nat.le_refl _) _)
theorem OwnK.drew (h : OwnK e E w B v xs) : OwnK e E w.drew B v xs := h
theorem OwnK.drewN {n : Nat} (h : OwnK e E w B v xs) : OwnK e E (w.drewN n) B v xs := h
theorem OwnK.put {g i : Nat} {u : Value} (hg : g < B) (h : OwnK e E w B v xs) : OwnK e E (w.setCell ⟨g, i, none⟩ u) B v xs :=
  h.same fun k hk => Below.heap_setCell _ _ _ _ (fun (e : k = g) => by have := (h.lt hk).1; omega)
theorem OwnK.mono {B' : Nat} (hB : B' ≤ B) (h : OwnK e E w B v xs) : OwnK e E w B' v xs := by
  obtain ⟨h1, h2⟩ := h
  refine ⟨h1, ?_⟩
  rcases h2 with h2 | ⟨g, cap, cur, rfl, hg, r⟩
  · exact .inl h2
  · exact .inr ⟨g, cap, cur, rfl, by omega, r⟩
/-- A row that was there before the other one was made stays behind the other's growth. -/
theorem OwnK.apart {β : Type} {e2 : Enc β} {E2 : TypeId} {B0 B2 : Nat} {w0 : World} {u : Value} {zs : List α} {ys : List β} (hg : w.grownBy w' u.ownBlock) (hu : OwnK e2 E2 w B2 u ys) (h0 : OwnK e E w0 B0 v zs) (hB : w0.heap.size ≤ B2) (h : OwnK e E w B v xs) : OwnK e E w' B v xs :=
  h.same fun g hk => hg.block g (h.lt hk).2 fun e => by have := (hu.lt e.symm).1; have := (h0.lt hk).2; omega
theorem Below.grownK {B0 : Nat} {W : World} (hg : w.grownBy w' v.ownBlock) (hu : OwnK e E w B v xs) (hB : B0 ≤ B) (hs : B0 ≤ w.heap.size) (h : Below B0 W w) : Below B0 W w' :=
  h.trans ⟨hg.os, hg.tape, hg.output, hg.size, fun k hk => hg.block k (by omega) fun e => by have := (hu.lt e.symm).1; omega⟩
theorem Blk.grownK {k : Nat} {F : TypeId} {cs : Array Value} (hg : w.grownBy w' v.ownBlock) (hu : OwnK e E w B v xs) (hk : k < B) (h : Blk w k F cs) : Blk w' k F cs :=
  (hg.block k h.lt fun e => by have := (hu.lt e.symm).1; omega).trans h

theorem flat_get (e : Enc α) (xs : List α) (j i : Nat) (x : α) (u : Value) (h : xs[j]? = some x) (hu : (e.enc x)[i]? = some u) : (xs.flatMap e.enc)[j * e.k + i]? = some u := by
  induction xs generalizing j with
  | nil => simp at h
  | cons y l ih =>
    have hi : i < e.k := by rw [← e.hk x]; exact (List.getElem?_eq_some_iff.1 hu).1
    cases j with
    | zero =>
      simp at h; subst h
      rw [List.flatMap_cons, List.getElem?_append_left (by rw [e.hk]; omega)]
      simpa using hu
    | succ j =>
      simp at h
      rw [List.flatMap_cons, List.getElem?_append_right (by rw [e.hk, Nat.add_mul]; omega), e.hk]
      have := ih j h
      rwa [show (j + 1) * e.k + i - e.k = j * e.k + i by rw [Nat.add_mul]; omega]
theorem flat_len (e : Enc α) (xs : List α) : (xs.flatMap e.enc).length = xs.length * e.k := by
  induction xs with
  | nil => simp
  | cons x l ih => rw [List.flatMap_cons, List.length_append, e.hk, ih, List.length_cons, Nat.add_mul]; omega

theorem OwnK.at {g j i : Nat} {x : α} {u : Value} (h : OwnK e E w B v xs) (hg : v.ownBlock = some g) (hx : xs[j]? = some x) (hu : (e.enc x)[i]? = some u) : w.cell? ⟨g, j * e.k + i, none⟩ = some u := by
  have q := World.ownsRow.cells h (g := g) hg (j * e.k + i) u (flat_get e xs j i x u hx hu)
  rwa [show (⟨g, 0, none⟩ : Addr).add (j * e.k + i) = ⟨g, j * e.k + i, none⟩ by simp only [Addr.add]; split <;> simp_all] at q
/-- Nil, or a block. -/
theorem OwnK.form (h : OwnK e E w B v xs) : (v = .slice none 0 0 ∧ xs = []) ∨ ∃ g cap, v = .slice (some ⟨g, 0, none⟩) xs.length cap ∧ B ≤ g ∧ g < w.heap.size ∧ xs.length ≤ cap ∧ cap ≤ maxLen ∧ (∀ i, w.frozen? ⟨g, i, none⟩ = false) := by
  have h0 := h
  obtain ⟨h1, h2⟩ := h
  rcases h2 with ⟨rfl, h2⟩ | ⟨g, cap, cur, rfl, hg, hh, hn, hc, hs, ht⟩
  · exact .inl ⟨rfl, List.eq_nil_of_length_eq_zero h2⟩
  · exact .inr ⟨g, cap, rfl, hg, (h0.lt rfl).2, hn, hc, fun i => blk_free hh⟩
/-- A block that holds just the elements. -/
theorem OwnK.of_blk {g : Nat} {cs : Array Value} (h : Blk w g E cs) (hB : B ≤ g) (hc : cs.toList = xs.flatMap e.enc) (hl : xs.length ≤ maxLen) :
    OwnK e E w B (.slice (some ⟨g, 0, none⟩) xs.length xs.length) xs :=
  ⟨flat_len e xs, .inr ⟨g, xs.length, cs, rfl, hB, h, Nat.le_refl _, hl, by rw [← Array.length_toList, hc, flat_len], by rw [hc, List.take_of_length_le (by rw [flat_len]; exact Nat.le_refl _)]⟩⟩
theorem OwnK.len (h : OwnK e E w B v xs) : ∃ ao c, v = .slice ao xs.length c := by
  rcases h.form with ⟨rfl, rfl⟩ | ⟨g, cap, rfl, _⟩
  · exact ⟨_, _, rfl⟩
  · exact ⟨_, _, rfl⟩

def lenOf : Value → Nat
  | .slice _ n _ => n
  | _ => 0
theorem OwnK.lenOf (h : OwnK e E w B v xs) : lenOf v = xs.length := by
  obtain ⟨ao, c, rfl⟩ := h.len
  rfl

theorem OwnK.ne_blk {g : Nat} {F : TypeId} {cs : Array Value} (h : OwnK e E w B v xs) (hb : Blk w g F cs) (hF : E ≠ F) : v.ownBlock ≠ some g := by
  intro hg
  obtain ⟨h1, h2⟩ := h
  rcases h2 with ⟨rfl, _⟩ | ⟨k, cap, cur, rfl, _, hh, _⟩
  · cases hg
  · simp only [Value.ownBlock, Option.some.injEq] at hg
    subst hg
    have e := hh.symm.trans hb
    simp only [Option.some.injEq, Obj.cells.injEq] at e
    exact hF e.2.1
theorem Blk.grownN {k : Nat} {F : TypeId} {cs : Array Value} (hg : w.grownBy w' v.ownBlock) (hk : v.ownBlock ≠ some k) (h : Blk w k F cs) : Blk w' k F cs :=
  (hg.block k h.lt fun e => hk e.symm).trans h

/-- out = append(out, news...), the new elements lying in a block of their own. -/
theorem wpList_app {P : Program} {ops : Array Oper} {rest : List Oper} {o : Oper} {a : Act} {Q : Exit → Act → World → Prop} (e : Enc α) (hgd : o.guard = none) (s x : Operand) (T E : TypeId) (by_ : Nat)
    (ho : o.op = .call { callee := .builtin .append, args := #[s, x], argTypes := #[T, T] })
    (ht : P.underlying T = some (.slice E)) (i : TypeInfo) (z : Value) (hi : P.info? E = some i) (hz : i.zero = some z) (hsize : i.size = e.k) (hby : i.bytes = by_) (hzs : z.cells.size = e.k)
    (v : Value) (xs : List α) (B g c : Nat) (cs : Array Value) (news : List α) (hs : a.eval s = v) (hown : OwnK e E w B v xs) (hx : a.eval x = .slice (some ⟨g, 0, none⟩) news.length c) (hb : Blk w g E cs) (hc : cs.toList = news.flatMap e.enc)
    (h63 : xs.length + news.length ≤ maxLen) (hbytes : (xs.length + news.length) * by_ ≤ 140737488355328) (hbase : B ≤ w.heap.size)
    (h : ∀ v' w', OwnK e E w' B v' (xs ++ news) → w.grownBy w' v.ownBlock → wpList P ops Q rest (a.put o.dst v') w') : wpList P ops Q (o :: rest) a w :=
  wpList_append_own w hgd s x T ho B E i z e.k by_ ht hi hz hsize hby hzs e.pos v xs.length (xs.flatMap e.enc) hs hown ⟨g, 0, none⟩ news.length c (news.flatMap e.enc) hx (flat_len e news)
    (fun j u hu => by
      have hadd : (⟨g, 0, none⟩ : Addr).add j = ⟨g, j, none⟩ := by unfold Addr.add; split <;> simp_all
      rw [hadd, hb.cell j, ← Array.getElem?_toList, hc]; exact hu)
    (fun u hu => by obtain ⟨x, _, hu⟩ := List.mem_flatMap.1 hu; exact e.one x u hu)
    h63 hbytes hbase
    (fun v' w' h1 h2 _ => h v' w' (by unfold OwnK; rw [List.length_append, List.flatMap_append]; exact h1) h2)
end

theorem flat_encI (xs : List Int) : xs.flatMap encI.enc = xs.map (Value.int .i64) := by
  induction xs with
  | nil => rfl
  | cons x l ih => rw [List.flatMap_cons, ih]; rfl
theorem Own.toK {w : World} {B : Nat} {v : Value} {xs : List Int} (h : Own w B v xs) : OwnK encI 2 w B v xs := by
  unfold OwnK; rw [flat_encI]; exact h
theorem OwnK.toOwn {w : World} {B : Nat} {v : Value} {xs : List Int} (h : OwnK encI 2 w B v xs) : Own w B v xs := by
  unfold OwnK at h; rw [flat_encI] at h; exact h

end Go.Proofs.Ytcapmljnhflopaa
