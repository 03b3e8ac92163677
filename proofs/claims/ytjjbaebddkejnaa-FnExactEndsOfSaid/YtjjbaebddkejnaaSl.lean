/- Slices of whole numbers: of the call's own, and read; the laws' functions that mark, hold and compare them. -/
import Derived.Test.YtjjbaebddkejnaaRows
import Derived.Test.YtjjbaebddkejnaaCore
import Derived.OneCell
namespace Go.Proofs.Ytjjbaebddkejnaa
open Go.RowKit

/-- v is a slice of the call's own (in a block from B on) that reads as the numbers xs. -/
def Own (w : World) (B : Nat) (v : Value) (xs : List Int) : Prop := w.ownsRow B 2 1 v xs.length (xs.map (Value.int .i64))

theorem Own.nil (w : World) (B : Nat) : Own w B (.slice none 0 0) [] := World.ownsRow_nil _ _ _ _
theorem Own.same {w w' : World} {B : Nat} {v : Value} {xs : List Int} (h : Own w B v xs) (hs : ∀ g, v.ownBlock = some g → w'.heap[g]? = w.heap[g]?) : Own w' B v xs := by
  obtain ⟨h1, h2⟩ := h
  refine ⟨h1, ?_⟩
  rcases h2 with h2 | ⟨g, cap, cur, rfl, hg, hh, r⟩
  · exact .inl h2
  · exact .inr ⟨g, cap, cur, rfl, hg, (hs g rfl).trans hh, r⟩
theorem Own.lt {w : World} {B : Nat} {v : Value} {xs : List Int} (h : Own w B v xs) {g : Nat} (hg : v.ownBlock = some g) : B ≤ g ∧ g < w.heap.size := World.ownsRow.lt h g hg
theorem Own.below {w w1 : World} {B : Nat} {v : Value} {xs : List Int} (hb : Below w.heap.size w w1) (h : Own w B v xs) : Own w1 B v xs := h.same fun _ hg => hb.block _ (h.lt hg).2
theorem Own.alloc {w : World} {o : Obj} {B : Nat} {v : Value} {xs : List Int} (h : Own w B v xs) : Own (w.alloc o) B v xs := h.below ((Below.refl _ _).alloc (Nat.le_refl _) _)
theorem Own.drew {w : World} {B : Nat} {v : Value} {xs : List Int} (h : Own w B v xs) : Own w.drew B v xs := h
theorem Own.drewN {w : World} {B n : Nat} {v : Value} {xs : List Int} (h : Own w B v xs) : Own (w.drewN n) B v xs := h
theorem Own.put {w : World} {B g i : Nat} {v u : Value} {xs : List Int} (hn : v.ownBlock ≠ some g) (h : Own w B v xs) : Own (w.setCell ⟨g, i, none⟩ u) B v xs :=
  h.same fun k hk => Below.heap_setCell _ _ _ _ (fun e => hn (by rw [hk]; exact congrArg some e))
theorem Own.mono {w : World} {B B' : Nat} {v : Value} {xs : List Int} (hB : B' ≤ B) (h : Own w B v xs) : Own w B' v xs := by
  obtain ⟨h1, h2⟩ := h
  refine ⟨h1, ?_⟩
  rcases h2 with h2 | ⟨g, cap, cur, rfl, hg, r⟩
  · exact .inl h2
  · exact .inr ⟨g, cap, cur, rfl, by omega, r⟩
theorem Own.grown {w w' : World} {B : Nat} {v : Value} {xs : List Int} {row : Option Nat} (hg : w.grownBy w' row) (hne : v.ownBlock ≠ row) (h : Own w B v xs) : Own w' B v xs :=
  h.same fun g hk => hg.block g (h.lt hk).2 (by rw [← hk]; exact hne)
theorem Own.slIn {w : World} {B : Nat} {v : Value} {xs : List Int} (h : Own w B v xs) : SlIn w .i64 v xs := by
  have h0 := h
  obtain ⟨h1, h2⟩ := h
  rcases h2 with ⟨rfl, h2⟩ | ⟨g, cap, cur, rfl, hg, hh, hn, hc, hs, ht⟩
  · exact .inl ⟨rfl, List.eq_nil_of_length_eq_zero h2⟩
  · refine .inr ⟨⟨g, 0, none⟩, cap, rfl, hn, hc, fun j hj => ?_⟩
    have e := World.ownsRow.cells h0 (g := g) rfl j (.int .i64 xs[j]) (by simp [List.getElem?_map, List.getElem?_eq_getElem hj])
    exact e
theorem Own.at {w : World} {B g j : Nat} {v : Value} {xs : List Int} {x : Int} (h : Own w B v xs) (hg : v.ownBlock = some g) (e : xs[j]? = some x) : w.cell? ⟨g, j, none⟩ = some (.int .i64 x) := by
  have q := World.ownsRow.cells h (g := g) hg j (.int .i64 x) (by simp [List.getElem?_map, e])
  rwa [show (⟨g, 0, none⟩ : Addr).add j = ⟨g, j, none⟩ by simp [Addr.add]; exact Eq.symm] at q
/-- A block that holds just the numbers. -/
theorem Own.of_blk {w : World} {B g : Nat} {xs : List Int} {cs : Array Value} (h : Blk w g 2 cs) (hB : B ≤ g) (hc : cs.toList = xs.map (Value.int .i64)) (hl : xs.length ≤ maxLen) :
    Own w B (.slice (some ⟨g, 0, none⟩) xs.length xs.length) xs :=
  ⟨by simp, .inr ⟨g, xs.length, cs, rfl, hB, h, Nat.le_refl _, hl, by rw [← Array.length_toList, hc]; simp, by rw [hc, Nat.mul_one, List.take_of_length_le (by simp)]⟩⟩

/-- n numbers from k on. -/
def runOf (k : Int) (n : Nat) : List Int := (List.range n).map fun (i : Nat) => k + i
theorem runOf_length (k : Int) (n : Nat) : (runOf k n).length = n := by simp [runOf]
theorem runOf_get (k : Int) (n j : Nat) (h : j < (runOf k n).length) : (runOf k n)[j] = k + j := by simp [runOf]

theorem SlIn.form {w : World} {k : IntKind} {v : Value} {xs : List Int} (h : SlIn w k v xs) :
    ∃ ao c, v = .slice ao xs.length c ∧ (0 < xs.length → ∃ a : Addr, ao = some a ∧ ∀ j (h : j < xs.length), w.cell? (a.add j) = some (.int k xs[j])) := by
  rcases h with ⟨rfl, rfl⟩ | ⟨a, c, rfl, _, _, hx⟩
  · exact ⟨none, 0, rfl, fun h => by simp at h⟩
  · exact ⟨some a, c, rfl, fun _ => ⟨a, rfl, hx⟩⟩
theorem SlIn.below {w w1 : World} {k : IntKind} {v : Value} {xs : List Int} (hb : Below w.heap.size w w1) (h : SlIn w k v xs) : SlIn w1 k v xs := by
  rcases h with h | ⟨a, c, rfl, h1, h2, hx⟩
  · exact .inl h
  · refine .inr ⟨a, c, rfl, h1, h2, fun j hj => ?_⟩
    have e := hx j hj
    rw [hb.cell (block_lt_of_cell e :)]
    exact e

theorem SlIn.alloc {w : World} {o : Obj} {k : IntKind} {v : Value} {xs : List Int} (h : SlIn w k v xs) : SlIn (w.alloc o) k v xs := h.below ((Below.refl _ _).alloc (Nat.le_refl _) _)
theorem SlIn.drew {w : World} {k : IntKind} {v : Value} {xs : List Int} (h : SlIn w k v xs) : SlIn w.drew k v xs := h
theorem SlIn.drewN {w : World} {n : Nat} {k : IntKind} {v : Value} {xs : List Int} (h : SlIn w k v xs) : SlIn (w.drewN n) k v xs := h

theorem Below.grownO {B B2 : Nat} {W w w' : World} {u : Value} {ys : List Int} (hg : w.grownBy w' u.ownBlock) (hu : Own w B2 u ys) (hB : B ≤ B2) (hs : B ≤ w.heap.size) (h : Below B W w) : Below B W w' :=
  h.trans ⟨hg.os, hg.tape, hg.output, hg.size, fun k hk => hg.block k (by omega) fun e => by have := (hu.lt e.symm).1; omega⟩
theorem Blk.grown {B2 k : Nat} {w w' : World} {u : Value} {ys : List Int} {E : TypeId} {cs : Array Value} (hg : w.grownBy w' u.ownBlock) (hu : Own w B2 u ys) (hk : k < B2) (h : Blk w k E cs) : Blk w' k E cs :=
  (hg.block k h.lt fun e => by have := (hu.lt e.symm).1; omega).trans h
theorem Own.apart {B B0 B2 : Nat} {w w0 w' : World} {v u : Value} {xs zs ys : List Int} (hg : w.grownBy w' u.ownBlock) (hu : Own w B2 u ys) (h0 : Own w0 B0 v zs) (hB : w0.heap.size ≤ B2) (h : Own w B v xs) : Own w' B v xs :=
  h.same fun g hk => hg.block g (h.lt hk).2 fun e => by have := (hu.lt e.symm).1; have := (h0.lt hk).2; omega

theorem beq_of_all {xs ys : List Int} (hl : xs.length = ys.length) (h : ∀ j (h1 : j < xs.length) (h2 : j < ys.length), xs[j] = ys[j]) : (xs == ys) = true := by
  rw [beq_iff_eq]; exact List.ext_getElem hl h
theorem beq_no_len {xs ys : List Int} (hl : ¬ xs.length = ys.length) : (xs == ys) = false := by
  rw [beq_eq_false_iff_ne]; intro e; exact hl (by rw [e])
theorem beq_no_at {xs ys : List Int} {j : Nat} (h1 : j < xs.length) (h2 : j < ys.length) (h : ¬ xs[j] = ys[j]) : (xs == ys) = false := by
  rw [beq_eq_false_iff_ne]; intro e; subst e; exact h rfl

theorem eq_step {xs ys : List Int} {k : Nat} (h : ∀ j (h1 : j < xs.length) (h2 : j < ys.length), j < k → xs[j] = ys[j]) (h1 : k < xs.length) (h2 : k < ys.length) (he : xs[k] = ys[k]) :
    ∀ j (h1 : j < xs.length) (h2 : j < ys.length), j < k + 1 → xs[j] = ys[j] := by
  intro j k1 k2 hj
  by_cases e : j < k
  · exact h j k1 k2 e
  · obtain rfl : j = k := by omega
    exact he

set_option maxHeartbeats 1000000 in
theorem eqInt64S_any (v u : Value) (xs ys : List Int) (w : World) (hv : SlIn w .i64 v xs) (hu : SlIn w .i64 u ys) (hl1 : xs.length ≤ maxLen) (hl2 : ys.length ≤ maxLen) :
    Calls Try.prog 15 #[v, u] w fun e w' => e = .returned (.bool (xs == ys)) ∧ Below w.heap.size w w' := by
  obtain ⟨ao, c, rfl, ha⟩ := hv.form
  obtain ⟨bo, c', rfl, hb⟩ := hu.form
  have HA := Lib.hid ha
  have HB := Lib.hid hb
  unfold maxLen at hl1 hl2
  clear ha hb hv hu
  by_cases hne : xs.length = ys.length
  · by_cases h0 : xs.length = 0
    · obtain rfl : xs = [] := List.eq_nil_of_length_eq_zero h0
      obtain rfl : ys = [] := List.eq_nil_of_length_eq_zero hne.symm
      clear hne h0
      go_enter Try.func15, Try.ntmps15
      go_wp2
      refine wp_loop_rounds 1 ?_
      rw [rounds_succ]
      go_wp2
      go_ret
      exact ⟨rfl, (by repeat (first | (with_reducible exact Below.refl _ _) | (with_reducible assumption) | (with_reducible refine Below.drew ?_) | (with_reducible refine Below.drewN ?_) | ((with_reducible refine Below.al ?_ ?_); · first | omega | (simp; done) | (simp; omega)) | ((with_reducible refine Below.sc ?_ ?_); · first | omega | (simp; done) | (simp; omega)) | ((with_reducible refine Below.thru hb ?_ ?_); · first | omega | (simp; done) | (simp; omega))))⟩
    · obtain ⟨a, rfl, hxa⟩ := HA.out (by omega)
      obtain ⟨b, rfl, hyb⟩ := HB.out (by omega)
      have HX := Lib.hid hxa
      have HY := Lib.hid hyb
      have HN := Lib.hid hne
      have e1 : xs.length ≤ ys.length := by omega
      have e2 : ys.length ≤ xs.length := by omega
      clear hxa hyb hne HA HB
      go_enter Try.func15, Try.ntmps15
      go_wp2
      go_loopw [5] (fun i wr => ∃ k : Nat, k ≤ xs.length ∧ i = .int .i64 k ∧ Hid (∀ j (h1 : j < xs.length) (h2 : j < ys.length), j < k → xs[j] = ys[j]) ∧ ∃ n, wr = w.drewN n) (fun i _ => xs.length - (intOf i).toNat)
      case atStart => exact ⟨0, Nat.zero_le _, rfl, fun j _ _ h => absurd h (by omega), 0, rfl⟩
      case round =>
        obtain ⟨k, hk, rfl, hall, n, rfl⟩ := hrel
        by_cases hlt : k < xs.length
        · have hlt2 : k < ys.length := by omega
          have i0 : (0 : Int) ≤ (k : Int) := by omega
          have i1 : (k : Int) < (xs.length : Int) := by omega
          have i2 : (k : Int) < (ys.length : Int) := by omega
          have c1 := HX.out k hlt
          have c2 := HY.out k hlt2
          cases hq : (xs[k] != ys[k]) with
          | false =>
            have he : xs[k] = ys[k] := by simpa using hq
            have HE := Lib.hid he
            clear he
            go_wp2_with fail
            go_quiet (fail)
            go_wp2
            go_roundw
            case rel => exact ⟨k + 1, by omega, by go_num, eq_step hall.out hlt hlt2 HE.out, n + nq, rfl⟩
            case measure => simp [intOf]; omega
          | true =>
            have he : ¬ xs[k] = ys[k] := by simpa using hq
            have F := Lib.hid (beq_no_at hlt hlt2 he)
            clear he
            go_wp2_with fail
            go_quiet (fail)
            go_wp2
            go_ret
            exact ⟨ret_bool F.out.symm, (by repeat (first | (with_reducible exact Below.refl _ _) | (with_reducible assumption) | (with_reducible refine Below.drew ?_) | (with_reducible refine Below.drewN ?_) | ((with_reducible refine Below.al ?_ ?_); · first | omega | (simp; done) | (simp; omega)) | ((with_reducible refine Below.sc ?_ ?_); · first | omega | (simp; done) | (simp; omega)) | ((with_reducible refine Below.thru hb ?_ ?_); · first | omega | (simp; done) | (simp; omega))))⟩
        · have F := Lib.hid (beq_of_all HN.out (fun j h1 h2 => hall.out j h1 h2 (by omega)))
          go_wp2
          go_ret
          exact ⟨ret_bool F.out.symm, (by repeat (first | (with_reducible exact Below.refl _ _) | (with_reducible assumption) | (with_reducible refine Below.drew ?_) | (with_reducible refine Below.drewN ?_) | ((with_reducible refine Below.al ?_ ?_); · first | omega | (simp; done) | (simp; omega)) | ((with_reducible refine Below.sc ?_ ?_); · first | omega | (simp; done) | (simp; omega)) | ((with_reducible refine Below.thru hb ?_ ?_); · first | omega | (simp; done) | (simp; omega))))⟩
  · have F := Lib.hid (beq_no_len hne)
    go_enter Try.func15, Try.ntmps15
    go_wp2
    go_ret
    exact ⟨ret_bool F.out.symm, (by repeat (first | (with_reducible exact Below.refl _ _) | (with_reducible assumption) | (with_reducible refine Below.drew ?_) | (with_reducible refine Below.drewN ?_) | ((with_reducible refine Below.al ?_ ?_); · first | omega | (simp; done) | (simp; omega)) | ((with_reducible refine Below.sc ?_ ?_); · first | omega | (simp; done) | (simp; omega)) | ((with_reducible refine Below.thru hb ?_ ?_); · first | omega | (simp; done) | (simp; omega))))⟩

/-- Only block g may have changed, and it stands. -/
structure Only (g : Nat) (w w' : World) : Prop where
  os : w'.os = w.os
  tape : w'.tape = w.tape
  output : w'.output = w.output
  size : w'.heap.size = w.heap.size
  block : ∀ k, k ≠ g → w'.heap[k]? = w.heap[k]?
theorem Only.refl (g : Nat) (w : World) : Only g w w := ⟨rfl, rfl, rfl, rfl, fun _ _ => rfl⟩
theorem Only.set {g i : Nat} {w w' : World} {u : Value} (h : Only g w w') : Only g w (w'.setCell ⟨g, i, none⟩ u) :=
  ⟨h.os, h.tape, h.output, by rw [← h.size]; simp [World.setCell], fun k hk => (Below.heap_setCell _ _ _ _ hk).trans (h.block k hk)⟩
theorem Only.grown {g : Nat} {w w' : World} (h : Only g w w') : w.grownBy w' (some g) := ⟨h.os, h.tape, h.output, by rw [h.size]; exact Nat.le_refl _, fun k _ hn => h.block k (fun e => hn (by rw [e]))⟩

/-- The first j cells hold the numbers from k on. -/
def fillTo (cs : Array Value) (k : Int) : Nat → Array Value
  | 0 => cs
  | j + 1 => (fillTo cs k j).setIfInBounds j (.int .i64 (k + j))
theorem fillTo_size (cs : Array Value) (k : Int) (j : Nat) : (fillTo cs k j).size = cs.size := by
  induction j with
  | zero => rfl
  | succ j ih => simp [fillTo, ih]
theorem fillTo_get (cs : Array Value) (k : Int) (j i : Nat) (hi : i < j) (hs : i < cs.size) : (fillTo cs k j)[i]? = some (.int .i64 (k + i)) := by
  induction j with
  | zero => omega
  | succ j ih =>
    simp only [fillTo, Array.getElem?_setIfInBounds, fillTo_size]
    by_cases e : j = i
    · subst e; simp [hs]
    · rw [if_neg e]; exact ih (by omega)
theorem fillTo_take (cs : Array Value) (k : Int) (n : Nat) (hn : n ≤ cs.size) : (fillTo cs k n).toList.take n = (runOf k n).map (Value.int .i64) := by
  apply List.ext_getElem?
  intro i
  by_cases hi : i < n
  · have e := fillTo_get cs k n i hi (by omega)
    rw [← Array.getElem?_toList] at e
    rw [List.getElem?_take, if_pos hi, e]
    simp [runOf, hi]
  · rw [List.getElem?_take, if_neg hi]
    simp [runOf, hi]

set_option maxHeartbeats 1000000 in
theorem markInt64S_any (v : Value) (xs : List Int) (B : Nat) (k : Int) (w : World) (h : Own w B v xs) (hl : xs.length ≤ 1000000000000000000) (hk0 : 0 ≤ k) (hk : k ≤ 1000000000000000000) :
    Calls Try.prog 20 #[v, .int .i64 k] w fun e w' => e = .returned (.int .i64 (k + xs.length)) ∧ (Own w' B v (runOf k xs.length) ∧ w.grownBy w' v.ownBlock ∧ w'.heap.size = w.heap.size) := by
  obtain ⟨h1, h2⟩ := h
  rcases h2 with ⟨rfl, h2⟩ | ⟨g, cap, cur, rfl, hg, hh, hn, hc, hs, ht⟩
  · obtain rfl : xs = [] := List.eq_nil_of_length_eq_zero h2
    clear h1 h2
    have O := Own.nil w B
    go_enter Try.func20, Try.ntmps20
    go_wp2
    refine wp_loop_rounds 1 ?_
    rw [rounds_succ]
    go_wp2
    go_ret
    exact ⟨ret_int (by simp), by simpa [runOf] using O, ⟨rfl, rfl, rfl, Nat.le_refl _, fun _ _ _ => rfl⟩, rfl⟩
  · have hB : Blk w g 2 cur := hh
    have HT := Lib.hid ht
    have HS := Lib.hid hs
    have hs' : xs.length ≤ cur.size := by rw [hs]; omega
    clear hh ht hs h1
    go_enter Try.func20, Try.ntmps20
    go_wp2
    go_loopw [1, 5] (fun q i wr => ∃ j : Nat, j ≤ xs.length ∧ i = .int .i64 j ∧ q = .int .i64 (k + j) ∧ Blk wr g 2 (fillTo cur k j) ∧ Only g w wr) (fun _ i _ => xs.length - (intOf i).toNat)
    case atStart => exact ⟨0, Nat.zero_le _, rfl, by simp, hB, Only.refl _ _⟩
    case round =>
      obtain ⟨j, hj, rfl, rfl, hblk, hon⟩ := hrel
      by_cases hlt : j < xs.length
      · have hjs : j < (fillTo cur k j).size := by rw [fillTo_size]; omega
        have c1 := hblk.at (i := j) (Array.getElem?_eq_getElem hjs)
        have f1 := hblk.free j
        have C := Lib.hid (And.intro hblk hon)
        clear hblk hon
        go_wp2
        go_roundw
        case rel => exact ⟨j + 1, by omega, by go_num, by go_num, C.out.1.set, C.out.2.set⟩
        case measure => simp [intOf]; omega
      · go_wp2
        go_ret
        obtain rfl : j = xs.length := by omega
        exact ⟨rfl, ⟨by simp, .inr ⟨g, cap, _, by rw [runOf_length], hg, hblk, by rw [runOf_length]; exact hn, hc, by rw [fillTo_size]; exact HS.out, by rw [runOf_length, Nat.mul_one]; exact fillTo_take _ _ _ hs'⟩⟩, hon.grown, hon.size⟩

set_option maxHeartbeats 1000000 in
theorem heldInt64S_any (v : Value) (n : Nat) (k : Int) (w : World) (h : SlIn w .i64 v (runOf k n)) (hl : n ≤ 1000000000000000000) (hk0 : 0 ≤ k) (hk : k ≤ 1000000000000000000) :
    Calls Try.prog 21 #[v, .int .i64 k] w fun e w' => e = .returned (.int .i64 (k + n)) ∧ w = w' := by
  obtain ⟨ao, c, rfl, ha0⟩ := h.form
  have ha : 0 < n → ∃ a : Addr, ao = some a ∧ ∀ j, j < n → w.cell? (a.add j) = some (.int .i64 (k + j)) := fun h0 => by
    obtain ⟨a, e, hx⟩ := ha0 (by rw [runOf_length]; exact h0)
    refine ⟨a, e, fun j hj => ?_⟩
    rw [hx j (by rw [runOf_length]; exact hj), runOf_get]
  rw [runOf_length]
  clear h ha0
  by_cases h0 : n = 0
  · subst h0
    clear ha
    go_enter Try.func21, Try.ntmps21
    go_wp2
    refine wp_loop_rounds 1 ?_
    rw [rounds_succ]
    go_wp2
    go_ret
    exact ⟨ret_int (by simp), rfl⟩
  · obtain ⟨a, rfl, hx⟩ := ha (by omega)
    have HX := Lib.hid hx
    clear ha hx
    go_enter Try.func21, Try.ntmps21
    go_wp2
    go_loop [1, 5] (fun q i => ∃ j : Nat, j ≤ n ∧ i = .int .i64 j ∧ q = .int .i64 (k + j)) (fun _ i => n - (intOf i).toNat)
    case atStart => exact ⟨0, Nat.zero_le _, rfl, by simp⟩
    case round =>
      obtain ⟨j, hj, rfl, rfl⟩ := hrel
      by_cases hlt : j < n
      · have c1 := HX.out j hlt
        go_wp2
        go_round
        case rel => exact ⟨j + 1, by omega, by go_num, by go_num⟩
        case measure => simp [intOf]; omega
      · go_wp2
        go_ret
        obtain rfl : j = n := by omega
        exact ⟨rfl, rfl⟩

end Go.Proofs.Ytjjbaebddkejnaa
