import Derived.Test.YtjpkopnkfpgahaaQ6
import Derived.Test.YtjpkopnkfpgahaaQ12
import Derived.Test.YtjpkopnkfpgahaaQ14
/- Slices of slices of points. -/
namespace Go.Proofs.Ytjpkopnkfpgahaa
open Go.RowKit

/-- A slice as it lies in a cell. -/
structure Sl where
  ao : Option Addr
  n : Nat
  c : Nat
abbrev Sl.v (s : Sl) : Value := .slice s.ao s.n s.c
def encV : Enc Sl := ⟨1, fun x => [x.v], fun _ => rfl, by decide, fun x u hu => by simp at hu; subst hu; rfl⟩
theorem infoSl : (Try.prog.info? 35).map (fun i => (i.zero, i.size, i.bytes)) = some (some (.slice none 0 0), 1, 24) := by kernel_rfl

theorem OwnK.ne_own {α : Type} {e : Enc α} {E : TypeId} {w : World} {B B' : Nat} {v u : Value} {xs : List α} {ys : List Int} (h : OwnK e E w B v xs) (h2 : Own w B' u ys) (hE : E ≠ 2) :
    ∀ g, v.ownBlock = some g → u.ownBlock ≠ some g := by
  intro g hg hu
  obtain ⟨_, h1⟩ := h
  obtain ⟨_, h2⟩ := h2
  rcases h1 with ⟨rfl, _⟩ | ⟨k, cap, cur, rfl, _, hh, _⟩
  · cases hg
  · rcases h2 with ⟨rfl, _⟩ | ⟨k2, cap2, cur2, rfl, _, hh2, _⟩
    · cases hu
    · simp only [Value.ownBlock, Option.some.injEq] at hg hu
      subst hg hu
      have e := hh.symm.trans hh2
      simp only [Option.some.injEq, Obj.cells.injEq] at e
      exact hE e.2.1

/-- The rows lie in blocks of their own, from B on. -/
def RowS (w : World) (B : Nat) : List Sl → List (List Nat) → Prop
  | [], [] => True
  | s :: vs, c :: cs => Own w B s.v (c.map Int.ofNat) ∧ (∀ t ∈ vs, ∀ g, s.v.ownBlock = some g → t.v.ownBlock ≠ some g) ∧ RowS w B vs cs
  | [], _ :: _ => False
  | _ :: _, [] => False
theorem RowS.len {w : World} {B : Nat} : ∀ {vs : List Sl} {cs : List (List Nat)}, RowS w B vs cs → vs.length = cs.length
  | [], [], _ => rfl
  | _ :: _, _ :: _, h => by simp [RowS.len h.2.2]
  | [], _ :: _, h => h.elim
  | _ :: _, [], h => h.elim
theorem RowS.same {w w' : World} {B : Nat} : ∀ {vs : List Sl} {cs : List (List Nat)}, RowS w B vs cs → (∀ t ∈ vs, ∀ g, t.v.ownBlock = some g → w'.heap[g]? = w.heap[g]?) → RowS w' B vs cs
  | [], [], _, _ => trivial
  | _ :: _, _ :: _, h, hs => ⟨h.1.same (hs _ (by simp)), h.2.1, h.2.2.same fun t ht => hs t (by simp [ht])⟩
  | [], _ :: _, h, _ => h.elim
  | _ :: _, [], h, _ => h.elim
theorem RowS.lt {w : World} {B : Nat} : ∀ {vs : List Sl} {cs : List (List Nat)}, RowS w B vs cs → ∀ t ∈ vs, ∀ g, t.v.ownBlock = some g → B ≤ g ∧ g < w.heap.size
  | [], [], _ => fun t ht => by cases ht
  | _ :: _, _ :: _, h => fun t ht g hg => by
    rcases List.mem_cons.1 ht with rfl | ht
    · exact h.1.lt hg
    · exact RowS.lt h.2.2 t ht g hg
  | [], _ :: _, h => h.elim
  | _ :: _, [], h => h.elim
theorem RowS.below {w w' : World} {B : Nat} {vs : List Sl} {cs : List (List Nat)} (h : RowS w B vs cs) (hb : Below w.heap.size w w') : RowS w' B vs cs :=
  h.same fun t ht g hg => hb.block _ (h.lt t ht g hg).2
theorem RowS.mono {w : World} {B B' : Nat} (hB : B' ≤ B) : ∀ {vs : List Sl} {cs : List (List Nat)}, RowS w B vs cs → RowS w B' vs cs
  | [], [], _ => trivial
  | _ :: _, _ :: _, h => ⟨h.1.mono hB, h.2.1, RowS.mono hB h.2.2⟩
  | [], _ :: _, h => h.elim
  | _ :: _, [], h => h.elim
theorem RowS.snoc {w : World} {B : Nat} {s : Sl} {c : List Nat} (hs : Own w B s.v (c.map Int.ofNat)) : ∀ {vs : List Sl} {cs : List (List Nat)}, RowS w B vs cs →
    (∀ t ∈ vs, ∀ g, t.v.ownBlock = some g → s.v.ownBlock ≠ some g) → RowS w B (vs ++ [s]) (cs ++ [c])
  | [], [], _, _ => ⟨hs, fun t ht => (by cases ht), trivial⟩
  | a :: vs, _ :: _, h, hd => ⟨h.1, fun t ht g hg => by
      rcases List.mem_append.1 ht with ht | ht
      · exact h.2.1 t ht g hg
      · simp at ht
        subst ht
        exact hd a (by simp) g hg, RowS.snoc hs h.2.2 fun t ht => hd t (by simp [ht])⟩
  | [], _ :: _, h, _ => h.elim
  | _ :: _, [], h, _ => h.elim
/-- RowS stay when a slice of another type grows. -/
theorem RowS.grown {α : Type} {e : Enc α} {E : TypeId} {w w' : World} {B B' : Nat} {v : Value} {xs : List α} {vs : List Sl} {cs : List (List Nat)} (hg : w.grownBy w' v.ownBlock) (hv : OwnK e E w B' v xs) (hE : E ≠ 2) : RowS w B vs cs → RowS w' B vs cs := by
  intro h
  have key : ∀ {vs : List Sl} {cs : List (List Nat)}, RowS w B vs cs → ∀ t ∈ vs, ∀ g, t.v.ownBlock = some g → v.ownBlock ≠ some g := by
    intro vs
    induction vs with
    | nil => intro cs _ t ht; cases ht
    | cons a vs ih =>
      intro cs h t ht g hgt
      cases cs with
      | nil => exact h.elim
      | cons c cs =>
        rcases List.mem_cons.1 ht with rfl | ht
        · exact fun e => hv.ne_own h.1 hE g e hgt
        · exact ih h.2.2 t ht g hgt
  exact h.same fun t ht g hgt => hg.block g (h.lt t ht g hgt).2 fun e => key h t ht g hgt e.symm
/-- RowS below m stay when a row from m on grows. -/
theorem RowS.apart {w w' : World} {B m : Nat} {u : Value} {xs : List Int} {vs : List Sl} {cs : List (List Nat)} (hg : w.grownBy w' u.ownBlock) (hu : Own w m u xs) (hm : ∀ t ∈ vs, ∀ g, t.v.ownBlock = some g → g < m) (h : RowS w B vs cs) : RowS w' B vs cs :=
  h.same fun t ht g hgt => hg.block g (h.lt t ht g hgt).2 fun e => by
    have := (hu.lt e.symm).1
    have := hm t ht g hgt
    omega
theorem RowS.put {w : World} {B b i : Nat} {u : Value} {vs : List Sl} {cs : List (List Nat)} (hn : ∀ t ∈ vs, t.v.ownBlock ≠ some b) (h : RowS w B vs cs) : RowS (w.setCell ⟨b, i, none⟩ u) B vs cs :=
  h.same fun t ht g hg => Below.heap_setCell _ _ _ _ (fun e => hn t ht (by rw [hg, e]))
theorem RowS.ne_blk {w : World} {B b : Nat} {F : TypeId} {cells : Array Value} (hb : Blk w b F cells) (hF : F ≠ 2) : ∀ {vs : List Sl} {cs : List (List Nat)}, RowS w B vs cs → ∀ t ∈ vs, t.v.ownBlock ≠ some b
  | [], [], _ => fun t ht => by cases ht
  | _ :: _, _ :: _, h => fun t ht => by
    rcases List.mem_cons.1 ht with rfl | ht
    · exact h.1.toK.ne_blk hb (Ne.symm hF)
    · exact RowS.ne_blk hb hF h.2.2 t ht
  | [], _ :: _, h => h.elim
  | _ :: _, [], h => h.elim

theorem foldl_min_le (l : List Int) (a : Int) : l.foldl min a ≤ a ∧ ∀ x ∈ l, l.foldl min a ≤ x := by
  induction l generalizing a with
  | nil => exact ⟨Int.le_refl _, fun x hx => by cases hx⟩
  | cons y l ih =>
    simp only [List.foldl_cons]
    obtain ⟨h1, h2⟩ := ih (min a y)
    refine ⟨by omega, fun x hx => ?_⟩
    rcases List.mem_cons.1 hx with rfl | hx
    · omega
    · exact h2 x hx
theorem foldl_min_mem (l : List Int) (a : Int) : l.foldl min a = a ∨ l.foldl min a ∈ l := by
  induction l generalizing a with
  | nil => exact .inl rfl
  | cons y l ih =>
    simp only [List.foldl_cons]
    rcases ih (min a y) with h | h
    · rw [h]
      by_cases e : a ≤ y
      · exact .inl (by omega)
      · exact .inr (by rw [show min a y = y by omega]; simp)
    · exact .inr (List.mem_cons_of_mem _ h)
theorem min_cyc {g : Nat → Nat} {n i : Nat} (hg : ∀ a, a < n → g a < n) (hj : Inj g n) (hi : i < n) : (minL ((cyL g i n).map Int.ofNat) ((cyL g i n).map Int.ofNat).length == (i : Int)) = isMin g i n := by
  have hp := per_spec hg hj hi
  have h0 : i ∈ cyL g i n := cyK_mem.2 ⟨0, hp.one, rfl⟩
  have hlen : 0 < ((cyL g i n).map Int.ofNat).length := by rw [List.length_map]; exact List.length_pos_of_mem h0
  have hd : ((cyL g i n).map Int.ofNat).getD 0 0 ∈ (cyL g i n).map Int.ofNat := by
    rw [List.getD, List.getElem?_eq_getElem hlen]
    exact List.getElem_mem hlen
  generalize hm : minL ((cyL g i n).map Int.ofNat) ((cyL g i n).map Int.ofNat).length = m
  unfold minL at hm
  rw [List.take_length] at hm
  have hle := foldl_min_le ((cyL g i n).map Int.ofNat) (((cyL g i n).map Int.ofNat).getD 0 0)
  have hmem := foldl_min_mem ((cyL g i n).map Int.ofNat) (((cyL g i n).map Int.ofNat).getD 0 0)
  rw [hm] at hle hmem
  have hmem : m ∈ (cyL g i n).map Int.ofNat := by
    rcases hmem with h | h
    · rw [h]; exact hd
    · exact h
  have hi2 : m ≤ (i : Int) := hle.2 _ (List.mem_map.2 ⟨i, h0, rfl⟩)
  obtain ⟨q, hq, rfl⟩ := List.mem_map.1 hmem
  cases hb : isMin g i n with
  | true =>
    have := List.all_eq_true.1 hb q hq
    simp only [decide_eq_true_eq] at this
    rw [beq_iff_eq]
    show ((q : Nat) : Int) = (i : Int)
    have hi3 : ((q : Nat) : Int) ≤ (i : Int) := hi2
    omega
  | false =>
    rw [beq_eq_false_iff_ne]
    intro e
    have e2 : ((q : Nat) : Int) = (i : Int) := e
    have : isMin g i n = true := List.all_eq_true.2 fun x hx => by
      have := hle.2 _ (List.mem_map.2 ⟨x, hx, rfl⟩)
      have h3 : ((q : Nat) : Int) ≤ ((x : Nat) : Int) := this
      simp only [decide_eq_true_eq]
      omega
    rw [hb] at this
    cases this

theorem flat_iff {g : Nat → Nat} {n : Nat} (hg : ∀ a, a < n → g a < n) (hj : Inj g n) (k : Nat) (hk : k ≤ n) (x : Nat) : x ∈ (cysL g n k).flatten ↔ ∃ j, j < k ∧ On g j x := by
  induction k with
  | zero => simp [cysL]
  | succ k ih =>
    have ih := ih (by omega)
    simp only [cysL]
    constructor
    · intro h
      split at h
      · rw [List.flatten_append, List.mem_append] at h
        rcases h with h | h
        · obtain ⟨j, h1, h2⟩ := ih.1 h
          exact ⟨j, by omega, h2⟩
        · simp at h
          exact ⟨k, by omega, (On.iff hg hj (by omega)).2 h⟩
      · obtain ⟨j, h1, h2⟩ := ih.1 h
        exact ⟨j, by omega, h2⟩
    · rintro ⟨j, h1, h2⟩
      by_cases e : j < k
      · have := ih.2 ⟨j, e, h2⟩
        split
        · rw [List.flatten_append]; exact List.mem_append_left _ this
        · exact this
      · obtain rfl : j = k := by omega
        split
        · rw [List.flatten_append]
          exact List.mem_append_right _ (by simpa using (On.iff hg hj (by omega)).1 h2)
        · rename_i hm
          have hm' : ¬ ∀ x, On g j x → j ≤ x := fun h => hm ((isMin_iff hg hj (by omega)).2 h)
          obtain ⟨y, hy⟩ := Classical.not_forall.1 hm'
          have hy1 : On g j y := Classical.byContradiction fun h => hy (fun h' => absurd h' h)
          have hy2 : y < j := by
            by_cases h : j ≤ y
            · exact absurd (fun _ => h) hy
            · omega
          exact ih.2 ⟨y, hy2, (hy1.symm hg hj (by omega)).trans h2⟩
theorem met_min {g : Nat → Nat} {n : Nat} (hg : ∀ a, a < n → g a < n) (hj : Inj g n) {k : Nat} (hk : k < n) : decide (k ∈ (cysL g n k).flatten) = !isMin g k n := by
  cases h : isMin g k n with
  | true =>
    apply decide_eq_false
    intro hm
    obtain ⟨j, h1, h2⟩ := (flat_iff hg hj k (by omega) k).1 hm
    have := (isMin_iff hg hj hk).1 h j (h2.symm hg hj (by omega))
    omega
  | false =>
    apply decide_eq_true
    have hm' : ¬ ∀ x, On g k x → k ≤ x := fun h' => by rw [(isMin_iff hg hj hk).2 h'] at h; cases h
    obtain ⟨y, hy⟩ := Classical.not_forall.1 hm'
    have hy1 : On g k y := Classical.byContradiction fun h => hy (fun h' => absurd h' h)
    have hy2 : y < k := by
      by_cases h : k ≤ y
      · exact absurd (fun _ => h) hy
      · omega
    exact (flat_iff hg hj k (by omega) k).2 ⟨y, hy2, hy1.symm hg hj hk⟩
/-- Whether the j-th point is met already: only when the cycle is through. -/
theorem met_in {g : Nat → Nat} {n : Nat} (hg : ∀ a, a < n → g a < n) (hj : Inj g n) {k j : Nat} (hk : k < n) (hm : isMin g k n = true) (hjp : j ≤ per g k n) :
    decide (it g j k ∈ (cysL g n k).flatten ++ cyK g k j) = decide (j = per g k n) := by
  have hp := per_spec hg hj hk
  by_cases e : j = per g k n
  · rw [decide_eq_true e]
    apply decide_eq_true
    apply List.mem_append_right
    rw [e, hp.ret]
    exact cyK_mem.2 ⟨0, hp.one, rfl⟩
  · rw [decide_eq_false e]
    apply decide_eq_false
    intro h
    rcases List.mem_append.1 h with h | h
    · obtain ⟨i, h1, h2⟩ := (flat_iff hg hj k (by omega) _).1 h
      have h3 : On g k i := On.trans ⟨j, rfl⟩ (h2.symm hg hj (by omega))
      have := (isMin_iff hg hj hk).1 hm i h3
      omega
    · obtain ⟨i, h1, h2⟩ := cyK_mem.1 h
      have := hp.no.inj hg hj hk i j (by omega) (by omega) h2
      omega

end Go.Proofs.Ytjpkopnkfpgahaa

/- The line of a level: both walks. -/
namespace Go.Proofs.Ytjpkopnkfpgahaa
open Go.RowKit
set_option linter.unusedSimpArgs false

def isLn (n c d : Nat) : Bool := isPr n c d && decide (nrmN n c d = (c, d))
/-- One row of the line: the normal pairs with the first rest c, the second one less than d. -/
def lnRow (n c : Nat) : Nat → List (Nat × Nat)
  | 0 => []
  | d + 1 => lnRow n c d ++ (if isLn n c d then [(c, d)] else [])
def lnTo (n : Nat) : Nat → List (Nat × Nat)
  | 0 => []
  | c + 1 => lnTo n c ++ lnRow n c n
def lineL (n : Nat) : List (Nat × Nat) := lnTo n n
theorem lnRow_len (n c d : Nat) : (lnRow n c d).length ≤ d := by
  induction d with
  | zero => exact Nat.le_refl _
  | succ d ih =>
    simp only [lnRow, List.length_append]
    split <;> simp <;> omega
theorem lnTo_len (n c : Nat) : (lnTo n c).length ≤ c * n := by
  induction c with
  | zero => simp [lnTo]
  | succ c ih =>
    simp only [lnTo, List.length_append, Nat.add_mul, Nat.one_mul]
    have := lnRow_len n c n
    omega
theorem lnRow_mem {n c d : Nat} {p : Nat × Nat} : p ∈ lnRow n c d ↔ p.1 = c ∧ p.2 < d ∧ isLn n p.1 p.2 = true := by
  induction d with
  | zero => simp [lnRow]
  | succ d ih =>
    simp only [lnRow, List.mem_append, ih]
    constructor
    · rintro (⟨h1, h2, h3⟩ | h)
      · exact ⟨h1, by omega, h3⟩
      · split at h
        · rename_i hl
          simp at h
          subst h
          exact ⟨rfl, Nat.lt_succ_self _, hl⟩
        · cases h
    · rintro ⟨h1, h2, h3⟩
      by_cases e : p.2 < d
      · exact .inl ⟨h1, e, h3⟩
      · right
        obtain ⟨x, y⟩ := p
        simp only at h1 h2 h3 e
        obtain rfl : y = d := by omega
        subst h1
        rw [if_pos h3]
        simp
theorem lnTo_mem {n c : Nat} {p : Nat × Nat} : p ∈ lnTo n c ↔ p.1 < c ∧ p.2 < n ∧ isLn n p.1 p.2 = true := by
  induction c with
  | zero => simp [lnTo]
  | succ c ih =>
    simp only [lnTo, List.mem_append, ih, lnRow_mem]
    constructor
    · rintro (⟨h1, h2, h3⟩ | ⟨h1, h2, h3⟩)
      · exact ⟨by omega, h2, h3⟩
      · exact ⟨by omega, h2, h3⟩
    · rintro ⟨h1, h2, h3⟩
      by_cases e : p.1 < c
      · exact .inl ⟨e, h2, h3⟩
      · exact .inr ⟨by omega, h2, h3⟩

def encP : Enc (Nat × Nat) := ⟨2, fun x => [.int .i64 (x.1 : Int), .int .i64 (x.2 : Int)], fun _ => rfl, by decide, fun x u hu => by simp at hu; rcases hu with rfl | rfl <;> rfl⟩
theorem infoP : (Try.prog.info? 98).map (fun i => (i.zero, i.size, i.bytes)) = some (some (.agg #[.int .i64 0, .int .i64 0]), 2, 16) := by kernel_rfl
abbrev OwnP (w : World) (B : Nat) (v : Value) (xs : List (Nat × Nat)) : Prop := OwnK encP 98 w B v xs
/-- The pairs in a slice of the call's own. -/
def GivesP (xs : List (Nat × Nat)) (w : World) (e : Ending) (w' : World) : Prop := ∃ v, e = .returned v ∧ OwnK encP 98 w' w.heap.size v xs ∧ Below w.heap.size w w'

set_option maxRecDepth 8000 in
set_option maxHeartbeats 2000000 in
theorem line_any (n : Nat) (w : World) (hn : 1 ≤ n ∧ n ≤ 60) :
    Calls Try.prog 34 #[.int .i64 (n : Int)] w (GivesP (lineL n) w) := by
  have HINF := Lib.hid (info_parts infoP)
  go_enter Try.func34, Try.ntmps34
  go_wp2_with fail
  refine forget (fun W_ => OwnK encP 98 W_ w.heap.size (.slice (some ⟨w.heap.size, 0, none⟩) 0 0) [] ∧ Below w.heap.size w W_) ⟨OwnK.of_blk (xs := []) (by repeat (first | (with_reducible assumption) | ((with_reducible refine Blk.new ?_); · first | omega | (simp; done) | (simp; omega)) | (with_reducible apply Blk.set4) | (with_reducible apply Blk.set3) | (with_reducible apply Blk.set2) | ((with_reducible refine Blk.put ?_ ?_); · first | omega | (simp; omega)) | (with_reducible refine Blk.old ?_) | (with_reducible refine Blk.drew ?_) | (with_reducible refine Blk.drewN ?_) | ((with_reducible refine Blk.below hb ?_ ?_); · first | omega | (simp; done) | (simp; omega)))) (Nat.le_refl _) rfl (by simp [maxLen]), (by repeat (first | (with_reducible exact Below.refl _ _) | (with_reducible assumption) | (with_reducible refine Below.drew ?_) | (with_reducible refine Below.drewN ?_) | ((with_reducible refine Below.al ?_ ?_); · first | omega | (simp; done) | (simp; omega)) | ((with_reducible refine Below.sc ?_ ?_); · first | omega | (simp; done) | (simp; omega)) | ((with_reducible refine Below.thru hb ?_ ?_); · first | omega | (simp; done) | (simp; omega))))⟩ ?_
  rintro w0 ⟨O0, k0⟩
  go_loopw [3, 9] (fun v cc wr => ∃ c : Nat, c ≤ n ∧ cc = .int .i64 c ∧ OwnK encP 98 wr w.heap.size v (lnTo n c) ∧ Below w.heap.size w wr) (fun _ cc _ => n - (intOf cc).toNat)
  case atStart => exact ⟨0, Nat.zero_le _, rfl, O0, k0⟩
  case round =>
    clear O0 k0
    obtain ⟨c, hc, rfl, O, kwr⟩ := hrel
    obtain ⟨vo, vc, rfl⟩ := O.len
    by_cases hlt : c < n
    · have HX := Lib.hid (show lnTo n (c + 1) = lnTo n c ++ lnRow n c n from rfl)
      have hlen := lnTo_len n c
      have hcn : c * n ≤ 60 * 60 := Nat.mul_le_mul (by omega) (by omega)
      go_wp2_with fail
      go_loopw [3, 13] (fun v dd wr => ∃ d : Nat, d ≤ n ∧ dd = .int .i64 d ∧ OwnK encP 98 wr w.heap.size v (lnTo n c ++ lnRow n c d) ∧ Below w.heap.size w wr) (fun _ dd _ => n - (intOf dd).toNat)
      case atStart => exact ⟨0, Nat.zero_le _, rfl, by rw [show lnRow n c 0 = [] from rfl, List.append_nil]; exact O, kwr⟩
      case round =>
        clear O kwr
        obtain ⟨d, hd, rfl, O, kwr⟩ := hrel
        obtain ⟨vo, vc, rfl⟩ := O.len
        have swr := kwr.size
        by_cases hdl : d < n
        · have hl2 : (lnTo n c ++ lnRow n c d).length ≤ 3660 := by rw [List.length_append]; have := lnRow_len n c d; omega
          have HY := Lib.hid (show lnTo n c ++ lnRow n c (d + 1) = (lnTo n c ++ lnRow n c d) ++ (if isLn n c d then [(c, d)] else []) by rw [List.append_assoc]; rfl)
          generalize lnTo n c ++ lnRow n c d = L at *
          obtain ⟨N, hN⟩ : ∃ N, L.length = N := ⟨_, rfl⟩
          rw [hN] at hl2
          replace hN := Lib.hid hN
          by_cases hp : Nat.gcd (Nat.gcd c d) n = 1
          rotate_left
          · have HP := Lib.hid (fun w' : World => isPair_any n c d w' hn hlt hdl)
            rw [decide_eq_false hp] at HP
            have HI := Lib.hid (show isLn n c d = false by unfold isLn isPr; rw [decide_eq_false hp, Bool.false_and])
            clear hp
            go_wp2_with fail
            refine forget (fun W_ => Below w.heap.size w W_ ∧ Blk W_ (wr.heap.size) 98 (pcs (c, d)) ∧ OwnP W_ (w.heap.size) (.slice vo L.length vc) (L)) ⟨(by repeat (first | (with_reducible exact Below.refl _ _) | (with_reducible assumption) | (with_reducible refine Below.drew ?_) | (with_reducible refine Below.drewN ?_) | ((with_reducible refine Below.al ?_ ?_); · first | omega | (simp; done) | (simp; omega)) | ((with_reducible refine Below.sc ?_ ?_); · first | omega | (simp; done) | (simp; omega)) | ((with_reducible refine Below.thru hb ?_ ?_); · first | omega | (simp; done) | (simp; omega)))), (by repeat (first | (with_reducible assumption) | ((with_reducible refine Blk.new ?_); · first | omega | (simp; done) | (simp; omega)) | (with_reducible apply Blk.set4) | (with_reducible apply Blk.set3) | (with_reducible apply Blk.set2) | ((with_reducible refine Blk.put ?_ ?_); · first | omega | (simp; omega)) | (with_reducible refine Blk.old ?_) | (with_reducible refine Blk.drew ?_) | (with_reducible refine Blk.drewN ?_) | ((with_reducible refine Blk.below hb ?_ ?_); · first | omega | (simp; done) | (simp; omega)))), (by repeat (first | (with_reducible assumption) | (with_reducible refine Own.drew ?_) | (with_reducible refine Own.drewN ?_) | (with_reducible refine Own.alloc ?_) | (with_reducible refine OwnK.drew ?_) | (with_reducible refine OwnK.drewN ?_) | (with_reducible refine OwnK.alloc ?_) | ((with_reducible refine OwnK.put ?_ ?_); · first | omega | (simp; done) | (simp; omega)) | ((with_reducible refine Own.below hb ?_)) | ((with_reducible refine OwnK.below hb ?_))))⟩ ?_
            rintro w3 ⟨kw3, B3, O3⟩
            have sw3 := kw3.size
            have lB3 := B3.lt
            obtain ⟨b30, b31⟩ := B3.later2
            clear O kwr
            refine wp_region_calm (by kernel_rfl) (by kernel_rfl) ?_
            repeat (go_big_quiet_step (first | (go_at_call 59; with_reducible exact Calls.calm (HP.out _))))
            refine wpQuiet_nil ?_
            rintro w4 ⟨⟨_, hb⟩, rfl⟩
            have B4 : Blk w4 (wr.heap.size) 98 (pcs (c, d)) := (by repeat (first | (with_reducible assumption) | ((with_reducible refine Blk.new ?_); · first | omega | (simp; done) | (simp; omega)) | (with_reducible apply Blk.set4) | (with_reducible apply Blk.set3) | (with_reducible apply Blk.set2) | ((with_reducible refine Blk.put ?_ ?_); · first | omega | (simp; omega)) | (with_reducible refine Blk.old ?_) | (with_reducible refine Blk.drew ?_) | (with_reducible refine Blk.drewN ?_) | ((with_reducible refine Blk.below hb ?_ ?_); · first | omega | (simp; done) | (simp; omega))))
            have lB4 := B4.lt
            have O4 : OwnP w4 (w.heap.size) (.slice vo L.length vc) (L) := (by repeat (first | (with_reducible assumption) | (with_reducible refine Own.drew ?_) | (with_reducible refine Own.drewN ?_) | (with_reducible refine Own.alloc ?_) | (with_reducible refine OwnK.drew ?_) | (with_reducible refine OwnK.drewN ?_) | (with_reducible refine OwnK.alloc ?_) | ((with_reducible refine OwnK.put ?_ ?_); · first | omega | (simp; done) | (simp; omega)) | ((with_reducible refine Own.below hb ?_)) | ((with_reducible refine OwnK.below hb ?_))))
            have kw4 : Below w.heap.size w w4 := (by repeat (first | (with_reducible exact Below.refl _ _) | (with_reducible assumption) | (with_reducible refine Below.drew ?_) | (with_reducible refine Below.drewN ?_) | ((with_reducible refine Below.al ?_ ?_); · first | omega | (simp; done) | (simp; omega)) | ((with_reducible refine Below.sc ?_ ?_); · first | omega | (simp; done) | (simp; omega)) | ((with_reducible refine Below.thru hb ?_ ?_); · first | omega | (simp; done) | (simp; omega))))
            have sw4 := kw4.size
            clear hb
            have b4 := B4.p2n
            go_wp2
            go_roundw
            case rel => exact ⟨d + 1, by omega, by go_num, by rw [HY.out, HI.out, if_neg Bool.false_ne_true, List.append_nil]; exact O4, kw4⟩
            case measure => simp [intOf]; omega
          have HP := Lib.hid (fun w' : World => isPair_any n c d w' hn hlt hdl)
          rw [decide_eq_true hp] at HP
          by_cases hq : nrmN n c d = (c, d)
          · have HQ := Lib.hid (fun w' : World => normal_any n c d w' hn hlt hdl)
            rw [hq] at HQ
            simp only at HQ
            have hE := fun w' : World => run_equalInP (c, d) (c, d) w'
            rw [decide_eq_true rfl] at hE
            simp only at hE
            have HI := Lib.hid (show isLn n c d = true by unfold isLn isPr; rw [decide_eq_true hp, decide_eq_true hq]; rfl)
            clear hp hq
            go_wp2_with fail
            refine forget (fun W_ => Below w.heap.size w W_ ∧ Blk W_ (wr.heap.size) 98 (pcs (c, d)) ∧ OwnP W_ (w.heap.size) (.slice vo L.length vc) (L)) ⟨(by repeat (first | (with_reducible exact Below.refl _ _) | (with_reducible assumption) | (with_reducible refine Below.drew ?_) | (with_reducible refine Below.drewN ?_) | ((with_reducible refine Below.al ?_ ?_); · first | omega | (simp; done) | (simp; omega)) | ((with_reducible refine Below.sc ?_ ?_); · first | omega | (simp; done) | (simp; omega)) | ((with_reducible refine Below.thru hb ?_ ?_); · first | omega | (simp; done) | (simp; omega)))), (by repeat (first | (with_reducible assumption) | ((with_reducible refine Blk.new ?_); · first | omega | (simp; done) | (simp; omega)) | (with_reducible apply Blk.set4) | (with_reducible apply Blk.set3) | (with_reducible apply Blk.set2) | ((with_reducible refine Blk.put ?_ ?_); · first | omega | (simp; omega)) | (with_reducible refine Blk.old ?_) | (with_reducible refine Blk.drew ?_) | (with_reducible refine Blk.drewN ?_) | ((with_reducible refine Blk.below hb ?_ ?_); · first | omega | (simp; done) | (simp; omega)))), (by repeat (first | (with_reducible assumption) | (with_reducible refine Own.drew ?_) | (with_reducible refine Own.drewN ?_) | (with_reducible refine Own.alloc ?_) | (with_reducible refine OwnK.drew ?_) | (with_reducible refine OwnK.drewN ?_) | (with_reducible refine OwnK.alloc ?_) | ((with_reducible refine OwnK.put ?_ ?_); · first | omega | (simp; done) | (simp; omega)) | ((with_reducible refine Own.below hb ?_)) | ((with_reducible refine OwnK.below hb ?_))))⟩ ?_
            rintro w3 ⟨kw3, B3, O3⟩
            have sw3 := kw3.size
            have lB3 := B3.lt
            obtain ⟨b30, b31⟩ := B3.later2
            clear O kwr
            refine wp_region_calm (by kernel_rfl) (by kernel_rfl) ?_
            repeat (go_big_quiet_step (first | (go_at_call 59; with_reducible exact Calls.calm (HP.out _)) | (go_at_call 60; with_reducible exact Calls.calm (HQ.out _))))
            refine wpQuiet_nil ?_
            rintro w4 ⟨⟨_, hb⟩, rfl⟩
            have B4 : Blk w4 (wr.heap.size) 98 (pcs (c, d)) := (by repeat (first | (with_reducible assumption) | ((with_reducible refine Blk.new ?_); · first | omega | (simp; done) | (simp; omega)) | (with_reducible apply Blk.set4) | (with_reducible apply Blk.set3) | (with_reducible apply Blk.set2) | ((with_reducible refine Blk.put ?_ ?_); · first | omega | (simp; omega)) | (with_reducible refine Blk.old ?_) | (with_reducible refine Blk.drew ?_) | (with_reducible refine Blk.drewN ?_) | ((with_reducible refine Blk.below hb ?_ ?_); · first | omega | (simp; done) | (simp; omega))))
            have lB4 := B4.lt
            have O4 : OwnP w4 (w.heap.size) (.slice vo L.length vc) (L) := (by repeat (first | (with_reducible assumption) | (with_reducible refine Own.drew ?_) | (with_reducible refine Own.drewN ?_) | (with_reducible refine Own.alloc ?_) | (with_reducible refine OwnK.drew ?_) | (with_reducible refine OwnK.drewN ?_) | (with_reducible refine OwnK.alloc ?_) | ((with_reducible refine OwnK.put ?_ ?_); · first | omega | (simp; done) | (simp; omega)) | ((with_reducible refine Own.below hb ?_)) | ((with_reducible refine OwnK.below hb ?_))))
            have kw4 : Below w.heap.size w w4 := (by repeat (first | (with_reducible exact Below.refl _ _) | (with_reducible assumption) | (with_reducible refine Below.drew ?_) | (with_reducible refine Below.drewN ?_) | ((with_reducible refine Below.al ?_ ?_); · first | omega | (simp; done) | (simp; omega)) | ((with_reducible refine Below.sc ?_ ?_); · first | omega | (simp; done) | (simp; omega)) | ((with_reducible refine Below.thru hb ?_ ?_); · first | omega | (simp; done) | (simp; omega))))
            have sw4 := kw4.size
            clear hb
            have b4 := B4.p2n
            obtain ⟨jP, hinf⟩ := HINF.out
            replace hinf := Lib.hid hinf
            go_wp2_with (at_builtin; refine wpList_app encP rfl _ _ 72 98 16 rfl Try.underlying72 jP _ hinf.out.1 hinf.out.2.1 hinf.out.2.2.1 hinf.out.2.2.2 rfl (.slice vo L.length vc) L w.heap.size w4.heap.size 1 #[.int .i64 (c : Int), .int .i64 (d : Int)] [(c, d)] rfl ?o1 rfl ?b1 rfl ?l1 ?l2 (by simp; omega) ?_)
            case o1 => exact O4.alloc
            case b1 => exact Blk.new (by simp)
            case l1 => (try simp only [List.length_cons, List.length_nil]); have := hN.out; unfold maxLen; omega
            case l2 => (try simp only [List.length_cons, List.length_nil]); have := hN.out; omega
            intro v' w5 O5 hg
            have k5 : Below w.heap.size w w5 := Below.grownK hg (e := encP) (E := 98) (B := w.heap.size) (xs := L) O4.alloc (Nat.le_refl _) (by simp; omega) (by repeat (first | (with_reducible exact Below.refl _ _) | (with_reducible assumption) | (with_reducible refine Below.drew ?_) | (with_reducible refine Below.drewN ?_) | ((with_reducible refine Below.al ?_ ?_); · first | omega | (simp; done) | (simp; omega)) | ((with_reducible refine Below.sc ?_ ?_); · first | omega | (simp; done) | (simp; omega)) | ((with_reducible refine Below.thru hb ?_ ?_); · first | omega | (simp; done) | (simp; omega))))
            clear hg
            go_wp2
            go_roundw
            case rel => exact ⟨d + 1, by omega, by go_num, by rw [HY.out, HI.out, if_pos rfl]; exact O5, k5⟩
            case measure => simp [intOf]; omega
          · have HQ := Lib.hid (fun w' : World => normal_any n c d w' hn hlt hdl)
            have hE := fun w' : World => run_equalInP (nrmN n c d) (c, d) w'
            rw [decide_eq_false hq] at hE
            simp only at hE
            have HI := Lib.hid (show isLn n c d = false by unfold isLn; rw [decide_eq_false hq, Bool.and_false])
            clear hp hq
            generalize nrmN n c d = y at *
            obtain ⟨y1, y2⟩ := y
            simp only at HQ hE
            go_wp2_with fail
            refine forget (fun W_ => Below w.heap.size w W_ ∧ Blk W_ (wr.heap.size) 98 (pcs (c, d)) ∧ OwnP W_ (w.heap.size) (.slice vo L.length vc) (L)) ⟨(by repeat (first | (with_reducible exact Below.refl _ _) | (with_reducible assumption) | (with_reducible refine Below.drew ?_) | (with_reducible refine Below.drewN ?_) | ((with_reducible refine Below.al ?_ ?_); · first | omega | (simp; done) | (simp; omega)) | ((with_reducible refine Below.sc ?_ ?_); · first | omega | (simp; done) | (simp; omega)) | ((with_reducible refine Below.thru hb ?_ ?_); · first | omega | (simp; done) | (simp; omega)))), (by repeat (first | (with_reducible assumption) | ((with_reducible refine Blk.new ?_); · first | omega | (simp; done) | (simp; omega)) | (with_reducible apply Blk.set4) | (with_reducible apply Blk.set3) | (with_reducible apply Blk.set2) | ((with_reducible refine Blk.put ?_ ?_); · first | omega | (simp; omega)) | (with_reducible refine Blk.old ?_) | (with_reducible refine Blk.drew ?_) | (with_reducible refine Blk.drewN ?_) | ((with_reducible refine Blk.below hb ?_ ?_); · first | omega | (simp; done) | (simp; omega)))), (by repeat (first | (with_reducible assumption) | (with_reducible refine Own.drew ?_) | (with_reducible refine Own.drewN ?_) | (with_reducible refine Own.alloc ?_) | (with_reducible refine OwnK.drew ?_) | (with_reducible refine OwnK.drewN ?_) | (with_reducible refine OwnK.alloc ?_) | ((with_reducible refine OwnK.put ?_ ?_); · first | omega | (simp; done) | (simp; omega)) | ((with_reducible refine Own.below hb ?_)) | ((with_reducible refine OwnK.below hb ?_))))⟩ ?_
            rintro w3 ⟨kw3, B3, O3⟩
            have sw3 := kw3.size
            have lB3 := B3.lt
            obtain ⟨b30, b31⟩ := B3.later2
            clear O kwr
            refine wp_region_calm (by kernel_rfl) (by kernel_rfl) ?_
            repeat (go_big_quiet_step (first | (go_at_call 59; with_reducible exact Calls.calm (HP.out _)) | (go_at_call 60; with_reducible exact Calls.calm (HQ.out _))))
            refine wpQuiet_nil ?_
            rintro w4 ⟨⟨_, hb⟩, rfl⟩
            have B4 : Blk w4 (wr.heap.size) 98 (pcs (c, d)) := (by repeat (first | (with_reducible assumption) | ((with_reducible refine Blk.new ?_); · first | omega | (simp; done) | (simp; omega)) | (with_reducible apply Blk.set4) | (with_reducible apply Blk.set3) | (with_reducible apply Blk.set2) | ((with_reducible refine Blk.put ?_ ?_); · first | omega | (simp; omega)) | (with_reducible refine Blk.old ?_) | (with_reducible refine Blk.drew ?_) | (with_reducible refine Blk.drewN ?_) | ((with_reducible refine Blk.below hb ?_ ?_); · first | omega | (simp; done) | (simp; omega))))
            have lB4 := B4.lt
            have O4 : OwnP w4 (w.heap.size) (.slice vo L.length vc) (L) := (by repeat (first | (with_reducible assumption) | (with_reducible refine Own.drew ?_) | (with_reducible refine Own.drewN ?_) | (with_reducible refine Own.alloc ?_) | (with_reducible refine OwnK.drew ?_) | (with_reducible refine OwnK.drewN ?_) | (with_reducible refine OwnK.alloc ?_) | ((with_reducible refine OwnK.put ?_ ?_); · first | omega | (simp; done) | (simp; omega)) | ((with_reducible refine Own.below hb ?_)) | ((with_reducible refine OwnK.below hb ?_))))
            have kw4 : Below w.heap.size w w4 := (by repeat (first | (with_reducible exact Below.refl _ _) | (with_reducible assumption) | (with_reducible refine Below.drew ?_) | (with_reducible refine Below.drewN ?_) | ((with_reducible refine Below.al ?_ ?_); · first | omega | (simp; done) | (simp; omega)) | ((with_reducible refine Below.sc ?_ ?_); · first | omega | (simp; done) | (simp; omega)) | ((with_reducible refine Below.thru hb ?_ ?_); · first | omega | (simp; done) | (simp; omega))))
            have sw4 := kw4.size
            clear hb
            have b4 := B4.p2n
            go_wp2
            go_roundw
            case rel => exact ⟨d + 1, by omega, by go_num, by rw [HY.out, HI.out, if_neg Bool.false_ne_true, List.append_nil]; exact O4, kw4⟩
            case measure => simp [intOf]; omega
        · obtain rfl : d = n := by omega
          go_wp2
          go_roundw
          case rel => exact ⟨c + 1, by omega, by go_num, by rw [HX.out]; exact O, kwr⟩
          case measure => simp [intOf]; omega
    · obtain rfl : c = n := by omega
      go_wp2
      refine bodyPost_ret (v := .slice vo (lnTo c c).length vc) (by simp [results, Try.results34, go_sem]) rfl ?_
      exact ⟨_, rfl, O, kwr⟩

end Go.Proofs.Ytjpkopnkfpgahaa

/- All cycles of an action: both walks. -/
namespace Go.Proofs.Ytjpkopnkfpgahaa
open Go.RowKit

/-- What the cycles give. -/
def GivesSS (css : List (List Nat)) (w : World) (e : Ending) (w' : World) : Prop := ∃ v vs, e = .returned v ∧ OwnK encV 35 w' w.heap.size v vs ∧ RowS w' w.heap.size vs css ∧ Below w.heap.size w w'

end Go.Proofs.Ytjpkopnkfpgahaa

/- All cycles of an action: the reference's walk. -/
namespace Go.Proofs.Ytjpkopnkfpgahaa
open Go.RowKit

theorem OwnK.grownO {α : Type} {e : Enc α} {E : TypeId} {w w' : World} {B B' : Nat} {v u : Value} {xs : List α} {ys : List Int} (hg : w.grownBy w' u.ownBlock) (hu : Own w B' u ys) (hE : E ≠ 2) (h : OwnK e E w B v xs) : OwnK e E w' B v xs :=
  h.same fun g hk => hg.block g (h.lt hk).2 fun he => h.ne_own hu hE g hk he.symm
theorem OwnK.putN {α : Type} {e : Enc α} {E : TypeId} {w : World} {B g i : Nat} {v u : Value} {xs : List α} (hn : v.ownBlock ≠ some g) (h : OwnK e E w B v xs) : OwnK e E (w.setCell ⟨g, i, none⟩ u) B v xs :=
  h.same fun k hk => Below.heap_setCell _ _ _ _ (fun e => hn (by rw [hk, e]))

end Go.Proofs.Ytjpkopnkfpgahaa

/- The line of a level: the reference's walk. -/
namespace Go.Proofs.Ytjpkopnkfpgahaa
open Go.RowKit
set_option linter.unusedSimpArgs false

def rowsP (xs : List (Nat × Nat)) : List (List Nat) := xs.map fun p => [p.1, p.2]

theorem nrmV_ln {n c d : Nat} (h : isLn n c d = true) : nrmV n c d = ((c : Int), (d : Int), true) := by
  unfold isLn at h
  rw [Bool.and_eq_true] at h
  have h2 := of_decide_eq_true h.2
  unfold nrmV
  rw [if_pos h.1, h2]
theorem nrmV_no {n c d : Nat} (h : isLn n c d = false) : nrmV n c d = (0, 0, false) ∨ ∃ x y : Nat, nrmV n c d = ((x : Int), (y : Int), true) ∧ (¬ (x : Int) = (c : Int) ∨ ¬ (y : Int) = (d : Int)) := by
  unfold nrmV
  cases hp : isPr n c d with
  | false => left; rfl
  | true =>
    right
    refine ⟨(nrmN n c d).1, (nrmN n c d).2, by rw [if_pos rfl], ?_⟩
    unfold isLn at h
    rw [hp, Bool.true_and] at h
    have h2 := of_decide_eq_false h
    generalize nrmN n c d = y at *
    obtain ⟨y1, y2⟩ := y
    simp only [Prod.mk.injEq, not_and] at h2
    by_cases e : y1 = c
    · right; have := h2 e; simp only; omega
    · left; simp only; omega

end Go.Proofs.Ytjpkopnkfpgahaa
