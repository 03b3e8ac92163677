/- Plain words for the walks: what a call that only makes new memory gives, bounds of products, tests as Booleans. -/
import Derived.WalkKit
import Derived.WalkSpells
import Derived.WalkLawsBesides
import Derived.Deep.QuietTactic
import Derived.BigQuiet
import Derived.Lib.Hide
import Derived.Deep.RegionHeld3
import Derived.Deep.DeepFit
import Derived.Deep.DeepCutAuto
import Derived.Deep.DrawnRows
namespace Go.Proofs.Ytjpkopnkfpgahaa
open Go.RowKit

/-- A slice of whole numbers that came in: nil, or cells to be read. -/
def SlIn (w : World) (k : IntKind) (v : Value) (xs : List Int) : Prop :=
  (v = .slice none 0 0 ∧ xs = []) ∨ ∃ a cap, v = .slice (some a) xs.length cap ∧ xs.length ≤ cap ∧ cap ≤ maxLen ∧ ∀ j (h : j < xs.length), w.cell? (a.add j) = some (.int k xs[j])

/-- The call gives v and makes new memory alone, whatever the world. -/
def Gives (P : Program) (n : Nat) (args : Array Value) (v : Value) : Prop :=
  ∀ w, Calls P n args w fun e w' => e = .returned v ∧ Below w.heap.size w w'

theorem bcell {W w1 : World} (hb : Below W.heap.size W w1) : (∀ b o, b < W.heap.size → w1.cell? ⟨b, o, none⟩ = W.cell? ⟨b, o, none⟩) ∧ (∀ b o, b < W.heap.size → w1.frozen? ⟨b, o, none⟩ = W.frozen? ⟨b, o, none⟩) :=
  ⟨fun b o h => hb.cell (p := ⟨b, o, none⟩) h, fun b o h => hb.frozen (p := ⟨b, o, none⟩) h⟩

theorem Below.thru {B : Nat} {a W w1 : World} (hb : Below W.heap.size W w1) (hB : B ≤ W.heap.size) (h : Below B a W) : Below B a w1 := h.trans (hb.mono hB)
theorem Below.al {B : Nat} {a w : World} {o : Obj} (hB : B ≤ w.heap.size) (h : Below B a w) : Below B a (w.alloc o) := h.alloc hB o
theorem Below.sc {B : Nat} {a w : World} {p : Addr} {u : Value} (hp : B ≤ p.block) (h : Below B a w) : Below B a (w.setCell p u) := h.setCell hp u
theorem Below.drewN {B : Nat} {a w : World} {n : Nat} (h : Below B a w) : Below B a (w.drewN n) := h.trans ⟨rfl, rfl, rfl, Nat.le_refl _, fun _ _ => rfl⟩

theorem heap_new {w : World} {o : Obj} {k : Nat} (hk : k = w.heap.size) : (w.alloc o).heap[k]? = some o := by
  subst hk; exact heap_alloc_new _ _
theorem heap_old {w : World} {o u : Obj} {k : Nat} (h : w.heap[k]? = some o) : (w.alloc u).heap[k]? = some o := by
  rw [Below.heap_alloc _ _ _ (lt_of_block h)]; exact h
theorem heap_below {W w1 : World} {B : Nat} {o : Obj} {k : Nat} (h : W.heap[k]? = some o) (hb : Below B W w1) (hk : k < B) : w1.heap[k]? = some o := (hb.block k hk).trans h

/-- Block g is known whole: the cells cs of the type E, none of them frozen. -/
def Blk (w : World) (g : Nat) (E : TypeId) (cs : Array Value) : Prop := w.heap[g]? = some (.cells cs E (0, 0))
theorem Blk.new {w : World} {E : TypeId} {cs : Array Value} {k : Nat} (hk : k = w.heap.size) : Blk (w.alloc (.cells cs E)) k E cs := heap_new hk
theorem Blk.old {w : World} {u : Obj} {E : TypeId} {cs : Array Value} {k : Nat} (h : Blk w k E cs) : Blk (w.alloc u) k E cs := heap_old h
theorem Blk.drew {w : World} {E : TypeId} {cs : Array Value} {k : Nat} (h : Blk w k E cs) : Blk w.drew k E cs := h
theorem Blk.drewN {w : World} {E : TypeId} {cs : Array Value} {k n : Nat} (h : Blk w k E cs) : Blk (w.drewN n) k E cs := h
theorem Blk.below {W w1 : World} {B : Nat} {E : TypeId} {cs : Array Value} {k : Nat} (hb : Below B W w1) (hk : k < B) (h : Blk W k E cs) : Blk w1 k E cs := heap_below h hb hk
theorem Blk.lt {w : World} {E : TypeId} {cs : Array Value} {k : Nat} (h : Blk w k E cs) : k < w.heap.size := lt_of_block h
theorem Blk.cell {w : World} {g : Nat} {cs : Array Value} {E : TypeId} (h : Blk w g E cs) (i : Nat) : w.cell? ⟨g, i, none⟩ = cs[i]? := by
  have h' : w.heap[g]? = _ := h
  simp [World.cell?, h']
theorem Blk.free {w : World} {g : Nat} {cs : Array Value} {E : TypeId} (h : Blk w g E cs) (i : Nat) : w.frozen? ⟨g, i, none⟩ = false := by
  have h' : w.heap[g]? = _ := h
  simp [World.frozen?, h']
theorem Blk.at {w : World} {g i : Nat} {cs : Array Value} {E : TypeId} {v : Value} (h : Blk w g E cs) (e : cs[i]? = some v) : w.cell? ⟨g, i, none⟩ = some v := (h.cell i).trans e

theorem Blk.set {w : World} {g i : Nat} {cs : Array Value} {E : TypeId} {v : Value} (h : Blk w g E cs) : Blk (w.setCell ⟨g, i, none⟩ v) g E (cs.setIfInBounds i v) := by
  have h' : w.heap[g]? = _ := h
  unfold Blk
  simp only [World.setCell, Array.getElem?_modify]
  rw [if_pos trivial, h']
  rfl
theorem Blk.put {w : World} {g g' i : Nat} {cs : Array Value} {E : TypeId} {v : Value} (hn : g ≠ g') (h : Blk w g E cs) : Blk (w.setCell ⟨g', i, none⟩ v) g E cs := by
  unfold Blk
  rw [Below.heap_setCell _ _ _ _ hn]
  exact h
theorem cell_put {w : World} {g b i o : Nat} {u : Value} (h : b ≠ g) : (w.setCell ⟨g, i, none⟩ u).cell? ⟨b, o, none⟩ = w.cell? ⟨b, o, none⟩ :=
  World.cell?_of_block (w := w) (Below.heap_setCell _ _ _ _ h)
theorem Blk.set2 {w : World} {g : Nat} {x0 x1 : Value} {E : TypeId} {v0 v1 : Value} (h : Blk w g E #[x0, x1]) : Blk ((w.setCell ⟨g, 0, none⟩ v0).setCell ⟨g, 1, none⟩ v1) g E #[v0, v1] := h.set.set
theorem Blk.set3 {w : World} {g : Nat} {x0 x1 x2 : Value} {E : TypeId} {v0 v1 v2 : Value} (h : Blk w g E #[x0, x1, x2]) : Blk (((w.setCell ⟨g, 0, none⟩ v0).setCell ⟨g, 1, none⟩ v1).setCell ⟨g, 2, none⟩ v2) g E #[v0, v1, v2] := h.set.set.set
theorem Blk.set4 {w : World} {g : Nat} {x0 x1 x2 x3 : Value} {E : TypeId} {v0 v1 v2 v3 : Value} (h : Blk w g E #[x0, x1, x2, x3]) : Blk ((((w.setCell ⟨g, 0, none⟩ v0).setCell ⟨g, 1, none⟩ v1).setCell ⟨g, 2, none⟩ v2).setCell ⟨g, 3, none⟩ v3) g E #[v0, v1, v2, v3] := h.set.set.set.set

theorem ret_at {P : Program} {fn : Func} {Q : Ending → World → Prop} {a : Act} {w : World} {v : Value} (C : World → Prop) (hC : C w) (hrun : ∀ w', C w' → (results fn a.tmps).run P w' = .ok v w')
    (hd : a.defers = []) (hpost : Q (.returned v) w) : bodyPost P fn Q .ret a w := bodyPost_ret (hrun w hC) hd hpost

/-- A world that has grown out of W. -/
structure Later (W : World) where
  w : World
  h : Below W.heap.size W w

instance (W : World) : Nonempty (Later W) := ⟨⟨W, Below.refl _ _⟩⟩

theorem Calls.calm {P : Program} {f : FuncId} {args : Array Value} {W : World} {x : Later W} {v : Value} (h : Calls P f args x.w fun e w' => e = .returned v ∧ Below x.w.heap.size x.w w') :
    Calls P f args x.w fun e w'' => e = .returned v ∧ ∃ y : Later W, w'' = y.w :=
  h.mono fun _ w' ⟨he, hb⟩ => ⟨he, ⟨w', Below.thru hb x.h.size x.h⟩, rfl⟩
theorem Calls.calm_same {P : Program} {f : FuncId} {args : Array Value} {W : World} {x : Later W} {v : Value} (h : Calls P f args x.w fun e w' => e = .returned v ∧ x.w = w') :
    Calls P f args x.w fun e w'' => e = .returned v ∧ ∃ y : Later W, w'' = y.w :=
  h.mono fun _ _ ⟨he, hb⟩ => ⟨he, x, hb.symm⟩

/-- A region that draws its order, whose operations read old memory and whose callees only make new memory: one walk in the order of the text. -/
theorem wp_region_calm {P : Program} {id : Nat} {Q : Exit → Act → World → Prop} {a : Act} {w : World} {l : List Oper} (hm : P.follows .mixedOrders = true) (hB : Region.lexB .any l.toArray = true)
    (h : wpQuiet P l.toArray (fun w' => ∃ x : Later w, w' = x.w) (fun a' => ∀ w', (∃ x : Later w, w' = x.w) → Q .normal a' w') l a) : (Code.region id l.toArray true).wp P Q a w :=
  wp_region_quiet (C := fun w' => ∃ x : Later w, w' = x.w) hm hB ⟨⟨w.drew, (Below.refl _ _).drew⟩, rfl⟩ (by simpa using h)

/-- What is written out of a world is forgotten but for C. -/
theorem forget {F : World → Prop} {w : World} (C : World → Prop) (hC : C w) (h : ∀ W, C W → F W) : F w := h w hC

theorem Blk.later {W : World} {g : Nat} {E : TypeId} {cs : Array Value} (h : Blk W g E cs) (x : Later W) : Blk x.w g E cs := Blk.below x.h h.lt h
theorem Blk.later1 {W : World} {g : Nat} {E : TypeId} {v0 : Value} (h : Blk W g E #[v0]) : ∀ x : Later W, x.w.cell? ⟨g, 0, none⟩ = some v0 := fun x => (h.later x).at rfl
theorem Blk.later2 {W : World} {g : Nat} {E : TypeId} {v0 v1 : Value} (h : Blk W g E #[v0, v1]) : (∀ x : Later W, x.w.cell? ⟨g, 0, none⟩ = some v0) ∧ (∀ x : Later W, x.w.cell? ⟨g, 1, none⟩ = some v1) :=
  ⟨fun x => (h.later x).at rfl, fun x => (h.later x).at rfl⟩
theorem Blk.later3 {W : World} {g : Nat} {E : TypeId} {v0 v1 v2 : Value} (h : Blk W g E #[v0, v1, v2]) : (∀ x : Later W, x.w.cell? ⟨g, 0, none⟩ = some v0) ∧ (∀ x : Later W, x.w.cell? ⟨g, 1, none⟩ = some v1) ∧ (∀ x : Later W, x.w.cell? ⟨g, 2, none⟩ = some v2) :=
  ⟨fun x => (h.later x).at rfl, fun x => (h.later x).at rfl, fun x => (h.later x).at rfl⟩
theorem Blk.later4 {W : World} {g : Nat} {E : TypeId} {v0 v1 v2 v3 : Value} (h : Blk W g E #[v0, v1, v2, v3]) : (∀ x : Later W, x.w.cell? ⟨g, 0, none⟩ = some v0) ∧ (∀ x : Later W, x.w.cell? ⟨g, 1, none⟩ = some v1) ∧ (∀ x : Later W, x.w.cell? ⟨g, 2, none⟩ = some v2) ∧ (∀ x : Later W, x.w.cell? ⟨g, 3, none⟩ = some v3) :=
  ⟨fun x => (h.later x).at rfl, fun x => (h.later x).at rfl, fun x => (h.later x).at rfl, fun x => (h.later x).at rfl⟩

theorem ret_int {k : IntKind} {a b : Int} (h : a = b) : Ending.returned (.int k a) = .returned (.int k b) := by rw [h]
theorem ret_bool {a b : Bool} (h : a = b) : Ending.returned (.bool a) = .returned (.bool b) := by rw [h]

/-- |a| ≤ A, |b| ≤ B: |a b| ≤ A B. -/
theorem mul_bd {a b A B : Int} (h1 : -A ≤ a) (h2 : a ≤ A) (h3 : -B ≤ b) (h4 : b ≤ B) : -(A * B) ≤ a * b ∧ a * b ≤ A * B := by
  have hA : 0 ≤ A := by omega
  have hB : 0 ≤ B := by omega
  constructor
  · by_cases ha : 0 ≤ a
    · have e1 : a * (-B) ≤ a * b := Int.mul_le_mul_of_nonneg_left h3 ha
      have e2 : a * B ≤ A * B := Int.mul_le_mul_of_nonneg_right h2 hB
      have e3 : a * (-B) = -(a * B) := Int.mul_neg a B
      omega
    · have e1 : (-a) * b ≤ (-a) * B := Int.mul_le_mul_of_nonneg_left h4 (by omega)
      have e2 : (-a) * B ≤ A * B := Int.mul_le_mul_of_nonneg_right (by omega) hB
      have e3 : (-a) * b = -(a * b) := Int.neg_mul a b
      omega
  · by_cases ha : 0 ≤ a
    · have e1 : a * b ≤ a * B := Int.mul_le_mul_of_nonneg_left h4 ha
      have e2 : a * B ≤ A * B := Int.mul_le_mul_of_nonneg_right h2 hB
      omega
    · have e1 : (-a) * (-b) ≤ (-a) * B := Int.mul_le_mul_of_nonneg_left (by omega) (by omega)
      have e2 : (-a) * B ≤ A * B := Int.mul_le_mul_of_nonneg_right (by omega) hB
      have e3 : (-a) * (-b) = a * b := Int.neg_mul_neg a b
      omega

def inB (n lo hi : Int) : Bool := decide (lo ≤ n) && decide (n ≤ hi)
theorem inB_true {n lo hi : Int} (h : inB n lo hi = true) : lo ≤ n ∧ n ≤ hi := by simpa [inB] using h
theorem inB_false {n lo hi : Int} (h : inB n lo hi = false) : n < lo ∨ hi < n := by
  simp [inB] at h; omega
theorem inB_mk {n lo hi : Int} (h : lo ≤ n ∧ n ≤ hi) : inB n lo hi = true := by simpa [inB] using h
theorem inB_no {n lo hi : Int} (h : n < lo ∨ hi < n) : inB n lo hi = false := by
  simp [inB]; omega

def entB (n : Int) : Bool := inB n (-1000000000) 1000000000
theorem entB_true {n : Int} (h : entB n = true) : -1000000000 ≤ n ∧ n ≤ 1000000000 := inB_true h
theorem entB_mk {n : Int} (h : -1000000000 ≤ n ∧ n ≤ 1000000000) : entB n = true := inB_mk h
theorem ent_mul {a b : Int} (h : entB a = true) (k : entB b = true) : -1000000000000000000 ≤ a * b ∧ a * b ≤ 1000000000000000000 := by
  have h1 := entB_true h
  have h2 := entB_true k
  exact mul_bd h1.1 h1.2 h2.1 h2.2

/-- Two by two matrices. -/
structure M where
  a : Int
  b : Int
  c : Int
  d : Int
deriving DecidableEq

def M.det (m : M) : Int := m.a * m.d - m.b * m.c
def M.mul (m n : M) : M := ⟨m.a * n.a + m.b * n.c, m.a * n.b + m.b * n.d, m.c * n.a + m.d * n.c, m.c * n.b + m.d * n.d⟩
abbrev M.inv (m : M) : M := ⟨m.d, -m.b, -m.c, m.a⟩
abbrev M.neg (m : M) : M := ⟨-m.a, -m.b, -m.c, -m.d⟩
abbrev M.one : M := ⟨1, 0, 0, 1⟩
def M.tr (m : M) : Int := m.a + m.d
def M.ents (m : M) : Bool := [m.a, m.b, m.c, m.d].all entB
/-- Is it a matrix of the document: small numbers and the determinant 1? -/
def M.ok (m : M) : Bool := m.ents && m.det == 1
abbrev mv (m : M) : Value := .agg #[.int .i64 m.a, .int .i64 m.b, .int .i64 m.c, .int .i64 m.d]
abbrev mcs (m : M) : Array Value := #[.int .i64 m.a, .int .i64 m.b, .int .i64 m.c, .int .i64 m.d]
theorem Blk.m {w : World} {g : Nat} {E : TypeId} {m : M} (h : Blk w g E (mcs m)) : w.cell? ⟨g, 0, none⟩ = some (.int .i64 m.a) ∧ w.cell? ⟨g, 1, none⟩ = some (.int .i64 m.b) ∧
    w.cell? ⟨g, 2, none⟩ = some (.int .i64 m.c) ∧ w.cell? ⟨g, 3, none⟩ = some (.int .i64 m.d) := ⟨h.at rfl, h.at rfl, h.at rfl, h.at rfl⟩
theorem Blk.mf {w : World} {g : Nat} {E : TypeId} {m : M} (h : Blk w g E (mcs m)) : w.frozen? ⟨g, 0, none⟩ = false ∧ w.frozen? ⟨g, 1, none⟩ = false ∧
    w.frozen? ⟨g, 2, none⟩ = false ∧ w.frozen? ⟨g, 3, none⟩ = false := ⟨h.free _, h.free _, h.free _, h.free _⟩
def mcells (m : M) : List Value := [.int .i64 m.a, .int .i64 m.b, .int .i64 m.c, .int .i64 m.d]

theorem M.ents_true {m : M} (h : m.ents = true) : (entB m.a = true ∧ entB m.b = true) ∧ entB m.c = true ∧ entB m.d = true := by
  simp [M.ents] at h; exact ⟨⟨h.1, h.2.1⟩, h.2.2.1, h.2.2.2⟩
theorem M.ents_bd {m : M} (h : m.ents = true) : (-1000000000 ≤ m.a ∧ m.a ≤ 1000000000) ∧ (-1000000000 ≤ m.b ∧ m.b ≤ 1000000000) ∧ (-1000000000 ≤ m.c ∧ m.c ≤ 1000000000) ∧ (-1000000000 ≤ m.d ∧ m.d ≤ 1000000000) :=
  have ⟨⟨h1, h2⟩, h3, h4⟩ := M.ents_true h
  ⟨entB_true h1, entB_true h2, entB_true h3, entB_true h4⟩
theorem M.ok_ents {m : M} (h : m.ok = true) : m.ents = true := by simp [M.ok] at h; exact h.1
theorem M.ok_det {m : M} (h : m.ok = true) : m.det = 1 := by simp [M.ok] at h; exact h.2

/-- A row of matrices in memory. -/
def MRow (w : World) (b off : Nat) (ms : List M) : Prop :=
  ∀ j (h : j < ms.length), w.cell? ⟨b, off + j * 4, none⟩ = some (.int .i64 ms[j].a) ∧ w.cell? ⟨b, off + j * 4 + 1, none⟩ = some (.int .i64 ms[j].b) ∧
    w.cell? ⟨b, off + j * 4 + 2, none⟩ = some (.int .i64 ms[j].c) ∧ w.cell? ⟨b, off + j * 4 + 3, none⟩ = some (.int .i64 ms[j].d)
theorem MRow.of2 {w : World} {g : Nat} {E : TypeId} {m n : M} (h : Blk w g E #[.int .i64 m.a, .int .i64 m.b, .int .i64 m.c, .int .i64 m.d, .int .i64 n.a, .int .i64 n.b, .int .i64 n.c, .int .i64 n.d]) : MRow w g 0 [m, n] := by
  intro j hj
  match j, hj with
  | 0, _ => exact ⟨h.at rfl, h.at rfl, h.at rfl, h.at rfl⟩
  | 1, _ => exact ⟨h.at rfl, h.at rfl, h.at rfl, h.at rfl⟩
theorem MRow.below {w w1 : World} {b off : Nat} {ms : List M} {B : Nat} (h : MRow w b off ms) (hb : Below B w w1) (hB : b < B) : MRow w1 b off ms := fun j hj => by
  have c := fun o => hb.cell (p := ⟨b, o, none⟩) hB
  obtain ⟨h1, h2, h3, h4⟩ := h j hj
  exact ⟨(c _).trans h1, (c _).trans h2, (c _).trans h3, (c _).trans h4⟩
theorem MRow.lt {w : World} {b off : Nat} {ms : List M} (h : MRow w b off ms) (hl : 0 < ms.length) : b < w.heap.size := (block_lt_of_cell (h 0 hl).1 :)

/-- The product of a list from the left, as the program takes it: none if a number is too great on the way. -/
def prodFrom : M → List M → Option M
  | m, [] => some m
  | m, n :: l => if (m.mul n).ents then prodFrom (m.mul n) l else none

/-- What product gives. -/
def prodRes : Option M → Value
  | some r => .tuple #[mv r, .int .i64 0]
  | none => .tuple #[mv ⟨0, 0, 0, 0⟩, .int .i64 3]
theorem prodFrom_nil (m : M) : prodFrom m [] = some m := rfl
theorem prodFrom_cons (m n : M) (l : List M) : prodFrom m (n :: l) = if (m.mul n).ents then prodFrom (m.mul n) l else none := rfl

/-- A block that is known whole. -/
theorem blk_cell {w : World} {g i : Nat} {cs : Array Value} {E : TypeId} {fr : Nat × Nat} (h : w.heap[g]? = some (.cells cs E fr)) : w.cell? ⟨g, i, none⟩ = cs[i]? := by
  simp [World.cell?, h]
theorem blk_free {w : World} {g i : Nat} {cs : Array Value} {E : TypeId} (h : w.heap[g]? = some (.cells cs E (0, 0))) : w.frozen? ⟨g, i, none⟩ = false := by
  simp [World.frozen?, h]

end Go.Proofs.Ytjpkopnkfpgahaa
