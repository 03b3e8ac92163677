/- Contracts of the desks: new ones, tests, and the laws' functions on them. -/
import Derived.Test.Ytifojoikeokecaa01c
import Derived.Test.YtifojoikeokecaaLaw
namespace Go.Proofs.Ytifojoikeokecaa
open Go.RowKit

structure Dk where
  m : M
  p : Int
  q : Int
  l : Int
abbrev dcs (d : Dk) : Array Value := #[.int .i64 d.m.a, .int .i64 d.m.b, .int .i64 d.m.c, .int .i64 d.m.d, .int .i64 d.p, .int .i64 d.q, .int .i64 d.l]
def Dk.ok (d : Dk) : Bool := d.m.ok && fracB d.p d.q && inB d.l 1 60

theorem Blk.dm {w : World} {g : Nat} {E : TypeId} {m0 : M} {p q l v0 v1 v2 v3 : Int} (h : Blk w g E (dcs ⟨m0, p, q, l⟩)) :
    Blk ((((w.setCell ⟨g, 0, none⟩ (.int .i64 v0)).setCell ⟨g, 1, none⟩ (.int .i64 v1)).setCell ⟨g, 2, none⟩ (.int .i64 v2)).setCell ⟨g, 3, none⟩ (.int .i64 v3)) g E (dcs ⟨⟨v0, v1, v2, v3⟩, p, q, l⟩) := h.set.set.set.set
theorem Blk.df {w : World} {g : Nat} {E : TypeId} {m0 : M} {p q l v0 v1 : Int} (h : Blk w g E (dcs ⟨m0, p, q, l⟩)) :
    Blk ((w.setCell ⟨g, 4, none⟩ (.int .i64 v0)).setCell ⟨g, 5, none⟩ (.int .i64 v1)) g E (dcs ⟨m0, v0, v1, l⟩) := h.set.set
theorem Blk.dl {w : World} {g : Nat} {E : TypeId} {m0 : M} {p q l v0 : Int} (h : Blk w g E (dcs ⟨m0, p, q, l⟩)) :
    Blk (w.setCell ⟨g, 6, none⟩ (.int .i64 v0)) g E (dcs ⟨m0, p, q, v0⟩) := h.set
theorem Blk.d7 {w : World} {g : Nat} {E : TypeId} {m0 : M} {p q l v0 v1 v2 v3 v4 v5 v6 : Int} (h : Blk w g E (dcs ⟨m0, p, q, l⟩)) :
    Blk (((((((w.setCell ⟨g, 0, none⟩ (.int .i64 v0)).setCell ⟨g, 1, none⟩ (.int .i64 v1)).setCell ⟨g, 2, none⟩ (.int .i64 v2)).setCell ⟨g, 3, none⟩ (.int .i64 v3)).setCell ⟨g, 4, none⟩ (.int .i64 v4)).setCell ⟨g, 5, none⟩ (.int .i64 v5)).setCell ⟨g, 6, none⟩ (.int .i64 v6)) g E (dcs ⟨⟨v0, v1, v2, v3⟩, v4, v5, v6⟩) :=
  Blk.dl (Blk.df (Blk.dm h))
theorem Blk.d {w : World} {g : Nat} {E : TypeId} {d : Dk} (h : Blk w g E (dcs d)) : w.cell? ⟨g, 0, none⟩ = some (.int .i64 d.m.a) ∧ w.cell? ⟨g, 1, none⟩ = some (.int .i64 d.m.b) ∧ w.cell? ⟨g, 2, none⟩ = some (.int .i64 d.m.c) ∧ w.cell? ⟨g, 3, none⟩ = some (.int .i64 d.m.d) ∧
    w.cell? ⟨g, 4, none⟩ = some (.int .i64 d.p) ∧ w.cell? ⟨g, 5, none⟩ = some (.int .i64 d.q) ∧ w.cell? ⟨g, 6, none⟩ = some (.int .i64 d.l) := ⟨h.at rfl, h.at rfl, h.at rfl, h.at rfl, h.at rfl, h.at rfl, h.at rfl⟩
theorem Blk.dfr {w : World} {g : Nat} {E : TypeId} {d : Dk} (h : Blk w g E (dcs d)) : w.frozen? ⟨g, 0, none⟩ = false ∧ w.frozen? ⟨g, 1, none⟩ = false ∧ w.frozen? ⟨g, 2, none⟩ = false ∧ w.frozen? ⟨g, 3, none⟩ = false ∧
    w.frozen? ⟨g, 4, none⟩ = false ∧ w.frozen? ⟨g, 5, none⟩ = false ∧ w.frozen? ⟨g, 6, none⟩ = false := ⟨h.free _, h.free _, h.free _, h.free _, h.free _, h.free _, h.free _⟩

set_option maxHeartbeats 1000000 in
theorem toDesk_any (d : Dk) (w : World) :
    Calls Try.prog 16 #[.agg #[.int .i64 d.m.a, .int .i64 d.m.b, .int .i64 d.m.c, .int .i64 d.m.d, .int .i64 d.p, .int .i64 d.q, .int .i64 d.l]] w fun e w' => e = .returned (.agg (dcs d)) ∧ Below w.heap.size w w' := by
  go_enter Try.func16, Try.ntmps16
  go_wp2_with fail
  refine (toMatrix_any d.m _).mono ?_
  rintro e w1 ⟨rfl, hb⟩
  have B0 : Blk w1 (w.heap.size) 37 (dcs d) := (by repeat (first | (with_reducible assumption) | (with_reducible apply Blk.d7) | (with_reducible apply Blk.dm) | (with_reducible apply Blk.df) | (with_reducible apply Blk.dl) | ((with_reducible refine Blk.new ?_); · first | omega | (simp; done) | (simp; omega)) | (with_reducible apply Blk.set4) | (with_reducible apply Blk.set3) | (with_reducible apply Blk.set2) | ((with_reducible refine Blk.put ?_ ?_); · first | omega | (simp; omega)) | (with_reducible refine Blk.old ?_) | (with_reducible refine Blk.drew ?_) | (with_reducible refine Blk.drewN ?_) | ((with_reducible refine Blk.below hb ?_ ?_); · first | omega | (simp; done) | (simp; omega))))
  have lB0 := B0.lt
  have B1 : Blk w1 (w.heap.size + 1) 32 (dcs ⟨⟨0, 0, 0, 0⟩, 0, 0, 0⟩) := (by repeat (first | (with_reducible assumption) | (with_reducible apply Blk.d7) | (with_reducible apply Blk.dm) | (with_reducible apply Blk.df) | (with_reducible apply Blk.dl) | ((with_reducible refine Blk.new ?_); · first | omega | (simp; done) | (simp; omega)) | (with_reducible apply Blk.set4) | (with_reducible apply Blk.set3) | (with_reducible apply Blk.set2) | ((with_reducible refine Blk.put ?_ ?_); · first | omega | (simp; omega)) | (with_reducible refine Blk.old ?_) | (with_reducible refine Blk.drew ?_) | (with_reducible refine Blk.drewN ?_) | ((with_reducible refine Blk.below hb ?_ ?_); · first | omega | (simp; done) | (simp; omega))))
  have lB1 := B1.lt
  have B2 : Blk w1 (w.heap.size + 1 + 1) 32 (dcs ⟨⟨0, 0, 0, 0⟩, 0, 0, 0⟩) := (by repeat (first | (with_reducible assumption) | (with_reducible apply Blk.d7) | (with_reducible apply Blk.dm) | (with_reducible apply Blk.df) | (with_reducible apply Blk.dl) | ((with_reducible refine Blk.new ?_); · first | omega | (simp; done) | (simp; omega)) | (with_reducible apply Blk.set4) | (with_reducible apply Blk.set3) | (with_reducible apply Blk.set2) | ((with_reducible refine Blk.put ?_ ?_); · first | omega | (simp; omega)) | (with_reducible refine Blk.old ?_) | (with_reducible refine Blk.drew ?_) | (with_reducible refine Blk.drewN ?_) | ((with_reducible refine Blk.below hb ?_ ?_); · first | omega | (simp; done) | (simp; omega))))
  have lB2 := B2.lt
  have kw1 : Below w.heap.size w w1 := (by repeat (first | (with_reducible exact Below.refl _ _) | (with_reducible assumption) | (with_reducible refine Below.drew ?_) | (with_reducible refine Below.drewN ?_) | ((with_reducible refine Below.al ?_ ?_); · first | omega | (simp; done) | (simp; omega)) | ((with_reducible refine Below.sc ?_ ?_); · first | omega | (simp; done) | (simp; omega)) | ((with_reducible refine Below.thru hb ?_ ?_); · first | omega | (simp; done) | (simp; omega))))
  have sw1 := kw1.size
  clear hb
  have c0 := B0.d
  have f2 := B2.dfr
  have c2 := B2.d
  go_wp2_with fail
  refine (toFraction_any d.p d.q _).mono ?_
  rintro e w2 ⟨rfl, hb⟩
  have D0 : Blk w2 (w.heap.size) 37 (dcs d) := (by repeat (first | (with_reducible assumption) | (with_reducible apply Blk.d7) | (with_reducible apply Blk.dm) | (with_reducible apply Blk.df) | (with_reducible apply Blk.dl) | ((with_reducible refine Blk.new ?_); · first | omega | (simp; done) | (simp; omega)) | (with_reducible apply Blk.set4) | (with_reducible apply Blk.set3) | (with_reducible apply Blk.set2) | ((with_reducible refine Blk.put ?_ ?_); · first | omega | (simp; omega)) | (with_reducible refine Blk.old ?_) | (with_reducible refine Blk.drew ?_) | (with_reducible refine Blk.drewN ?_) | ((with_reducible refine Blk.below hb ?_ ?_); · first | omega | (simp; done) | (simp; omega))))
  have lD0 := D0.lt
  have D1 : Blk w2 (w.heap.size + 1) 32 (dcs ⟨⟨0, 0, 0, 0⟩, 0, 0, 0⟩) := (by repeat (first | (with_reducible assumption) | (with_reducible apply Blk.d7) | (with_reducible apply Blk.dm) | (with_reducible apply Blk.df) | (with_reducible apply Blk.dl) | ((with_reducible refine Blk.new ?_); · first | omega | (simp; done) | (simp; omega)) | (with_reducible apply Blk.set4) | (with_reducible apply Blk.set3) | (with_reducible apply Blk.set2) | ((with_reducible refine Blk.put ?_ ?_); · first | omega | (simp; omega)) | (with_reducible refine Blk.old ?_) | (with_reducible refine Blk.drew ?_) | (with_reducible refine Blk.drewN ?_) | ((with_reducible refine Blk.below hb ?_ ?_); · first | omega | (simp; done) | (simp; omega))))
  have lD1 := D1.lt
  have D2 : Blk w2 (w.heap.size + 1 + 1) 32 (dcs ⟨d.m, 0, 0, 0⟩) := (by repeat (first | (with_reducible assumption) | (with_reducible apply Blk.d7) | (with_reducible apply Blk.dm) | (with_reducible apply Blk.df) | (with_reducible apply Blk.dl) | ((with_reducible refine Blk.new ?_); · first | omega | (simp; done) | (simp; omega)) | (with_reducible apply Blk.set4) | (with_reducible apply Blk.set3) | (with_reducible apply Blk.set2) | ((with_reducible refine Blk.put ?_ ?_); · first | omega | (simp; omega)) | (with_reducible refine Blk.old ?_) | (with_reducible refine Blk.drew ?_) | (with_reducible refine Blk.drewN ?_) | ((with_reducible refine Blk.below hb ?_ ?_); · first | omega | (simp; done) | (simp; omega))))
  have lD2 := D2.lt
  have kw2 : Below w.heap.size w w2 := (by repeat (first | (with_reducible exact Below.refl _ _) | (with_reducible assumption) | (with_reducible refine Below.drew ?_) | (with_reducible refine Below.drewN ?_) | ((with_reducible refine Below.al ?_ ?_); · first | omega | (simp; done) | (simp; omega)) | ((with_reducible refine Below.sc ?_ ?_); · first | omega | (simp; done) | (simp; omega)) | ((with_reducible refine Below.thru hb ?_ ?_); · first | omega | (simp; done) | (simp; omega))))
  have sw2 := kw2.size
  clear hb
  clear B0 B1 B2 c0 f2 c2
  have c0 := D0.d
  have f2 := D2.dfr
  have c2 := D2.d
  have f1 := D1.dfr
  have c1 := D1.d
  go_wp2
  refine ret_at (v := .agg (dcs d)) (fun w' => Blk w' (w.heap.size + 1) 32 (dcs d)) (by repeat (first | (with_reducible assumption) | (with_reducible apply Blk.d7) | (with_reducible apply Blk.dm) | (with_reducible apply Blk.df) | (with_reducible apply Blk.dl) | ((with_reducible refine Blk.new ?_); · first | omega | (simp; done) | (simp; omega)) | (with_reducible apply Blk.set4) | (with_reducible apply Blk.set3) | (with_reducible apply Blk.set2) | ((with_reducible refine Blk.put ?_ ?_); · first | omega | (simp; omega)) | (with_reducible refine Blk.old ?_) | (with_reducible refine Blk.drew ?_) | (with_reducible refine Blk.drewN ?_) | ((with_reducible refine Blk.below hb ?_ ?_); · first | omega | (simp; done) | (simp; omega)))) (fun w' hB => by have q := hB.d; simp [results, Try.results16, go_sem, q]) rfl ?_
  exact ⟨rfl, (by repeat (first | (with_reducible exact Below.refl _ _) | (with_reducible assumption) | (with_reducible refine Below.drew ?_) | (with_reducible refine Below.drewN ?_) | ((with_reducible refine Below.al ?_ ?_); · first | omega | (simp; done) | (simp; omega)) | ((with_reducible refine Below.sc ?_ ?_); · first | omega | (simp; done) | (simp; omega)) | ((with_reducible refine Below.thru hb ?_ ?_); · first | omega | (simp; done) | (simp; omega))))⟩

set_option maxHeartbeats 1000000 in
theorem specIsDesk_any (d : Dk) (w : World) :
    Calls Try.prog 15 #[.agg #[.int .i64 d.m.a, .int .i64 d.m.b, .int .i64 d.m.c, .int .i64 d.m.d, .int .i64 d.p, .int .i64 d.q, .int .i64 d.l]] w fun e w' => e = .returned (.bool d.ok) ∧ Below w.heap.size w w' := by
  have F : d.ok = (d.m.ok && fracB d.p d.q && inB d.l 1 60) := rfl
  have HF := Lib.hid F
  clear F
  cases h1 : d.m.ok with
  | false =>
    go_enter Try.func15, Try.ntmps15
    go_wp2_with fail
    refine (l01Is_any d.m _).mono ?_
    rintro e w1 ⟨rfl, hb⟩
    have kw1 : Below w.heap.size w w1 := (by repeat (first | (with_reducible exact Below.refl _ _) | (with_reducible assumption) | (with_reducible refine Below.drew ?_) | (with_reducible refine Below.drewN ?_) | ((with_reducible refine Below.al ?_ ?_); · first | omega | (simp; done) | (simp; omega)) | ((with_reducible refine Below.sc ?_ ?_); · first | omega | (simp; done) | (simp; omega)) | ((with_reducible refine Below.thru hb ?_ ?_); · first | omega | (simp; done) | (simp; omega))))
    have sw1 := kw1.size
    clear hb
    go_wp2
    go_ret
    exact ⟨ret_bool (by rw [HF.out, h1]; rfl), (by repeat (first | (with_reducible exact Below.refl _ _) | (with_reducible assumption) | (with_reducible refine Below.drew ?_) | (with_reducible refine Below.drewN ?_) | ((with_reducible refine Below.al ?_ ?_); · first | omega | (simp; done) | (simp; omega)) | ((with_reducible refine Below.sc ?_ ?_); · first | omega | (simp; done) | (simp; omega)) | ((with_reducible refine Below.thru hb ?_ ?_); · first | omega | (simp; done) | (simp; omega))))⟩
  | true =>
    cases h2 : fracB d.p d.q with
    | false =>
      go_enter Try.func15, Try.ntmps15
      go_wp2_with fail
      refine (l01Is_any d.m _).mono ?_
      rintro e w1 ⟨rfl, hb⟩
      have B0 : Blk w1 (w.heap.size) 32 (dcs d) := (by repeat (first | (with_reducible assumption) | (with_reducible apply Blk.d7) | (with_reducible apply Blk.dm) | (with_reducible apply Blk.df) | (with_reducible apply Blk.dl) | ((with_reducible refine Blk.new ?_); · first | omega | (simp; done) | (simp; omega)) | (with_reducible apply Blk.set4) | (with_reducible apply Blk.set3) | (with_reducible apply Blk.set2) | ((with_reducible refine Blk.put ?_ ?_); · first | omega | (simp; omega)) | (with_reducible refine Blk.old ?_) | (with_reducible refine Blk.drew ?_) | (with_reducible refine Blk.drewN ?_) | ((with_reducible refine Blk.below hb ?_ ?_); · first | omega | (simp; done) | (simp; omega))))
      have lB0 := B0.lt
      have kw1 : Below w.heap.size w w1 := (by repeat (first | (with_reducible exact Below.refl _ _) | (with_reducible assumption) | (with_reducible refine Below.drew ?_) | (with_reducible refine Below.drewN ?_) | ((with_reducible refine Below.al ?_ ?_); · first | omega | (simp; done) | (simp; omega)) | ((with_reducible refine Below.sc ?_ ?_); · first | omega | (simp; done) | (simp; omega)) | ((with_reducible refine Below.thru hb ?_ ?_); · first | omega | (simp; done) | (simp; omega))))
      have sw1 := kw1.size
      clear hb
      have c0 := B0.d
      go_wp2_with fail
      refine (l01Fraction_any d.p d.q _).mono ?_
      rintro e w2 ⟨rfl, hb⟩
      have kw2 : Below w.heap.size w w2 := (by repeat (first | (with_reducible exact Below.refl _ _) | (with_reducible assumption) | (with_reducible refine Below.drew ?_) | (with_reducible refine Below.drewN ?_) | ((with_reducible refine Below.al ?_ ?_); · first | omega | (simp; done) | (simp; omega)) | ((with_reducible refine Below.sc ?_ ?_); · first | omega | (simp; done) | (simp; omega)) | ((with_reducible refine Below.thru hb ?_ ?_); · first | omega | (simp; done) | (simp; omega))))
      have sw2 := kw2.size
      clear hb
      go_wp2
      go_ret
      exact ⟨ret_bool (by rw [HF.out, h1, h2]; rfl), (by repeat (first | (with_reducible exact Below.refl _ _) | (with_reducible assumption) | (with_reducible refine Below.drew ?_) | (with_reducible refine Below.drewN ?_) | ((with_reducible refine Below.al ?_ ?_); · first | omega | (simp; done) | (simp; omega)) | ((with_reducible refine Below.sc ?_ ?_); · first | omega | (simp; done) | (simp; omega)) | ((with_reducible refine Below.thru hb ?_ ?_); · first | omega | (simp; done) | (simp; omega))))⟩
    | true =>
      go_enter Try.func15, Try.ntmps15
      go_wp2_with fail
      refine (l01Is_any d.m _).mono ?_
      rintro e w1 ⟨rfl, hb⟩
      have B0 : Blk w1 (w.heap.size) 32 (dcs d) := (by repeat (first | (with_reducible assumption) | (with_reducible apply Blk.d7) | (with_reducible apply Blk.dm) | (with_reducible apply Blk.df) | (with_reducible apply Blk.dl) | ((with_reducible refine Blk.new ?_); · first | omega | (simp; done) | (simp; omega)) | (with_reducible apply Blk.set4) | (with_reducible apply Blk.set3) | (with_reducible apply Blk.set2) | ((with_reducible refine Blk.put ?_ ?_); · first | omega | (simp; omega)) | (with_reducible refine Blk.old ?_) | (with_reducible refine Blk.drew ?_) | (with_reducible refine Blk.drewN ?_) | ((with_reducible refine Blk.below hb ?_ ?_); · first | omega | (simp; done) | (simp; omega))))
      have lB0 := B0.lt
      have kw1 : Below w.heap.size w w1 := (by repeat (first | (with_reducible exact Below.refl _ _) | (with_reducible assumption) | (with_reducible refine Below.drew ?_) | (with_reducible refine Below.drewN ?_) | ((with_reducible refine Below.al ?_ ?_); · first | omega | (simp; done) | (simp; omega)) | ((with_reducible refine Below.sc ?_ ?_); · first | omega | (simp; done) | (simp; omega)) | ((with_reducible refine Below.thru hb ?_ ?_); · first | omega | (simp; done) | (simp; omega))))
      have sw1 := kw1.size
      clear hb
      have c0 := B0.d
      go_wp2_with fail
      refine (l01Fraction_any d.p d.q _).mono ?_
      rintro e w2 ⟨rfl, hb⟩
      have B1 : Blk w2 (w.heap.size) 32 (dcs d) := (by repeat (first | (with_reducible assumption) | (with_reducible apply Blk.d7) | (with_reducible apply Blk.dm) | (with_reducible apply Blk.df) | (with_reducible apply Blk.dl) | ((with_reducible refine Blk.new ?_); · first | omega | (simp; done) | (simp; omega)) | (with_reducible apply Blk.set4) | (with_reducible apply Blk.set3) | (with_reducible apply Blk.set2) | ((with_reducible refine Blk.put ?_ ?_); · first | omega | (simp; omega)) | (with_reducible refine Blk.old ?_) | (with_reducible refine Blk.drew ?_) | (with_reducible refine Blk.drewN ?_) | ((with_reducible refine Blk.below hb ?_ ?_); · first | omega | (simp; done) | (simp; omega))))
      have lB1 := B1.lt
      have kw2 : Below w.heap.size w w2 := (by repeat (first | (with_reducible exact Below.refl _ _) | (with_reducible assumption) | (with_reducible refine Below.drew ?_) | (with_reducible refine Below.drewN ?_) | ((with_reducible refine Below.al ?_ ?_); · first | omega | (simp; done) | (simp; omega)) | ((with_reducible refine Below.sc ?_ ?_); · first | omega | (simp; done) | (simp; omega)) | ((with_reducible refine Below.thru hb ?_ ?_); · first | omega | (simp; done) | (simp; omega))))
      have sw2 := kw2.size
      clear hb
      have c1 := B1.d
      go_wp2_with (go_at_call 35; refine (l01In_any _ _ _ _).mono ?_; rintro e w' ⟨rfl, rfl⟩)
      go_ret
      exact ⟨ret_bool (by rw [HF.out, h1, h2]; rfl), (by repeat (first | (with_reducible exact Below.refl _ _) | (with_reducible assumption) | (with_reducible refine Below.drew ?_) | (with_reducible refine Below.drewN ?_) | ((with_reducible refine Below.al ?_ ?_); · first | omega | (simp; done) | (simp; omega)) | ((with_reducible refine Below.sc ?_ ?_); · first | omega | (simp; done) | (simp; omega)) | ((with_reducible refine Below.thru hb ?_ ?_); · first | omega | (simp; done) | (simp; omega))))⟩

set_option maxHeartbeats 400000 in
theorem isLevel_any (n : Int) (w : World) :
    Calls Try.prog 39 #[.int .i64 n] w fun e w' => e = .returned (.bool (inB n 1 60)) ∧ w = w' := by
  go_enter Try.func39, Try.ntmps39
  go_wp2_with (go_at_call 29; refine (within_any _ _ _ _).mono ?_; rintro e w' ⟨rfl, rfl⟩)
  go_ret
  exact ⟨rfl, rfl⟩

set_option maxHeartbeats 1000000 in
theorem IsDesk_any (d : Dk) (w : World) :
    Calls Try.prog 17 #[.agg #[.int .i64 d.m.a, .int .i64 d.m.b, .int .i64 d.m.c, .int .i64 d.m.d, .int .i64 d.p, .int .i64 d.q, .int .i64 d.l]] w fun e w' => e = .returned (.bool d.ok) ∧ Below w.heap.size w w' := by
  have F : d.ok = (d.m.ok && fracB d.p d.q && inB d.l 1 60) := rfl
  have HF := Lib.hid F
  clear F
  cases h1 : d.m.ok with
  | false =>
    go_enter Try.func17, Try.ntmps17
    go_wp2_with fail
    refine (IsMatrix_any d.m _).mono ?_
    rintro e w1 ⟨rfl, hb⟩
    have kw1 : Below w.heap.size w w1 := (by repeat (first | (with_reducible exact Below.refl _ _) | (with_reducible assumption) | (with_reducible refine Below.drew ?_) | (with_reducible refine Below.drewN ?_) | ((with_reducible refine Below.al ?_ ?_); · first | omega | (simp; done) | (simp; omega)) | ((with_reducible refine Below.sc ?_ ?_); · first | omega | (simp; done) | (simp; omega)) | ((with_reducible refine Below.thru hb ?_ ?_); · first | omega | (simp; done) | (simp; omega))))
    have sw1 := kw1.size
    clear hb
    go_wp2
    go_ret
    exact ⟨ret_bool (by rw [HF.out, h1]; rfl), (by repeat (first | (with_reducible exact Below.refl _ _) | (with_reducible assumption) | (with_reducible refine Below.drew ?_) | (with_reducible refine Below.drewN ?_) | ((with_reducible refine Below.al ?_ ?_); · first | omega | (simp; done) | (simp; omega)) | ((with_reducible refine Below.sc ?_ ?_); · first | omega | (simp; done) | (simp; omega)) | ((with_reducible refine Below.thru hb ?_ ?_); · first | omega | (simp; done) | (simp; omega))))⟩
  | true =>
    cases h2 : fracB d.p d.q with
    | false =>
      go_enter Try.func17, Try.ntmps17
      go_wp2_with fail
      refine (IsMatrix_any d.m _).mono ?_
      rintro e w1 ⟨rfl, hb⟩
      have B0 : Blk w1 (w.heap.size) 32 (dcs d) := (by repeat (first | (with_reducible assumption) | (with_reducible apply Blk.d7) | (with_reducible apply Blk.dm) | (with_reducible apply Blk.df) | (with_reducible apply Blk.dl) | ((with_reducible refine Blk.new ?_); · first | omega | (simp; done) | (simp; omega)) | (with_reducible apply Blk.set4) | (with_reducible apply Blk.set3) | (with_reducible apply Blk.set2) | ((with_reducible refine Blk.put ?_ ?_); · first | omega | (simp; omega)) | (with_reducible refine Blk.old ?_) | (with_reducible refine Blk.drew ?_) | (with_reducible refine Blk.drewN ?_) | ((with_reducible refine Blk.below hb ?_ ?_); · first | omega | (simp; done) | (simp; omega))))
      have lB0 := B0.lt
      have kw1 : Below w.heap.size w w1 := (by repeat (first | (with_reducible exact Below.refl _ _) | (with_reducible assumption) | (with_reducible refine Below.drew ?_) | (with_reducible refine Below.drewN ?_) | ((with_reducible refine Below.al ?_ ?_); · first | omega | (simp; done) | (simp; omega)) | ((with_reducible refine Below.sc ?_ ?_); · first | omega | (simp; done) | (simp; omega)) | ((with_reducible refine Below.thru hb ?_ ?_); · first | omega | (simp; done) | (simp; omega))))
      have sw1 := kw1.size
      clear hb
      have c0 := B0.d
      go_wp2_with fail
      refine (IsFraction_any d.p d.q _).mono ?_
      rintro e w2 ⟨rfl, hb⟩
      have kw2 : Below w.heap.size w w2 := (by repeat (first | (with_reducible exact Below.refl _ _) | (with_reducible assumption) | (with_reducible refine Below.drew ?_) | (with_reducible refine Below.drewN ?_) | ((with_reducible refine Below.al ?_ ?_); · first | omega | (simp; done) | (simp; omega)) | ((with_reducible refine Below.sc ?_ ?_); · first | omega | (simp; done) | (simp; omega)) | ((with_reducible refine Below.thru hb ?_ ?_); · first | omega | (simp; done) | (simp; omega))))
      have sw2 := kw2.size
      clear hb
      go_wp2
      go_ret
      exact ⟨ret_bool (by rw [HF.out, h1, h2]; rfl), (by repeat (first | (with_reducible exact Below.refl _ _) | (with_reducible assumption) | (with_reducible refine Below.drew ?_) | (with_reducible refine Below.drewN ?_) | ((with_reducible refine Below.al ?_ ?_); · first | omega | (simp; done) | (simp; omega)) | ((with_reducible refine Below.sc ?_ ?_); · first | omega | (simp; done) | (simp; omega)) | ((with_reducible refine Below.thru hb ?_ ?_); · first | omega | (simp; done) | (simp; omega))))⟩
    | true =>
      go_enter Try.func17, Try.ntmps17
      go_wp2_with fail
      refine (IsMatrix_any d.m _).mono ?_
      rintro e w1 ⟨rfl, hb⟩
      have B0 : Blk w1 (w.heap.size) 32 (dcs d) := (by repeat (first | (with_reducible assumption) | (with_reducible apply Blk.d7) | (with_reducible apply Blk.dm) | (with_reducible apply Blk.df) | (with_reducible apply Blk.dl) | ((with_reducible refine Blk.new ?_); · first | omega | (simp; done) | (simp; omega)) | (with_reducible apply Blk.set4) | (with_reducible apply Blk.set3) | (with_reducible apply Blk.set2) | ((with_reducible refine Blk.put ?_ ?_); · first | omega | (simp; omega)) | (with_reducible refine Blk.old ?_) | (with_reducible refine Blk.drew ?_) | (with_reducible refine Blk.drewN ?_) | ((with_reducible refine Blk.below hb ?_ ?_); · first | omega | (simp; done) | (simp; omega))))
      have lB0 := B0.lt
      have kw1 : Below w.heap.size w w1 := (by repeat (first | (with_reducible exact Below.refl _ _) | (with_reducible assumption) | (with_reducible refine Below.drew ?_) | (with_reducible refine Below.drewN ?_) | ((with_reducible refine Below.al ?_ ?_); · first | omega | (simp; done) | (simp; omega)) | ((with_reducible refine Below.sc ?_ ?_); · first | omega | (simp; done) | (simp; omega)) | ((with_reducible refine Below.thru hb ?_ ?_); · first | omega | (simp; done) | (simp; omega))))
      have sw1 := kw1.size
      clear hb
      have c0 := B0.d
      go_wp2_with fail
      refine (IsFraction_any d.p d.q _).mono ?_
      rintro e w2 ⟨rfl, hb⟩
      have B1 : Blk w2 (w.heap.size) 32 (dcs d) := (by repeat (first | (with_reducible assumption) | (with_reducible apply Blk.d7) | (with_reducible apply Blk.dm) | (with_reducible apply Blk.df) | (with_reducible apply Blk.dl) | ((with_reducible refine Blk.new ?_); · first | omega | (simp; done) | (simp; omega)) | (with_reducible apply Blk.set4) | (with_reducible apply Blk.set3) | (with_reducible apply Blk.set2) | ((with_reducible refine Blk.put ?_ ?_); · first | omega | (simp; omega)) | (with_reducible refine Blk.old ?_) | (with_reducible refine Blk.drew ?_) | (with_reducible refine Blk.drewN ?_) | ((with_reducible refine Blk.below hb ?_ ?_); · first | omega | (simp; done) | (simp; omega))))
      have lB1 := B1.lt
      have kw2 : Below w.heap.size w w2 := (by repeat (first | (with_reducible exact Below.refl _ _) | (with_reducible assumption) | (with_reducible refine Below.drew ?_) | (with_reducible refine Below.drewN ?_) | ((with_reducible refine Below.al ?_ ?_); · first | omega | (simp; done) | (simp; omega)) | ((with_reducible refine Below.sc ?_ ?_); · first | omega | (simp; done) | (simp; omega)) | ((with_reducible refine Below.thru hb ?_ ?_); · first | omega | (simp; done) | (simp; omega))))
      have sw2 := kw2.size
      clear hb
      have c1 := B1.d
      go_wp2_with (go_at_call 39; refine (isLevel_any _ _).mono ?_; rintro e w' ⟨rfl, rfl⟩)
      go_ret
      exact ⟨ret_bool (by rw [HF.out, h1, h2]; rfl), (by repeat (first | (with_reducible exact Below.refl _ _) | (with_reducible assumption) | (with_reducible refine Below.drew ?_) | (with_reducible refine Below.drewN ?_) | ((with_reducible refine Below.al ?_ ?_); · first | omega | (simp; done) | (simp; omega)) | ((with_reducible refine Below.sc ?_ ?_); · first | omega | (simp; done) | (simp; omega)) | ((with_reducible refine Below.thru hb ?_ ?_); · first | omega | (simp; done) | (simp; omega))))⟩

set_option maxHeartbeats 1000000 in
theorem eqFraction_same (p q : Int) (w : World) :
    Calls Try.prog 32 #[.agg #[.int .i64 p, .int .i64 q], .agg #[.int .i64 p, .int .i64 q]] w fun e w' => e = .returned (.bool true) ∧ Below w.heap.size w w' := by
  go_enter Try.func32, Try.ntmps32
  go_wp2
  refine wp_loop_rounds 3 ?_
  rw [rounds_succ]
  go_wp2_with fail
  go_quiet (fail)
  go_wp2
  rw [rounds_succ]
  go_wp2_with fail
  go_quiet (fail)
  go_wp2
  rw [rounds_succ]
  go_wp2
  go_ret
  exact ⟨rfl, (by repeat (first | (with_reducible exact Below.refl _ _) | (with_reducible assumption) | (with_reducible refine Below.drew ?_) | (with_reducible refine Below.drewN ?_) | ((with_reducible refine Below.al ?_ ?_); · first | omega | (simp; done) | (simp; omega)) | ((with_reducible refine Below.sc ?_ ?_); · first | omega | (simp; done) | (simp; omega)) | ((with_reducible refine Below.thru hb ?_ ?_); · first | omega | (simp; done) | (simp; omega))))⟩

set_option maxHeartbeats 1000000 in
theorem eqMatrix_same (m : M) (w : World) :
    Calls Try.prog 31 #[.agg #[.int .i64 m.a, .int .i64 m.b, .int .i64 m.c, .int .i64 m.d], .agg #[.int .i64 m.a, .int .i64 m.b, .int .i64 m.c, .int .i64 m.d]] w fun e w' => e = .returned (.bool true) ∧ Below w.heap.size w w' := by
  go_enter Try.func31, Try.ntmps31
  go_wp2
  refine wp_loop_rounds 5 ?_
  rw [rounds_succ]
  go_wp2_with fail
  go_quiet (fail)
  go_wp2
  rw [rounds_succ]
  go_wp2_with fail
  go_quiet (fail)
  go_wp2
  rw [rounds_succ]
  go_wp2_with fail
  go_quiet (fail)
  go_wp2
  rw [rounds_succ]
  go_wp2_with fail
  go_quiet (fail)
  go_wp2
  rw [rounds_succ]
  go_wp2
  go_ret
  exact ⟨rfl, (by repeat (first | (with_reducible exact Below.refl _ _) | (with_reducible assumption) | (with_reducible refine Below.drew ?_) | (with_reducible refine Below.drewN ?_) | ((with_reducible refine Below.al ?_ ?_); · first | omega | (simp; done) | (simp; omega)) | ((with_reducible refine Below.sc ?_ ?_); · first | omega | (simp; done) | (simp; omega)) | ((with_reducible refine Below.thru hb ?_ ?_); · first | omega | (simp; done) | (simp; omega))))⟩

set_option maxHeartbeats 1000000 in
theorem eqDesk_same (d : Dk) (w : World) :
    Calls Try.prog 14 #[.agg (dcs d), .agg (dcs d)] w fun e w' => e = .returned (.bool true) ∧ Below w.heap.size w w' := by
  go_enter Try.func14, Try.ntmps14
  go_wp2_with fail
  refine (eqMatrix_same d.m _).mono ?_
  rintro e w1 ⟨rfl, hb⟩
  have B0 : Blk w1 (w.heap.size) 32 (dcs d) := (by repeat (first | (with_reducible assumption) | (with_reducible apply Blk.d7) | (with_reducible apply Blk.dm) | (with_reducible apply Blk.df) | (with_reducible apply Blk.dl) | ((with_reducible refine Blk.new ?_); · first | omega | (simp; done) | (simp; omega)) | (with_reducible apply Blk.set4) | (with_reducible apply Blk.set3) | (with_reducible apply Blk.set2) | ((with_reducible refine Blk.put ?_ ?_); · first | omega | (simp; omega)) | (with_reducible refine Blk.old ?_) | (with_reducible refine Blk.drew ?_) | (with_reducible refine Blk.drewN ?_) | ((with_reducible refine Blk.below hb ?_ ?_); · first | omega | (simp; done) | (simp; omega))))
  have lB0 := B0.lt
  have B1 : Blk w1 (w.heap.size + 1) 32 (dcs d) := (by repeat (first | (with_reducible assumption) | (with_reducible apply Blk.d7) | (with_reducible apply Blk.dm) | (with_reducible apply Blk.df) | (with_reducible apply Blk.dl) | ((with_reducible refine Blk.new ?_); · first | omega | (simp; done) | (simp; omega)) | (with_reducible apply Blk.set4) | (with_reducible apply Blk.set3) | (with_reducible apply Blk.set2) | ((with_reducible refine Blk.put ?_ ?_); · first | omega | (simp; omega)) | (with_reducible refine Blk.old ?_) | (with_reducible refine Blk.drew ?_) | (with_reducible refine Blk.drewN ?_) | ((with_reducible refine Blk.below hb ?_ ?_); · first | omega | (simp; done) | (simp; omega))))
  have lB1 := B1.lt
  have kw1 : Below w.heap.size w w1 := (by repeat (first | (with_reducible exact Below.refl _ _) | (with_reducible assumption) | (with_reducible refine Below.drew ?_) | (with_reducible refine Below.drewN ?_) | ((with_reducible refine Below.al ?_ ?_); · first | omega | (simp; done) | (simp; omega)) | ((with_reducible refine Below.sc ?_ ?_); · first | omega | (simp; done) | (simp; omega)) | ((with_reducible refine Below.thru hb ?_ ?_); · first | omega | (simp; done) | (simp; omega))))
  have sw1 := kw1.size
  clear hb
  have c0 := B0.d
  have c1 := B1.d
  go_wp2_with fail
  refine (eqFraction_same d.p d.q _).mono ?_
  rintro e w2 ⟨rfl, hb⟩
  have D0 : Blk w2 (w.heap.size) 32 (dcs d) := (by repeat (first | (with_reducible assumption) | (with_reducible apply Blk.d7) | (with_reducible apply Blk.dm) | (with_reducible apply Blk.df) | (with_reducible apply Blk.dl) | ((with_reducible refine Blk.new ?_); · first | omega | (simp; done) | (simp; omega)) | (with_reducible apply Blk.set4) | (with_reducible apply Blk.set3) | (with_reducible apply Blk.set2) | ((with_reducible refine Blk.put ?_ ?_); · first | omega | (simp; omega)) | (with_reducible refine Blk.old ?_) | (with_reducible refine Blk.drew ?_) | (with_reducible refine Blk.drewN ?_) | ((with_reducible refine Blk.below hb ?_ ?_); · first | omega | (simp; done) | (simp; omega))))
  have lD0 := D0.lt
  have D1 : Blk w2 (w.heap.size + 1) 32 (dcs d) := (by repeat (first | (with_reducible assumption) | (with_reducible apply Blk.d7) | (with_reducible apply Blk.dm) | (with_reducible apply Blk.df) | (with_reducible apply Blk.dl) | ((with_reducible refine Blk.new ?_); · first | omega | (simp; done) | (simp; omega)) | (with_reducible apply Blk.set4) | (with_reducible apply Blk.set3) | (with_reducible apply Blk.set2) | ((with_reducible refine Blk.put ?_ ?_); · first | omega | (simp; omega)) | (with_reducible refine Blk.old ?_) | (with_reducible refine Blk.drew ?_) | (with_reducible refine Blk.drewN ?_) | ((with_reducible refine Blk.below hb ?_ ?_); · first | omega | (simp; done) | (simp; omega))))
  have lD1 := D1.lt
  have kw2 : Below w.heap.size w w2 := (by repeat (first | (with_reducible exact Below.refl _ _) | (with_reducible assumption) | (with_reducible refine Below.drew ?_) | (with_reducible refine Below.drewN ?_) | ((with_reducible refine Below.al ?_ ?_); · first | omega | (simp; done) | (simp; omega)) | ((with_reducible refine Below.sc ?_ ?_); · first | omega | (simp; done) | (simp; omega)) | ((with_reducible refine Below.thru hb ?_ ?_); · first | omega | (simp; done) | (simp; omega))))
  have sw2 := kw2.size
  clear hb
  clear B0 B1 c0 c1
  have c0 := D0.d
  have c1 := D1.d
  go_wp2
  go_ret
  exact ⟨rfl, (by repeat (first | (with_reducible exact Below.refl _ _) | (with_reducible assumption) | (with_reducible refine Below.drew ?_) | (with_reducible refine Below.drewN ?_) | ((with_reducible refine Below.al ?_ ?_); · first | omega | (simp; done) | (simp; omega)) | ((with_reducible refine Below.sc ?_ ?_); · first | omega | (simp; done) | (simp; omega)) | ((with_reducible refine Below.thru hb ?_ ?_); · first | omega | (simp; done) | (simp; omega))))⟩

def newDk : Dk := ⟨⟨2, 1, 1, 1⟩, 1, 0, 2⟩
set_option maxHeartbeats 1000000 in
theorem l11New_any (w : World) :
    Calls Try.prog 30 #[] w fun e w' => e = .returned (.agg #[.int .i64 2, .int .i64 1, .int .i64 1, .int .i64 1, .int .i64 1, .int .i64 0, .int .i64 2]) ∧ Below w.heap.size w w' := by
  go_enter Try.func30, Try.ntmps30
  go_wp2
  refine bodyPost_ret (v := .agg #[.int .i64 2, .int .i64 1, .int .i64 1, .int .i64 1, .int .i64 1, .int .i64 0, .int .i64 2]) (by simp [results, Try.results30, go_sem]) rfl ?_
  exact ⟨rfl, (by repeat (first | (with_reducible exact Below.refl _ _) | (with_reducible assumption) | (with_reducible refine Below.drew ?_) | (with_reducible refine Below.drewN ?_) | ((with_reducible refine Below.al ?_ ?_); · first | omega | (simp; done) | (simp; omega)) | ((with_reducible refine Below.sc ?_ ?_); · first | omega | (simp; done) | (simp; omega)) | ((with_reducible refine Below.thru hb ?_ ?_); · first | omega | (simp; done) | (simp; omega))))⟩
set_option maxHeartbeats 1000000 in
theorem specNewDesk_any (w : World) :
    Calls Try.prog 12 #[] w fun e w' => e = .returned (.agg #[.int .i64 2, .int .i64 1, .int .i64 1, .int .i64 1, .int .i64 1, .int .i64 0, .int .i64 2]) ∧ Below w.heap.size w w' := by
  go_enter Try.func12, Try.ntmps12
  go_wp2_with fail
  refine (l11New_any _).mono ?_
  rintro e w1 ⟨rfl, hb⟩
  have B0 : Blk w1 (w.heap.size) 32 (dcs ⟨⟨0, 0, 0, 0⟩, 0, 0, 0⟩) := (by repeat (first | (with_reducible assumption) | (with_reducible apply Blk.d7) | (with_reducible apply Blk.dm) | (with_reducible apply Blk.df) | (with_reducible apply Blk.dl) | ((with_reducible refine Blk.new ?_); · first | omega | (simp; done) | (simp; omega)) | (with_reducible apply Blk.set4) | (with_reducible apply Blk.set3) | (with_reducible apply Blk.set2) | ((with_reducible refine Blk.put ?_ ?_); · first | omega | (simp; omega)) | (with_reducible refine Blk.old ?_) | (with_reducible refine Blk.drew ?_) | (with_reducible refine Blk.drewN ?_) | ((with_reducible refine Blk.below hb ?_ ?_); · first | omega | (simp; done) | (simp; omega))))
  have lB0 := B0.lt
  have kw1 : Below w.heap.size w w1 := (by repeat (first | (with_reducible exact Below.refl _ _) | (with_reducible assumption) | (with_reducible refine Below.drew ?_) | (with_reducible refine Below.drewN ?_) | ((with_reducible refine Below.al ?_ ?_); · first | omega | (simp; done) | (simp; omega)) | ((with_reducible refine Below.sc ?_ ?_); · first | omega | (simp; done) | (simp; omega)) | ((with_reducible refine Below.thru hb ?_ ?_); · first | omega | (simp; done) | (simp; omega))))
  have sw1 := kw1.size
  clear hb
  have c0 := B0.d
  have f0 := B0.dfr
  go_wp2
  refine ret_at (v := .agg #[.int .i64 2, .int .i64 1, .int .i64 1, .int .i64 1, .int .i64 1, .int .i64 0, .int .i64 2]) (fun w' => Blk w' (w.heap.size) 32 (dcs ⟨⟨2, 1, 1, 1⟩, 1, 0, 2⟩)) (by repeat (first | (with_reducible assumption) | (with_reducible apply Blk.d7) | (with_reducible apply Blk.dm) | (with_reducible apply Blk.df) | (with_reducible apply Blk.dl) | ((with_reducible refine Blk.new ?_); · first | omega | (simp; done) | (simp; omega)) | (with_reducible apply Blk.set4) | (with_reducible apply Blk.set3) | (with_reducible apply Blk.set2) | ((with_reducible refine Blk.put ?_ ?_); · first | omega | (simp; omega)) | (with_reducible refine Blk.old ?_) | (with_reducible refine Blk.drew ?_) | (with_reducible refine Blk.drewN ?_) | ((with_reducible refine Blk.below hb ?_ ?_); · first | omega | (simp; done) | (simp; omega)))) (fun w' hB => by have q := hB.d; simp [results, Try.results12, go_sem, q]) rfl ?_
  exact ⟨rfl, (by repeat (first | (with_reducible exact Below.refl _ _) | (with_reducible assumption) | (with_reducible refine Below.drew ?_) | (with_reducible refine Below.drewN ?_) | ((with_reducible refine Below.al ?_ ?_); · first | omega | (simp; done) | (simp; omega)) | ((with_reducible refine Below.sc ?_ ?_); · first | omega | (simp; done) | (simp; omega)) | ((with_reducible refine Below.thru hb ?_ ?_); · first | omega | (simp; done) | (simp; omega))))⟩
set_option maxHeartbeats 1000000 in
theorem NewDesk_any (w : World) :
    Calls Try.prog 13 #[] w fun e w' => e = .returned (.agg #[.int .i64 2, .int .i64 1, .int .i64 1, .int .i64 1, .int .i64 1, .int .i64 0, .int .i64 2]) ∧ Below w.heap.size w w' := by
  go_enter Try.func13, Try.ntmps13
  go_wp2
  refine bodyPost_ret (v := .agg #[.int .i64 2, .int .i64 1, .int .i64 1, .int .i64 1, .int .i64 1, .int .i64 0, .int .i64 2]) (by simp [results, Try.results13, go_sem]) rfl ?_
  exact ⟨rfl, (by repeat (first | (with_reducible exact Below.refl _ _) | (with_reducible assumption) | (with_reducible refine Below.drew ?_) | (with_reducible refine Below.drewN ?_) | ((with_reducible refine Below.al ?_ ?_); · first | omega | (simp; done) | (simp; omega)) | ((with_reducible refine Below.sc ?_ ?_); · first | omega | (simp; done) | (simp; omega)) | ((with_reducible refine Below.thru hb ?_ ?_); · first | omega | (simp; done) | (simp; omega))))⟩

set_option maxHeartbeats 1000000 in
theorem FnExactNewDesk_walk (w : World) :
    Calls Try.prog 4 #[] w fun e w' => e = .returned (.bool true) ∧ Below w.heap.size w w' := by
  go_enter Try.func4, Try.ntmps4
  go_wp2_with fail
  refine (specNewDesk_any _).mono ?_
  rintro e w1 ⟨rfl, hb⟩
  have kw1 : Below w.heap.size w w1 := (by repeat (first | (with_reducible exact Below.refl _ _) | (with_reducible assumption) | (with_reducible refine Below.drew ?_) | (with_reducible refine Below.drewN ?_) | ((with_reducible refine Below.al ?_ ?_); · first | omega | (simp; done) | (simp; omega)) | ((with_reducible refine Below.sc ?_ ?_); · first | omega | (simp; done) | (simp; omega)) | ((with_reducible refine Below.thru hb ?_ ?_); · first | omega | (simp; done) | (simp; omega))))
  have sw1 := kw1.size
  clear hb
  go_wp2_with fail
  refine (NewDesk_any _).mono ?_
  rintro e w2 ⟨rfl, hb⟩
  have B0 : Blk w2 (w1.heap.size) 32 (dcs ⟨⟨2, 1, 1, 1⟩, 1, 0, 2⟩) := (by repeat (first | (with_reducible assumption) | (with_reducible apply Blk.d7) | (with_reducible apply Blk.dm) | (with_reducible apply Blk.df) | (with_reducible apply Blk.dl) | ((with_reducible refine Blk.new ?_); · first | omega | (simp; done) | (simp; omega)) | (with_reducible apply Blk.set4) | (with_reducible apply Blk.set3) | (with_reducible apply Blk.set2) | ((with_reducible refine Blk.put ?_ ?_); · first | omega | (simp; omega)) | (with_reducible refine Blk.old ?_) | (with_reducible refine Blk.drew ?_) | (with_reducible refine Blk.drewN ?_) | ((with_reducible refine Blk.below hb ?_ ?_); · first | omega | (simp; done) | (simp; omega))))
  have lB0 := B0.lt
  have kw2 : Below w.heap.size w w2 := (by repeat (first | (with_reducible exact Below.refl _ _) | (with_reducible assumption) | (with_reducible refine Below.drew ?_) | (with_reducible refine Below.drewN ?_) | ((with_reducible refine Below.al ?_ ?_); · first | omega | (simp; done) | (simp; omega)) | ((with_reducible refine Below.sc ?_ ?_); · first | omega | (simp; done) | (simp; omega)) | ((with_reducible refine Below.thru hb ?_ ?_); · first | omega | (simp; done) | (simp; omega))))
  have sw2 := kw2.size
  clear hb
  have c0 := B0.d
  go_wp2_with fail
  refine (eqDesk_same ⟨⟨2, 1, 1, 1⟩, 1, 0, 2⟩ _).mono ?_
  rintro e w3 ⟨rfl, hb⟩
  have kw3 : Below w.heap.size w w3 := (by repeat (first | (with_reducible exact Below.refl _ _) | (with_reducible assumption) | (with_reducible refine Below.drew ?_) | (with_reducible refine Below.drewN ?_) | ((with_reducible refine Below.al ?_ ?_); · first | omega | (simp; done) | (simp; omega)) | ((with_reducible refine Below.sc ?_ ?_); · first | omega | (simp; done) | (simp; omega)) | ((with_reducible refine Below.thru hb ?_ ?_); · first | omega | (simp; done) | (simp; omega))))
  have sw3 := kw3.size
  clear hb
  go_wp2
  go_ret
  exact ⟨rfl, (by repeat (first | (with_reducible exact Below.refl _ _) | (with_reducible assumption) | (with_reducible refine Below.drew ?_) | (with_reducible refine Below.drewN ?_) | ((with_reducible refine Below.al ?_ ?_); · first | omega | (simp; done) | (simp; omega)) | ((with_reducible refine Below.sc ?_ ?_); · first | omega | (simp; done) | (simp; omega)) | ((with_reducible refine Below.thru hb ?_ ?_); · first | omega | (simp; done) | (simp; omega))))⟩

set_option maxHeartbeats 1000000 in
theorem FnExactIsDesk_walk (d : Dk) (w : World) :
    Calls Try.prog 5 #[.agg #[.int .i64 d.m.a, .int .i64 d.m.b, .int .i64 d.m.c, .int .i64 d.m.d, .int .i64 d.p, .int .i64 d.q, .int .i64 d.l]] w fun e w' => e = .returned (.bool true) ∧ Below w.heap.size w w' := by
  go_enter Try.func5, Try.ntmps5
  go_wp2_with fail
  refine (toDesk_any d _).mono ?_
  rintro e w1 ⟨rfl, hb⟩
  have B0 : Blk w1 (w.heap.size) 37 (dcs d) := (by repeat (first | (with_reducible assumption) | (with_reducible apply Blk.d7) | (with_reducible apply Blk.dm) | (with_reducible apply Blk.df) | (with_reducible apply Blk.dl) | ((with_reducible refine Blk.new ?_); · first | omega | (simp; done) | (simp; omega)) | (with_reducible apply Blk.set4) | (with_reducible apply Blk.set3) | (with_reducible apply Blk.set2) | ((with_reducible refine Blk.put ?_ ?_); · first | omega | (simp; omega)) | (with_reducible refine Blk.old ?_) | (with_reducible refine Blk.drew ?_) | (with_reducible refine Blk.drewN ?_) | ((with_reducible refine Blk.below hb ?_ ?_); · first | omega | (simp; done) | (simp; omega))))
  have lB0 := B0.lt
  have kw1 : Below w.heap.size w w1 := (by repeat (first | (with_reducible exact Below.refl _ _) | (with_reducible assumption) | (with_reducible refine Below.drew ?_) | (with_reducible refine Below.drewN ?_) | ((with_reducible refine Below.al ?_ ?_); · first | omega | (simp; done) | (simp; omega)) | ((with_reducible refine Below.sc ?_ ?_); · first | omega | (simp; done) | (simp; omega)) | ((with_reducible refine Below.thru hb ?_ ?_); · first | omega | (simp; done) | (simp; omega))))
  have sw1 := kw1.size
  clear hb
  go_wp2_with fail
  refine (specIsDesk_any d _).mono ?_
  rintro e w2 ⟨rfl, hb⟩
  have B2 : Blk w2 (w.heap.size) 37 (dcs d) := (by repeat (first | (with_reducible assumption) | (with_reducible apply Blk.d7) | (with_reducible apply Blk.dm) | (with_reducible apply Blk.df) | (with_reducible apply Blk.dl) | ((with_reducible refine Blk.new ?_); · first | omega | (simp; done) | (simp; omega)) | (with_reducible apply Blk.set4) | (with_reducible apply Blk.set3) | (with_reducible apply Blk.set2) | ((with_reducible refine Blk.put ?_ ?_); · first | omega | (simp; omega)) | (with_reducible refine Blk.old ?_) | (with_reducible refine Blk.drew ?_) | (with_reducible refine Blk.drewN ?_) | ((with_reducible refine Blk.below hb ?_ ?_); · first | omega | (simp; done) | (simp; omega))))
  have lB2 := B2.lt
  have kw2 : Below w.heap.size w w2 := (by repeat (first | (with_reducible exact Below.refl _ _) | (with_reducible assumption) | (with_reducible refine Below.drew ?_) | (with_reducible refine Below.drewN ?_) | ((with_reducible refine Below.al ?_ ?_); · first | omega | (simp; done) | (simp; omega)) | ((with_reducible refine Below.sc ?_ ?_); · first | omega | (simp; done) | (simp; omega)) | ((with_reducible refine Below.thru hb ?_ ?_); · first | omega | (simp; done) | (simp; omega))))
  have sw2 := kw2.size
  clear hb
  have c0 := B2.d
  go_wp2_with fail
  refine (toDesk_any d _).mono ?_
  rintro e w3 ⟨rfl, hb⟩
  have kw3 : Below w.heap.size w w3 := (by repeat (first | (with_reducible exact Below.refl _ _) | (with_reducible assumption) | (with_reducible refine Below.drew ?_) | (with_reducible refine Below.drewN ?_) | ((with_reducible refine Below.al ?_ ?_); · first | omega | (simp; done) | (simp; omega)) | ((with_reducible refine Below.sc ?_ ?_); · first | omega | (simp; done) | (simp; omega)) | ((with_reducible refine Below.thru hb ?_ ?_); · first | omega | (simp; done) | (simp; omega))))
  have sw3 := kw3.size
  clear hb
  go_wp2_with fail
  refine (IsDesk_any d _).mono ?_
  rintro e w4 ⟨rfl, hb⟩
  have kw4 : Below w.heap.size w w4 := (by repeat (first | (with_reducible exact Below.refl _ _) | (with_reducible assumption) | (with_reducible refine Below.drew ?_) | (with_reducible refine Below.drewN ?_) | ((with_reducible refine Below.al ?_ ?_); · first | omega | (simp; done) | (simp; omega)) | ((with_reducible refine Below.sc ?_ ?_); · first | omega | (simp; done) | (simp; omega)) | ((with_reducible refine Below.thru hb ?_ ?_); · first | omega | (simp; done) | (simp; omega))))
  have sw4 := kw4.size
  clear hb
  go_wp2
  go_ret
  exact ⟨rfl, (by repeat (first | (with_reducible exact Below.refl _ _) | (with_reducible assumption) | (with_reducible refine Below.drew ?_) | (with_reducible refine Below.drewN ?_) | ((with_reducible refine Below.al ?_ ?_); · first | omega | (simp; done) | (simp; omega)) | ((with_reducible refine Below.sc ?_ ?_); · first | omega | (simp; done) | (simp; omega)) | ((with_reducible refine Below.thru hb ?_ ?_); · first | omega | (simp; done) | (simp; omega))))⟩

end Go.Proofs.Ytifojoikeokecaa
