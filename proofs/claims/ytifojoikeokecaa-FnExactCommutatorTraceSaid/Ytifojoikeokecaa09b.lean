/- Contracts of the traces of chapter 9: the trace of the commutator. -/
import Derived.Test.Ytifojoikeokecaa01b
import Derived.Test.Ytifojoikeokecaa01c
import Derived.Test.YtifojoikeokecaaLaw
namespace Go.Proofs.Ytifojoikeokecaa
open Go.RowKit
set_option linter.unusedSimpArgs false

def M.at (m : M) : Nat → Int
  | 0 => m.a
  | 1 => m.b
  | 2 => m.c
  | _ => m.d
theorem Blk.mk_at {w : World} {g : Nat} {E : TypeId} {m : M} (h : Blk w g E (mcs m)) (k : Nat) (hk : k < 4) : w.cell? ⟨g, k, none⟩ = some (.int .i64 (m.at k)) := by
  match k, hk with
  | 0, _ => exact h.at rfl
  | 1, _ => exact h.at rfl
  | 2, _ => exact h.at rfl
  | 3, _ => exact h.at rfl

/-- Are all numbers at most 1000, without their signs? -/
def smallAt (m n : M) (k : Nat) : Bool := inB (m.at k) (-1000) 1000 && inB (n.at k) (-1000) 1000
def smallB (m n : M) : Bool := smallAt m n 0 && (smallAt m n 1 && (smallAt m n 2 && smallAt m n 3))
theorem smallB_at {m n : M} (h : smallB m n = true) (k : Nat) (hk : k < 4) : smallAt m n k = true := by
  simp only [smallB, Bool.and_eq_true] at h
  match k, hk with
  | 0, _ => exact h.1
  | 1, _ => exact h.2.1
  | 2, _ => exact h.2.2.1
  | 3, _ => exact h.2.2.2
theorem smallB_of {m n : M} (h : ∀ k, k < 4 → smallAt m n k = true) : smallB m n = true := by
  simp only [smallB, h 0 (by omega), h 1 (by omega), h 2 (by omega), h 3 (by omega), Bool.and_true]
theorem smallB_no {m n : M} {k : Nat} (hk : k < 4) (h : smallAt m n k = false) : smallB m n = false := by
  cases e : smallB m n with
  | false => rfl
  | true => rw [smallB_at e k hk] at h; exact h
def comT (m n : M) : Int := m.tr * m.tr + n.tr * n.tr + (m.mul n).tr * (m.mul n).tr - m.tr * n.tr * (m.mul n).tr - 2
def comR (m n : M) : Int × Int := if m.ok && n.ok then (if smallB m n then (comT m n, 0) else (0, 2)) else (0, 1)

theorem small_bd {m n : M} (h : smallB m n = true) : ((-1000 ≤ m.a ∧ m.a ≤ 1000) ∧ (-1000 ≤ m.b ∧ m.b ≤ 1000) ∧ (-1000 ≤ m.c ∧ m.c ≤ 1000) ∧ (-1000 ≤ m.d ∧ m.d ≤ 1000)) ∧
    ((-1000 ≤ n.a ∧ n.a ≤ 1000) ∧ (-1000 ≤ n.b ∧ n.b ≤ 1000) ∧ (-1000 ≤ n.c ∧ n.c ≤ 1000) ∧ (-1000 ≤ n.d ∧ n.d ≤ 1000)) := by
  have h0 := smallB_at h 0 (by omega)
  have h1 := smallB_at h 1 (by omega)
  have h2 := smallB_at h 2 (by omega)
  have h3 := smallB_at h 3 (by omega)
  simp only [smallAt, Bool.and_eq_true, M.at] at h0 h1 h2 h3
  exact ⟨⟨inB_true h0.1, inB_true h1.1, inB_true h2.1, inB_true h3.1⟩, inB_true h0.2, inB_true h1.2, inB_true h2.2, inB_true h3.2⟩
theorem small_mul {m n : M} (h : smallB m n = true) : (m.mul n).ents = true ∧ (-2000000 ≤ (m.mul n).a ∧ (m.mul n).a ≤ 2000000) ∧ (-2000000 ≤ (m.mul n).d ∧ (m.mul n).d ≤ 2000000) := by
  obtain ⟨⟨⟨p1, p2⟩, ⟨p3, p4⟩, ⟨p5, p6⟩, p7, p8⟩, ⟨q1, q2⟩, ⟨q3, q4⟩, ⟨q5, q6⟩, q7, q8⟩ := small_bd h
  have a1 := mul_bd (A := 1000) (B := 1000) p1 p2 q1 q2
  have a2 := mul_bd (A := 1000) (B := 1000) p3 p4 q5 q6
  have a3 := mul_bd (A := 1000) (B := 1000) p1 p2 q3 q4
  have a4 := mul_bd (A := 1000) (B := 1000) p3 p4 q7 q8
  have a5 := mul_bd (A := 1000) (B := 1000) p5 p6 q1 q2
  have a6 := mul_bd (A := 1000) (B := 1000) p7 p8 q5 q6
  have a7 := mul_bd (A := 1000) (B := 1000) p5 p6 q3 q4
  have a8 := mul_bd (A := 1000) (B := 1000) p7 p8 q7 q8
  refine ⟨?_, ?_, ?_⟩
  · simp only [M.ents, M.mul, List.all_cons, List.all_nil, Bool.and_true, Bool.and_eq_true]
    exact ⟨entB_mk (by omega), entB_mk (by omega), entB_mk (by omega), entB_mk (by omega)⟩
  · simp only [M.mul]; omega
  · simp only [M.mul]; omega
theorem com_bd {x y z : Int} (hx : -2000 ≤ x ∧ x ≤ 2000) (hy : -2000 ≤ y ∧ y ≤ 2000) (hz : -4000000 ≤ z ∧ z ≤ 4000000) :
    (-4000000 ≤ x * x ∧ x * x ≤ 4000000) ∧ (-4000000 ≤ y * y ∧ y * y ≤ 4000000) ∧ (-16000000000000 ≤ z * z ∧ z * z ≤ 16000000000000) ∧ (-4000000 ≤ x * y ∧ x * y ≤ 4000000) ∧ (-16000000000000 ≤ x * y * z ∧ x * y * z ≤ 16000000000000) := by
  have a1 := mul_bd (A := 2000) (B := 2000) hx.1 hx.2 hx.1 hx.2
  have a2 := mul_bd (A := 2000) (B := 2000) hy.1 hy.2 hy.1 hy.2
  have a3 := mul_bd (A := 4000000) (B := 4000000) hz.1 hz.2 hz.1 hz.2
  have a4 := mul_bd (A := 2000) (B := 2000) hx.1 hx.2 hy.1 hy.2
  have a5 := mul_bd (a := x * y) (A := 4000000) (B := 4000000) (by omega) (by omega) hz.1 hz.2
  omega

set_option maxHeartbeats 2000000 in
theorem specCommutatorTrace_any (m n : M) (w : World) :
    Calls Try.prog 20 #[.agg #[.int .i64 m.a, .int .i64 m.b, .int .i64 m.c, .int .i64 m.d], .agg #[.int .i64 n.a, .int .i64 n.b, .int .i64 n.c, .int .i64 n.d]] w fun e w' => e = .returned (.tuple #[.int .i64 (comR m n).1, .int .i64 (comR m n).2]) ∧ Below w.heap.size w w' := by
  cases h1 : m.ok with
  | false =>
    have HF := Lib.hid (show comR m n = (0, 1) by simp [comR, h1])
    go_enter Try.func20, Try.ntmps20
    go_wp2_with fail
    refine (l01Is_any m _).mono ?_
    rintro e w1 ⟨rfl, hb⟩
    have kw1 : Below w.heap.size w w1 := (by repeat (first | (with_reducible exact Below.refl _ _) | (with_reducible assumption) | (with_reducible refine Below.drew ?_) | (with_reducible refine Below.drewN ?_) | ((with_reducible refine Below.al ?_ ?_); · first | omega | (simp; done) | (simp; omega)) | ((with_reducible refine Below.sc ?_ ?_); · first | omega | (simp; done) | (simp; omega)) | ((with_reducible refine Below.thru hb ?_ ?_); · first | omega | (simp; done) | (simp; omega))))
    have sw1 := kw1.size
    clear hb
    go_wp2
    go_ret2
    exact ⟨by rw [HF.out]; rfl, (by repeat (first | (with_reducible exact Below.refl _ _) | (with_reducible assumption) | (with_reducible refine Below.drew ?_) | (with_reducible refine Below.drewN ?_) | ((with_reducible refine Below.al ?_ ?_); · first | omega | (simp; done) | (simp; omega)) | ((with_reducible refine Below.sc ?_ ?_); · first | omega | (simp; done) | (simp; omega)) | ((with_reducible refine Below.thru hb ?_ ?_); · first | omega | (simp; done) | (simp; omega))))⟩
  | true =>
    cases h2 : n.ok with
    | false =>
      have HF := Lib.hid (show comR m n = (0, 1) by simp [comR, h2])
      go_enter Try.func20, Try.ntmps20
      go_wp2_with fail
      refine (l01Is_any m _).mono ?_
      rintro e w1 ⟨rfl, hb⟩
      have B0 : Blk w1 (w.heap.size) 28 (mcs m) := (by repeat (first | (with_reducible assumption) | ((with_reducible refine Blk.new ?_); · first | omega | (simp; done) | (simp; omega)) | (with_reducible apply Blk.set4) | (with_reducible apply Blk.set3) | (with_reducible apply Blk.set2) | ((with_reducible refine Blk.put ?_ ?_); · first | omega | (simp; omega)) | (with_reducible refine Blk.old ?_) | (with_reducible refine Blk.drew ?_) | (with_reducible refine Blk.drewN ?_) | ((with_reducible refine Blk.below hb ?_ ?_); · first | omega | (simp; done) | (simp; omega))))
      have lB0 := B0.lt
      have B1 : Blk w1 (w.heap.size + 1) 28 (mcs n) := (by repeat (first | (with_reducible assumption) | ((with_reducible refine Blk.new ?_); · first | omega | (simp; done) | (simp; omega)) | (with_reducible apply Blk.set4) | (with_reducible apply Blk.set3) | (with_reducible apply Blk.set2) | ((with_reducible refine Blk.put ?_ ?_); · first | omega | (simp; omega)) | (with_reducible refine Blk.old ?_) | (with_reducible refine Blk.drew ?_) | (with_reducible refine Blk.drewN ?_) | ((with_reducible refine Blk.below hb ?_ ?_); · first | omega | (simp; done) | (simp; omega))))
      have lB1 := B1.lt
      have kw1 : Below w.heap.size w w1 := (by repeat (first | (with_reducible exact Below.refl _ _) | (with_reducible assumption) | (with_reducible refine Below.drew ?_) | (with_reducible refine Below.drewN ?_) | ((with_reducible refine Below.al ?_ ?_); · first | omega | (simp; done) | (simp; omega)) | ((with_reducible refine Below.sc ?_ ?_); · first | omega | (simp; done) | (simp; omega)) | ((with_reducible refine Below.thru hb ?_ ?_); · first | omega | (simp; done) | (simp; omega))))
      have sw1 := kw1.size
      clear hb
      have c1 := B1.m
      go_wp2_with fail
      refine (l01Is_any n _).mono ?_
      rintro e w2 ⟨rfl, hb⟩
      have kw2 : Below w.heap.size w w2 := (by repeat (first | (with_reducible exact Below.refl _ _) | (with_reducible assumption) | (with_reducible refine Below.drew ?_) | (with_reducible refine Below.drewN ?_) | ((with_reducible refine Below.al ?_ ?_); · first | omega | (simp; done) | (simp; omega)) | ((with_reducible refine Below.sc ?_ ?_); · first | omega | (simp; done) | (simp; omega)) | ((with_reducible refine Below.thru hb ?_ ?_); · first | omega | (simp; done) | (simp; omega))))
      have sw2 := kw2.size
      clear hb
      go_wp2
      go_ret2
      exact ⟨by rw [HF.out]; rfl, (by repeat (first | (with_reducible exact Below.refl _ _) | (with_reducible assumption) | (with_reducible refine Below.drew ?_) | (with_reducible refine Below.drewN ?_) | ((with_reducible refine Below.al ?_ ?_); · first | omega | (simp; done) | (simp; omega)) | ((with_reducible refine Below.sc ?_ ?_); · first | omega | (simp; done) | (simp; omega)) | ((with_reducible refine Below.thru hb ?_ ?_); · first | omega | (simp; done) | (simp; omega))))⟩
    | true =>
      have hcm := Lib.hid (show comR m n = if smallB m n then (comT m n, 0) else (0, 2) by simp [comR, h1, h2])
      have em := M.ok_ents h1
      have en := M.ok_ents h2
      go_enter Try.func20, Try.ntmps20
      go_wp2_with fail
      refine (l01Is_any m _).mono ?_
      rintro e w1 ⟨rfl, hb⟩
      have B0 : Blk w1 (w.heap.size) 28 (mcs m) := (by repeat (first | (with_reducible assumption) | ((with_reducible refine Blk.new ?_); · first | omega | (simp; done) | (simp; omega)) | (with_reducible apply Blk.set4) | (with_reducible apply Blk.set3) | (with_reducible apply Blk.set2) | ((with_reducible refine Blk.put ?_ ?_); · first | omega | (simp; omega)) | (with_reducible refine Blk.old ?_) | (with_reducible refine Blk.drew ?_) | (with_reducible refine Blk.drewN ?_) | ((with_reducible refine Blk.below hb ?_ ?_); · first | omega | (simp; done) | (simp; omega))))
      have lB0 := B0.lt
      have B1 : Blk w1 (w.heap.size + 1) 28 (mcs n) := (by repeat (first | (with_reducible assumption) | ((with_reducible refine Blk.new ?_); · first | omega | (simp; done) | (simp; omega)) | (with_reducible apply Blk.set4) | (with_reducible apply Blk.set3) | (with_reducible apply Blk.set2) | ((with_reducible refine Blk.put ?_ ?_); · first | omega | (simp; omega)) | (with_reducible refine Blk.old ?_) | (with_reducible refine Blk.drew ?_) | (with_reducible refine Blk.drewN ?_) | ((with_reducible refine Blk.below hb ?_ ?_); · first | omega | (simp; done) | (simp; omega))))
      have lB1 := B1.lt
      have kw1 : Below w.heap.size w w1 := (by repeat (first | (with_reducible exact Below.refl _ _) | (with_reducible assumption) | (with_reducible refine Below.drew ?_) | (with_reducible refine Below.drewN ?_) | ((with_reducible refine Below.al ?_ ?_); · first | omega | (simp; done) | (simp; omega)) | ((with_reducible refine Below.sc ?_ ?_); · first | omega | (simp; done) | (simp; omega)) | ((with_reducible refine Below.thru hb ?_ ?_); · first | omega | (simp; done) | (simp; omega))))
      have sw1 := kw1.size
      clear hb
      have c1 := B1.m
      go_wp2_with fail
      refine (l01Is_any n _).mono ?_
      rintro e w2 ⟨rfl, hb⟩
      have C0 : Blk w2 (w.heap.size) 28 (mcs m) := (by repeat (first | (with_reducible assumption) | ((with_reducible refine Blk.new ?_); · first | omega | (simp; done) | (simp; omega)) | (with_reducible apply Blk.set4) | (with_reducible apply Blk.set3) | (with_reducible apply Blk.set2) | ((with_reducible refine Blk.put ?_ ?_); · first | omega | (simp; omega)) | (with_reducible refine Blk.old ?_) | (with_reducible refine Blk.drew ?_) | (with_reducible refine Blk.drewN ?_) | ((with_reducible refine Blk.below hb ?_ ?_); · first | omega | (simp; done) | (simp; omega))))
      have lC0 := C0.lt
      have C1 : Blk w2 (w.heap.size + 1) 28 (mcs n) := (by repeat (first | (with_reducible assumption) | ((with_reducible refine Blk.new ?_); · first | omega | (simp; done) | (simp; omega)) | (with_reducible apply Blk.set4) | (with_reducible apply Blk.set3) | (with_reducible apply Blk.set2) | ((with_reducible refine Blk.put ?_ ?_); · first | omega | (simp; omega)) | (with_reducible refine Blk.old ?_) | (with_reducible refine Blk.drew ?_) | (with_reducible refine Blk.drewN ?_) | ((with_reducible refine Blk.below hb ?_ ?_); · first | omega | (simp; done) | (simp; omega))))
      have lC1 := C1.lt
      have kw2 : Below w.heap.size w w2 := (by repeat (first | (with_reducible exact Below.refl _ _) | (with_reducible assumption) | (with_reducible refine Below.drew ?_) | (with_reducible refine Below.drewN ?_) | ((with_reducible refine Below.al ?_ ?_); · first | omega | (simp; done) | (simp; omega)) | ((with_reducible refine Below.sc ?_ ?_); · first | omega | (simp; done) | (simp; omega)) | ((with_reducible refine Below.thru hb ?_ ?_); · first | omega | (simp; done) | (simp; omega))))
      have sw2 := kw2.size
      clear hb
      clear B0 B1 lB0 lB1 c1 kw1 sw1
      go_wp2
      clear h1 h2
      go_loop [6] (fun i => ∃ k : Nat, k ≤ 4 ∧ i = .int .i64 k ∧ Hid (∀ j, j < k → smallAt m n j = true)) (fun i => 4 - (intOf i).toNat)
      case atStart => exact ⟨0, by omega, rfl, fun j hj => absurd hj (by omega)⟩
      case round =>
        obtain ⟨k, hk, rfl, hall⟩ := hrel
        by_cases hlt : k < 4
        · have q0 := C0.mk_at k hlt
          have q1 := C1.mk_at k hlt
          cases s1 : inB (m.at k) (-1000) 1000 with
          | false =>
            have HF := Lib.hid (show comR m n = (0, 2) by rw [hcm.out, smallB_no hlt (by simp [smallAt, s1])]; rfl)
            go_wp2_with (go_at_call 35; refine (l01In_any _ _ _ _).mono ?_; rintro e w' ⟨rfl, rfl⟩)
            go_ret2
            exact ⟨by rw [HF.out]; rfl, (by repeat (first | (with_reducible exact Below.refl _ _) | (with_reducible assumption) | (with_reducible refine Below.drew ?_) | (with_reducible refine Below.drewN ?_) | ((with_reducible refine Below.al ?_ ?_); · first | omega | (simp; done) | (simp; omega)) | ((with_reducible refine Below.sc ?_ ?_); · first | omega | (simp; done) | (simp; omega)) | ((with_reducible refine Below.thru hb ?_ ?_); · first | omega | (simp; done) | (simp; omega))))⟩
          | true =>
            cases s2 : inB (n.at k) (-1000) 1000 with
            | false =>
              have HF := Lib.hid (show comR m n = (0, 2) by rw [hcm.out, smallB_no hlt (by simp [smallAt, s2])]; rfl)
              go_wp2_with (go_at_call 35; refine (l01In_any _ _ _ _).mono ?_; rintro e w' ⟨rfl, rfl⟩)
              go_ret2
              exact ⟨by rw [HF.out]; rfl, (by repeat (first | (with_reducible exact Below.refl _ _) | (with_reducible assumption) | (with_reducible refine Below.drew ?_) | (with_reducible refine Below.drewN ?_) | ((with_reducible refine Below.al ?_ ?_); · first | omega | (simp; done) | (simp; omega)) | ((with_reducible refine Below.sc ?_ ?_); · first | omega | (simp; done) | (simp; omega)) | ((with_reducible refine Below.thru hb ?_ ?_); · first | omega | (simp; done) | (simp; omega))))⟩
            | true =>
              have hs : smallAt m n k = true := by simp [smallAt, s1, s2]
              have HS := Lib.hid hs
              clear hs
              go_wp2_with (go_at_call 35; refine (l01In_any _ _ _ _).mono ?_; rintro e w' ⟨rfl, rfl⟩)
              go_round
              case rel => exact ⟨k + 1, by omega, by go_num, fun j hj => if e : j < k then hall.out j e else (show j = k by omega) ▸ HS.out⟩
              case measure => simp [intOf]; omega
        · have hsm : smallB m n = true := smallB_of fun j hj => hall.out j (by omega)
          have HF := Lib.hid (show comR m n = (comT m n, 0) by rw [hcm.out, hsm]; rfl)
          obtain ⟨⟨⟨p1, p2⟩, _, _, p7, p8⟩, ⟨q1, q2⟩, _, _, q7, q8⟩ := small_bd hsm
          obtain ⟨r1, r2, r3⟩ := small_mul hsm
          have e1 : entB m.a = true := entB_mk (by omega)
          have e2 : entB m.d = true := entB_mk (by omega)
          have e3 : entB n.a = true := entB_mk (by omega)
          have e4 : entB n.d = true := entB_mk (by omega)
          have e5 : entB (m.mul n).a = true := entB_mk (by omega)
          have e6 : entB (m.mul n).d = true := entB_mk (by omega)
          have bd := com_bd (x := m.tr) (y := n.tr) (z := (m.mul n).tr) (by unfold M.tr; omega) (by unfold M.tr; omega) (by unfold M.tr; omega)
          have c0 := C0.m
          have c1 := C1.m
          clear hall hsm hcm
          go_wp2_with fail
          refine (l01Times_yes m n _ em en r1).mono ?_
          rintro e w3 ⟨rfl, hb⟩
          have D0 : Blk w3 (w.heap.size) 28 (mcs m) := (by repeat (first | (with_reducible assumption) | ((with_reducible refine Blk.new ?_); · first | omega | (simp; done) | (simp; omega)) | (with_reducible apply Blk.set4) | (with_reducible apply Blk.set3) | (with_reducible apply Blk.set2) | ((with_reducible refine Blk.put ?_ ?_); · first | omega | (simp; omega)) | (with_reducible refine Blk.old ?_) | (with_reducible refine Blk.drew ?_) | (with_reducible refine Blk.drewN ?_) | ((with_reducible refine Blk.below hb ?_ ?_); · first | omega | (simp; done) | (simp; omega))))
          have lD0 := D0.lt
          have D1 : Blk w3 (w.heap.size + 1) 28 (mcs n) := (by repeat (first | (with_reducible assumption) | ((with_reducible refine Blk.new ?_); · first | omega | (simp; done) | (simp; omega)) | (with_reducible apply Blk.set4) | (with_reducible apply Blk.set3) | (with_reducible apply Blk.set2) | ((with_reducible refine Blk.put ?_ ?_); · first | omega | (simp; omega)) | (with_reducible refine Blk.old ?_) | (with_reducible refine Blk.drew ?_) | (with_reducible refine Blk.drewN ?_) | ((with_reducible refine Blk.below hb ?_ ?_); · first | omega | (simp; done) | (simp; omega))))
          have lD1 := D1.lt
          have kw3 : Below w.heap.size w w3 := (by repeat (first | (with_reducible exact Below.refl _ _) | (with_reducible assumption) | (with_reducible refine Below.drew ?_) | (with_reducible refine Below.drewN ?_) | ((with_reducible refine Below.al ?_ ?_); · first | omega | (simp; done) | (simp; omega)) | ((with_reducible refine Below.sc ?_ ?_); · first | omega | (simp; done) | (simp; omega)) | ((with_reducible refine Below.thru hb ?_ ?_); · first | omega | (simp; done) | (simp; omega))))
          have sw3 := kw3.size
          clear hb
          clear C0 C1 c0 c1
          go_wp2_with fail
          refine forget (fun W_ => Below w.heap.size w W_ ∧ Blk W_ (w.heap.size) 28 (mcs m) ∧ Blk W_ (w.heap.size + 1) 28 (mcs n) ∧ Blk W_ (w3.heap.size) 28 (mcs (m.mul n))) ⟨(by repeat (first | (with_reducible exact Below.refl _ _) | (with_reducible assumption) | (with_reducible refine Below.drew ?_) | (with_reducible refine Below.drewN ?_) | ((with_reducible refine Below.al ?_ ?_); · first | omega | (simp; done) | (simp; omega)) | ((with_reducible refine Below.sc ?_ ?_); · first | omega | (simp; done) | (simp; omega)) | ((with_reducible refine Below.thru hb ?_ ?_); · first | omega | (simp; done) | (simp; omega)))), (by repeat (first | (with_reducible assumption) | ((with_reducible refine Blk.new ?_); · first | omega | (simp; done) | (simp; omega)) | (with_reducible apply Blk.set4) | (with_reducible apply Blk.set3) | (with_reducible apply Blk.set2) | ((with_reducible refine Blk.put ?_ ?_); · first | omega | (simp; omega)) | (with_reducible refine Blk.old ?_) | (with_reducible refine Blk.drew ?_) | (with_reducible refine Blk.drewN ?_) | ((with_reducible refine Blk.below hb ?_ ?_); · first | omega | (simp; done) | (simp; omega)))), (by repeat (first | (with_reducible assumption) | ((with_reducible refine Blk.new ?_); · first | omega | (simp; done) | (simp; omega)) | (with_reducible apply Blk.set4) | (with_reducible apply Blk.set3) | (with_reducible apply Blk.set2) | ((with_reducible refine Blk.put ?_ ?_); · first | omega | (simp; omega)) | (with_reducible refine Blk.old ?_) | (with_reducible refine Blk.drew ?_) | (with_reducible refine Blk.drewN ?_) | ((with_reducible refine Blk.below hb ?_ ?_); · first | omega | (simp; done) | (simp; omega)))), (by repeat (first | (with_reducible assumption) | ((with_reducible refine Blk.new ?_); · first | omega | (simp; done) | (simp; omega)) | (with_reducible apply Blk.set4) | (with_reducible apply Blk.set3) | (with_reducible apply Blk.set2) | ((with_reducible refine Blk.put ?_ ?_); · first | omega | (simp; omega)) | (with_reducible refine Blk.old ?_) | (with_reducible refine Blk.drew ?_) | (with_reducible refine Blk.drewN ?_) | ((with_reducible refine Blk.below hb ?_ ?_); · first | omega | (simp; done) | (simp; omega))))⟩ ?_
          rintro w4 ⟨kw4, E0, E1, E2⟩
          have sw4 := kw4.size
          have lE0 := E0.lt
          have lE1 := E1.lt
          have lE2 := E2.lt
          have g0 := E0.later4
          have g1 := E1.later4
          have g2 := E2.later4
          refine wp_region_calm (by kernel_rfl) (by kernel_rfl) ?_
          repeat (go_big_quiet_step (first | (go_at_call 42; with_reducible exact Calls.calm ((l01Trace_any _ _ (by assumption) (by assumption))))))
          refine wpQuiet_nil ?_
          rintro w5 ⟨⟨_, hb⟩, rfl⟩
          have kw5 : Below w.heap.size w w5 := (by repeat (first | (with_reducible exact Below.refl _ _) | (with_reducible assumption) | (with_reducible refine Below.drew ?_) | (with_reducible refine Below.drewN ?_) | ((with_reducible refine Below.al ?_ ?_); · first | omega | (simp; done) | (simp; omega)) | ((with_reducible refine Below.sc ?_ ?_); · first | omega | (simp; done) | (simp; omega)) | ((with_reducible refine Below.thru hb ?_ ?_); · first | omega | (simp; done) | (simp; omega))))
          have sw5 := kw5.size
          clear hb
          go_wp2
          go_ret2
          exact ⟨by rw [HF.out]; rfl, (by repeat (first | (with_reducible exact Below.refl _ _) | (with_reducible assumption) | (with_reducible refine Below.drew ?_) | (with_reducible refine Below.drewN ?_) | ((with_reducible refine Below.al ?_ ?_); · first | omega | (simp; done) | (simp; omega)) | ((with_reducible refine Below.sc ?_ ?_); · first | omega | (simp; done) | (simp; omega)) | ((with_reducible refine Below.thru hb ?_ ?_); · first | omega | (simp; done) | (simp; omega))))⟩

theorem small_abs {m n : M} {k : Nat} (h : (1000 : Int) < if (m.at k).natAbs < (n.at k).natAbs then ((n.at k).natAbs : Int) else ((m.at k).natAbs : Int)) : smallAt m n k = false := by
  cases e : smallAt m n k with
  | false => rfl
  | true =>
    simp only [smallAt, Bool.and_eq_true] at e
    have := inB_true e.1
    have := inB_true e.2
    split at h <;> omega
theorem small_abs_le {m n : M} {k : Nat} (h : (if (m.at k).natAbs < (n.at k).natAbs then ((n.at k).natAbs : Int) else ((m.at k).natAbs : Int)) ≤ (1000 : Int)) : smallAt m n k = true := by
  simp only [smallAt, Bool.and_eq_true]
  split at h <;> exact ⟨inB_mk (by omega), inB_mk (by omega)⟩

theorem ents_at {m : M} (h : m.ents = true) (k : Nat) : -1000000000 ≤ m.at k ∧ m.at k ≤ 1000000000 := by
  obtain ⟨h1, h2, h3, h4⟩ := M.ents_bd h
  match k with
  | 0 => exact h1
  | 1 => exact h2
  | 2 => exact h3
  | _ + 3 => exact h4

set_option maxHeartbeats 2000000 in
theorem CommutatorTrace_any (m n : M) (w : World) :
    Calls Try.prog 22 #[.agg #[.int .i64 m.a, .int .i64 m.b, .int .i64 m.c, .int .i64 m.d], .agg #[.int .i64 n.a, .int .i64 n.b, .int .i64 n.c, .int .i64 n.d]] w fun e w' => e = .returned (.tuple #[.int .i64 (comR m n).1, .int .i64 (comR m n).2]) ∧ Below w.heap.size w w' := by
  cases hok : (m.ok && n.ok) with
  | false =>
    have HF := Lib.hid (show comR m n = (0, 1) by simp [comR, hok])
    have HO := Lib.hid (show [m, n].all M.ok = false by simpa using hok)
    clear hok
    go_enter Try.func22, Try.ntmps22
    go_wp2_with fail
    refine (areMatrices_any (w.heap.size + 1 + 1) 0 2 [m, n] _ (by simp) (MRow.of2 (E := 28) (by repeat (first | (with_reducible assumption) | ((with_reducible refine Blk.new ?_); · first | omega | (simp; done) | (simp; omega)) | (with_reducible apply Blk.set4) | (with_reducible apply Blk.set3) | (with_reducible apply Blk.set2) | ((with_reducible refine Blk.put ?_ ?_); · first | omega | (simp; omega)) | (with_reducible refine Blk.old ?_) | (with_reducible refine Blk.drew ?_) | (with_reducible refine Blk.drewN ?_) | ((with_reducible refine Blk.below hb ?_ ?_); · first | omega | (simp; done) | (simp; omega)))))).mono ?_
    rintro e w1 ⟨rfl, hb⟩
    rw [HO.out]
    go_wp2
    go_ret2
    exact ⟨by rw [HF.out]; rfl, (by repeat (first | (with_reducible exact Below.refl _ _) | (with_reducible assumption) | (with_reducible refine Below.drew ?_) | (with_reducible refine Below.drewN ?_) | ((with_reducible refine Below.al ?_ ?_); · first | omega | (simp; done) | (simp; omega)) | ((with_reducible refine Below.sc ?_ ?_); · first | omega | (simp; done) | (simp; omega)) | ((with_reducible refine Below.thru hb ?_ ?_); · first | omega | (simp; done) | (simp; omega))))⟩
  | true =>
    have hcm := Lib.hid (show comR m n = if smallB m n then (comT m n, 0) else (0, 2) by simp only [comR, hok]; rfl)
    have HO := Lib.hid (show [m, n].all M.ok = true by simpa using hok)
    have h12 : m.ok = true ∧ n.ok = true := by simpa using hok
    have em := M.ok_ents h12.1
    have en := M.ok_ents h12.2
    clear hok h12
    go_enter Try.func22, Try.ntmps22
    go_wp2_with fail
    refine (areMatrices_any (w.heap.size + 1 + 1) 0 2 [m, n] _ (by simp) (MRow.of2 (E := 28) (by repeat (first | (with_reducible assumption) | ((with_reducible refine Blk.new ?_); · first | omega | (simp; done) | (simp; omega)) | (with_reducible apply Blk.set4) | (with_reducible apply Blk.set3) | (with_reducible apply Blk.set2) | ((with_reducible refine Blk.put ?_ ?_); · first | omega | (simp; omega)) | (with_reducible refine Blk.old ?_) | (with_reducible refine Blk.drew ?_) | (with_reducible refine Blk.drewN ?_) | ((with_reducible refine Blk.below hb ?_ ?_); · first | omega | (simp; done) | (simp; omega)))))).mono ?_
    rintro e w1 ⟨rfl, hb⟩
    rw [HO.out]
    have C0 : Blk w1 w.heap.size 28 (mcs m) := (by repeat (first | (with_reducible assumption) | ((with_reducible refine Blk.new ?_); · first | omega | (simp; done) | (simp; omega)) | (with_reducible apply Blk.set4) | (with_reducible apply Blk.set3) | (with_reducible apply Blk.set2) | ((with_reducible refine Blk.put ?_ ?_); · first | omega | (simp; omega)) | (with_reducible refine Blk.old ?_) | (with_reducible refine Blk.drew ?_) | (with_reducible refine Blk.drewN ?_) | ((with_reducible refine Blk.below hb ?_ ?_); · first | omega | (simp; done) | (simp; omega))))
    have C1 : Blk w1 (w.heap.size + 1) 28 (mcs n) := (by repeat (first | (with_reducible assumption) | ((with_reducible refine Blk.new ?_); · first | omega | (simp; done) | (simp; omega)) | (with_reducible apply Blk.set4) | (with_reducible apply Blk.set3) | (with_reducible apply Blk.set2) | ((with_reducible refine Blk.put ?_ ?_); · first | omega | (simp; omega)) | (with_reducible refine Blk.old ?_) | (with_reducible refine Blk.drew ?_) | (with_reducible refine Blk.drewN ?_) | ((with_reducible refine Blk.below hb ?_ ?_); · first | omega | (simp; done) | (simp; omega))))
    have kw : Below w.heap.size w w1 := (by repeat (first | (with_reducible exact Below.refl _ _) | (with_reducible assumption) | (with_reducible refine Below.drew ?_) | (with_reducible refine Below.drewN ?_) | ((with_reducible refine Below.al ?_ ?_); · first | omega | (simp; done) | (simp; omega)) | ((with_reducible refine Below.sc ?_ ?_); · first | omega | (simp; done) | (simp; omega)) | ((with_reducible refine Below.thru hb ?_ ?_); · first | omega | (simp; done) | (simp; omega))))
    clear hb
    go_wp2
    go_loopw [15] (fun i wr => ∃ k : Nat, k ≤ 4 ∧ i = .int .i64 k ∧ Hid (∀ j, j < k → smallAt m n j = true) ∧ Below w.heap.size w wr ∧ Blk wr w.heap.size 28 (mcs m) ∧ Blk wr (w.heap.size + 1) 28 (mcs n)) (fun i _ => 4 - (intOf i).toNat)
    case atStart => exact ⟨0, by omega, rfl, fun j hj => absurd hj (by omega), kw, C0, C1⟩
    case round =>
      clear C0 C1 kw
      obtain ⟨k, hk, rfl, hall, kwr, C0, C1⟩ := hrel
      by_cases hlt : k < 4
      · have q0 : ∀ x : Later wr, x.w.cell? ⟨w.heap.size, k, none⟩ = some (.int .i64 (m.at k)) := fun x => (C0.later x).mk_at k hlt
        have q1 : ∀ x : Later wr, x.w.cell? ⟨w.heap.size + 1, k, none⟩ = some (.int .i64 (n.at k)) := fun x => (C1.later x).mk_at k hlt
        have i0 : (0 : Int) ≤ (k : Int) := by omega
        have i1 : (k : Int) < 4 := by omega
        have b0 := ents_at em k
        have b1 := ents_at en k
        have lC0 := C0.lt
        have lC1 := C1.lt
        have swr := kwr.size
        go_wp2_with fail
        refine wp_region_calm (by kernel_rfl) (by kernel_rfl) ?_
        repeat (go_big_quiet_step (first | (go_at_call 44; with_reducible exact Calls.calm_same ((size_any _ _ (by omega) (by omega))))))
        refine wpQuiet_nil ?_
        rintro w2 ⟨⟨_, hb⟩, rfl⟩
        have D0 : Blk w2 (w.heap.size) 28 (mcs m) := (by repeat (first | (with_reducible assumption) | ((with_reducible refine Blk.new ?_); · first | omega | (simp; done) | (simp; omega)) | (with_reducible apply Blk.set4) | (with_reducible apply Blk.set3) | (with_reducible apply Blk.set2) | ((with_reducible refine Blk.put ?_ ?_); · first | omega | (simp; omega)) | (with_reducible refine Blk.old ?_) | (with_reducible refine Blk.drew ?_) | (with_reducible refine Blk.drewN ?_) | ((with_reducible refine Blk.below hb ?_ ?_); · first | omega | (simp; done) | (simp; omega))))
        have D1 : Blk w2 (w.heap.size + 1) 28 (mcs n) := (by repeat (first | (with_reducible assumption) | ((with_reducible refine Blk.new ?_); · first | omega | (simp; done) | (simp; omega)) | (with_reducible apply Blk.set4) | (with_reducible apply Blk.set3) | (with_reducible apply Blk.set2) | ((with_reducible refine Blk.put ?_ ?_); · first | omega | (simp; omega)) | (with_reducible refine Blk.old ?_) | (with_reducible refine Blk.drew ?_) | (with_reducible refine Blk.drewN ?_) | ((with_reducible refine Blk.below hb ?_ ?_); · first | omega | (simp; done) | (simp; omega))))
        have lD0 := D0.lt
        have lD1 := D1.lt
        have kw2 : Below w.heap.size w w2 := (by repeat (first | (with_reducible exact Below.refl _ _) | (with_reducible assumption) | (with_reducible refine Below.drew ?_) | (with_reducible refine Below.drewN ?_) | ((with_reducible refine Below.al ?_ ?_); · first | omega | (simp; done) | (simp; omega)) | ((with_reducible refine Below.sc ?_ ?_); · first | omega | (simp; done) | (simp; omega)) | ((with_reducible refine Below.thru hb ?_ ?_); · first | omega | (simp; done) | (simp; omega))))
        have sw2 := kw2.size
        clear hb
        go_wp2
        case roundEnd =>
          have hs := small_abs_le (m := m) (n := n) (k := k) (by assumption)
          have HS := Lib.hid hs
          clear hs
          go_roundw
          case rel => exact ⟨k + 1, by omega, by go_num, fun j hj => if e : j < k then hall.out j e else (show j = k by omega) ▸ HS.out, kw2, D0, D1⟩
          case measure => simp [intOf]; omega
        all_goals
          have hs := small_abs (m := m) (n := n) (k := k) (by assumption)
          have HF := Lib.hid (show comR m n = (0, 2) by rw [hcm.out, smallB_no hlt hs]; rfl)
          clear hs
          go_ret2
          exact ⟨by rw [HF.out]; rfl, (by repeat (first | (with_reducible exact Below.refl _ _) | (with_reducible assumption) | (with_reducible refine Below.drew ?_) | (with_reducible refine Below.drewN ?_) | ((with_reducible refine Below.al ?_ ?_); · first | omega | (simp; done) | (simp; omega)) | ((with_reducible refine Below.sc ?_ ?_); · first | omega | (simp; done) | (simp; omega)) | ((with_reducible refine Below.thru hb ?_ ?_); · first | omega | (simp; done) | (simp; omega))))⟩
      · have hsm : smallB m n = true := smallB_of fun j hj => hall.out j (by omega)
        have HF := Lib.hid (show comR m n = (comT m n, 0) by rw [hcm.out, hsm]; rfl)
        obtain ⟨⟨⟨p1, p2⟩, _, _, p7, p8⟩, ⟨q1, q2⟩, _, _, q7, q8⟩ := small_bd hsm
        obtain ⟨r1, r2, r3⟩ := small_mul hsm
        have e1 : entB m.a = true := entB_mk (by omega)
        have e2 : entB m.d = true := entB_mk (by omega)
        have e3 : entB n.a = true := entB_mk (by omega)
        have e4 : entB n.d = true := entB_mk (by omega)
        have e5 : entB (m.mul n).a = true := entB_mk (by omega)
        have e6 : entB (m.mul n).d = true := entB_mk (by omega)
        have bd := com_bd (x := m.tr) (y := n.tr) (z := (m.mul n).tr) (by unfold M.tr; omega) (by unfold M.tr; omega) (by unfold M.tr; omega)
        have g0 := C0.later4
        have g1 := C1.later4
        have lC0 := C0.lt
        have lC1 := C1.lt
        have swr := kwr.size
        clear hall hsm hcm r1 r2 r3
        go_wp2_with fail
        refine wp_region_calm (by kernel_rfl) (by kernel_rfl) ?_
        repeat (go_big_quiet_step (first | (go_at_call 45; with_reducible exact Calls.calm ((trace_any m _ e1 e2))) | (go_at_call 45; with_reducible exact Calls.calm ((trace_any n _ e3 e4))) | (go_at_call 46; with_reducible exact Calls.calm ((times_any m n _ em en))) | (go_at_call 45; with_reducible exact Calls.calm ((trace_any (m.mul n) _ e5 e6)))))
        refine wpQuiet_nil ?_
        rintro w5 ⟨⟨_, hb⟩, rfl⟩
        have kw5 : Below w.heap.size w w5 := (by repeat (first | (with_reducible exact Below.refl _ _) | (with_reducible assumption) | (with_reducible refine Below.drew ?_) | (with_reducible refine Below.drewN ?_) | ((with_reducible refine Below.al ?_ ?_); · first | omega | (simp; done) | (simp; omega)) | ((with_reducible refine Below.sc ?_ ?_); · first | omega | (simp; done) | (simp; omega)) | ((with_reducible refine Below.thru hb ?_ ?_); · first | omega | (simp; done) | (simp; omega))))
        have sw5 := kw5.size
        clear hb
        go_wp2
        go_ret2
        exact ⟨by rw [HF.out]; rfl, (by repeat (first | (with_reducible exact Below.refl _ _) | (with_reducible assumption) | (with_reducible refine Below.drew ?_) | (with_reducible refine Below.drewN ?_) | ((with_reducible refine Below.al ?_ ?_); · first | omega | (simp; done) | (simp; omega)) | ((with_reducible refine Below.sc ?_ ?_); · first | omega | (simp; done) | (simp; omega)) | ((with_reducible refine Below.thru hb ?_ ?_); · first | omega | (simp; done) | (simp; omega))))⟩

end Go.Proofs.Ytifojoikeokecaa
