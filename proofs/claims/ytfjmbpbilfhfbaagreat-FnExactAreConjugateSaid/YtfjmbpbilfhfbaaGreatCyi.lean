/- Cyclic words: the program's walk. -/
import Derived.Test.YtfjmbpbilfhfbaaGreatCys
import Derived.Test.YtfjmbpbilfhfbaaGreatFreeW
namespace Go.Proofs.YtfjmbpbilfhfbaaGreat
open Go.RowKit
set_option linter.unusedSimpArgs false

theorem Low.zero {l : List UInt8} (h : 0 < l.length) : Low l 0 l := ⟨⟨0, h, by unfold rot; simp⟩, fun k hk => absurd hk (by omega)⟩
/-- The lesser of two. -/
def mnL (a b : List UInt8) : List UInt8 := if (Go.Op.bytesLess a b || a == b) = true then a else b
theorem Low.mn {l b : List UInt8} {j : Nat} (hj : j < l.length) (h : Low l j b) : Low l (j + 1) (mnL b (rot j l)) := by
  unfold mnL
  cases h1 : Go.Op.bytesLess b (rot j l) with
  | true =>
    rw [Bool.true_or, if_pos rfl]
    refine h.keep ?_
    cases h2 : Go.Op.bytesLess (rot j l) b with
    | false => rfl
    | true => have := less_trans h1 h2; rw [less_irrefl] at this; exact absurd this (by decide)
  | false =>
    rw [Bool.false_or]
    by_cases he : b = rot j l
    · rw [if_pos (by rw [he]; exact beq_self_eq_true _)]
      refine h.keep ?_
      rw [← he]
      exact less_irrefl b
    · rw [if_neg (by simpa using he)]
      refine h.new hj ?_
      cases h2 : Go.Op.bytesLess (rot j l) b with
      | true => rfl
      | false => exact absurd (less_total h1 h2) he
theorem min_run (a b : List UInt8) (T : TypeId) (w_ : World) : (Builtin.min_ #[T, T] T #[.string (stB a), .string (stB b)]).run Tryz.prog w_ = .ok (.string (stB (mnL a b))) w_ := by
  have h : (Builtin.min2 (.string (stB a)) (.string (stB b))).run Tryz.prog w_ = .ok (.string (stB (mnL a b))) w_ := by
    unfold Builtin.min2
    simp only [Op.stringOp, stB_list]
    unfold mnL
    cases h : (Go.Op.bytesLess a b || a == b) <;> rfl
  unfold Builtin.min_
  simp [h]

set_option maxRecDepth 8000 in
set_option maxHeartbeats 2000000 in
theorem least_any (l : List UInt8) (w : World) (hl : l.length ≤ 500) (h0 : 0 < l.length) : Calls Tryz.prog 39 #[.string (stB l)] w (GivesT l w) := by
  go_enter Tryz.func39, Tryz.ntmps39
  have hsz : ((stB l).size : Int) = (l.length : Int) := by rw [stB_size]
  have HX : Hid (∀ r, Least l r → ∀ w', Below w.heap.size w w' → GivesT l w (.returned (.string (stB r))) w') := Lib.hid (fun r hr w' hb => ⟨⟨r, hr, rfl⟩, hb⟩)
  generalize GivesT l w = GF at *
  go_wp2_with fail
  obtain ⟨n, hn⟩ : ∃ n, l.length = n := ⟨_, rfl⟩
  rw [hn] at hl h0 hsz ⊢
  replace hn := Lib.hid hn
  go_loopw [3, 8] (fun v i wr => ∃ (k : Nat) (b : List UInt8), k ≤ n ∧ i = .int .i64 (k : Int) ∧ v = .string (stB b) ∧ Hid (Low l k b) ∧ Below w.heap.size w wr) (fun _ i _ => n - (intOf i).toNat)
  case atStart => exact ⟨0, l, Nat.zero_le _, rfl, rfl, Lib.hid (Low.zero (by rw [hn.out]; exact h0)), Below.refl _ _⟩
  case round =>
    obtain ⟨k, b, hk, rfl, rfl, hlow, kwr⟩ := hrel
    by_cases hlt : k < n
    · have i0 : (0 : Int) ≤ (k : Int) := by omega
      have i1 : (k : Int) ≤ (n : Int) := by omega
      have i2 : (k : Int) < (n : Int) := by omega
      have HL := Lib.hid (hlow.out.mn (by rw [hn.out]; exact hlt))
      have e1 : (stB l).extract k (stB l).size = stB (l.drop k) := stB_from _ _
      have e2 : (stB l).extract 0 k = stB (l.take k) := stB_to _ _
      have e3 : ∀ w_ : World, (Op.stringOp .add (stB (l.drop k)) (stB (l.take k))).run Tryz.prog w_ = .ok (.string (stB (rot k l))) w_ := stB_add _ _ (by rw [List.length_drop, List.length_take]; have := hn.out; omega)
      have e4 := fun w_ => min_run b (rot k l) 9 w_
      clear hlow
      generalize rot k l = rk at *
      generalize mnL b rk = mb at *
      generalize stB (l.drop k) = s1 at *
      generalize stB (l.take k) = s2 at *
      generalize stB l = sl at *
      go_wp2_with fail
      go_quiet (fail)
      go_wp2
      go_roundw
      case rel => exact ⟨k + 1, mb, by omega, by go_num, rfl, HL, Below.drewN kwr⟩
      case measure => simp [intOf]; omega
    · obtain rfl : k = n := by omega
      have HL : Hid (Least l b) := Lib.hid (by have := hlow.out; rw [← hn.out] at this; exact this.least)
      go_wp2
      exact HX.out b HL.out _ kwr

end Go.Proofs.YtfjmbpbilfhfbaaGreat
