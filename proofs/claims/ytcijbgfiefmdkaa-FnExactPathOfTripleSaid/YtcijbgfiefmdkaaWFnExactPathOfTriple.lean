/- The walk of the law FnExactPathOfTriple. -/
import Derived.Test.Ytcijbgfiefmdkaa09g
import Derived.Test.YtcijbgfiefmdkaaLaw
namespace Go.Proofs.Ytcijbgfiefmdkaa
open Go.RowKit

theorem PathR.unique {t : T3} {s s' : ByteArray} {c c' : Int} (h : PathR t s c) (g : PathR t s' c') : s' = s ∧ c' = c := by
  unfold PathR at h g
  split at h
  · rw [if_pos (by assumption)] at g
    split at h
    · rw [if_pos (by assumption)] at g
      exact ⟨g.1.trans h.1.symm, g.2.trans h.2.symm⟩
    · rw [if_neg (by assumption)] at g
      obtain ⟨m, a1, a2, a3⟩ := h
      obtain ⟨n, b1, b2, b3⟩ := g
      have := a1.unique b1
      obtain rfl : m = n := by omega
      split at a3
      · rw [if_pos (by assumption)] at b3
        exact ⟨b3.1.trans a3.1.symm, b3.2.trans a3.2.symm⟩
      · rw [if_neg (by assumption)] at b3
        exact ⟨b3.1.trans a3.1.symm, b3.2.trans a3.2.symm⟩
  · rw [if_neg (by assumption)] at g
    exact ⟨g.1.trans h.1.symm, g.2.trans h.2.symm⟩

set_option maxHeartbeats 1000000 in
theorem FnExactPathOfTriple_walk (a0 a1 a2 : Int) (w : World) (_ : (Lit.int .i64 a0).wf = true) (_ : (Lit.int .i64 a1).wf = true) (_ : (Lit.int .i64 a2).wf = true) :
    Calls Try.prog 4 #[.agg #[.int .i64 a0, .int .i64 a1, .int .i64 a2]] w fun e w' => e = .returned (.bool true) ∧ Below w.heap.size w w' := by
  obtain ⟨t, ht⟩ : ∃ t : T3, t = ⟨a0, a1, a2⟩ := ⟨_, rfl⟩
  obtain ⟨rfl, rfl, rfl⟩ : a0 = t.x ∧ a1 = t.y ∧ a2 = t.z := by subst ht; exact ⟨rfl, rfl, rfl⟩
  clear ht
  have S0 : ∀ w, _ := fun w => toTriple_any t.x t.y t.z w
  have S1 : ∀ w, _ := fun w => specPathOfTriple_any t w
  have S2 : ∀ w, _ := fun w => PathOfTriple_any t w
  go_enter Try.func4, Try.ntmps4
  go_wp2_with fail
  refine (S0 _).mono ?_
  rintro e w1 ⟨rfl, hb⟩
  have B1 : Blk w1 (w.heap.size) 22 (tcs t) := (by repeat (first | (with_reducible assumption) | ((with_reducible refine Blk.new ?_); · first | omega | (simp; done) | (simp; omega)) | (with_reducible apply Blk.set4) | (with_reducible apply Blk.set3) | (with_reducible apply Blk.set2) | ((with_reducible refine Blk.put ?_ ?_); · first | omega | (simp; omega)) | (with_reducible refine Blk.old ?_) | (with_reducible refine Blk.drew ?_) | (with_reducible refine Blk.drewN ?_) | ((with_reducible refine Blk.below hb ?_ ?_); · first | omega | (simp; done) | (simp; omega))))
  have lB1 := B1.lt
  have kw1 : Below w.heap.size w w1 := (by repeat (first | (with_reducible exact Below.refl _ _) | (with_reducible assumption) | (with_reducible refine Below.drew ?_) | (with_reducible refine Below.drewN ?_) | ((with_reducible refine Below.al ?_ ?_); · first | omega | (simp; done) | (simp; omega)) | ((with_reducible refine Below.sc ?_ ?_); · first | omega | (simp; done) | (simp; omega)) | ((with_reducible refine Below.thru hb ?_ ?_); · first | omega | (simp; done) | (simp; omega))))
  have sw1 := kw1.size
  clear hb
  go_wp2_with fail
  refine (S1 _).mono ?_
  rintro e w2 ⟨s, c, rfl, hr, hb⟩
  have B2 : Blk w2 w.heap.size 22 (tcs t) := (by repeat (first | (with_reducible assumption) | ((with_reducible refine Blk.new ?_); · first | omega | (simp; done) | (simp; omega)) | (with_reducible apply Blk.set4) | (with_reducible apply Blk.set3) | (with_reducible apply Blk.set2) | ((with_reducible refine Blk.put ?_ ?_); · first | omega | (simp; omega)) | (with_reducible refine Blk.old ?_) | (with_reducible refine Blk.drew ?_) | (with_reducible refine Blk.drewN ?_) | ((with_reducible refine Blk.below hb ?_ ?_); · first | omega | (simp; done) | (simp; omega))))
  have kw2 : Below w.heap.size w w2 := (by repeat (first | (with_reducible exact Below.refl _ _) | (with_reducible assumption) | (with_reducible refine Below.drew ?_) | (with_reducible refine Below.drewN ?_) | ((with_reducible refine Below.al ?_ ?_); · first | omega | (simp; done) | (simp; omega)) | ((with_reducible refine Below.sc ?_ ?_); · first | omega | (simp; done) | (simp; omega)) | ((with_reducible refine Below.thru hb ?_ ?_); · first | omega | (simp; done) | (simp; omega))))
  have sw2 := kw2.size
  have lB2 := B2.lt
  have T2 : ∀ W, Calls Try.prog 14 #[.agg #[.int .i64 t.x, .int .i64 t.y, .int .i64 t.z]] W fun e w' => e = .returned (.tuple #[.string s, .int .i64 c]) ∧ Below W.heap.size W w' := fun W =>
    (S2 W).mono fun e w' ⟨s', c', he, hr', b⟩ => by
      obtain ⟨rfl, rfl⟩ := hr.unique hr'
      exact ⟨he, b⟩
  clear S1 S2 hb hr B1 lB1 kw1 sw1
  have q1 := B2.t
  go_wp2_with fail
  refine (S0 _).mono ?_
  rintro e w3 ⟨rfl, hb⟩
  have kw3 : Below w.heap.size w w3 := (by repeat (first | (with_reducible exact Below.refl _ _) | (with_reducible assumption) | (with_reducible refine Below.drew ?_) | (with_reducible refine Below.drewN ?_) | ((with_reducible refine Below.al ?_ ?_); · first | omega | (simp; done) | (simp; omega)) | ((with_reducible refine Below.sc ?_ ?_); · first | omega | (simp; done) | (simp; omega)) | ((with_reducible refine Below.thru hb ?_ ?_); · first | omega | (simp; done) | (simp; omega))))
  have sw3 := kw3.size
  clear hb
  go_wp2_with fail
  refine (T2 _).mono ?_
  rintro e w4 ⟨rfl, hb⟩
  have kw4 : Below w.heap.size w w4 := (by repeat (first | (with_reducible exact Below.refl _ _) | (with_reducible assumption) | (with_reducible refine Below.drew ?_) | (with_reducible refine Below.drewN ?_) | ((with_reducible refine Below.al ?_ ?_); · first | omega | (simp; done) | (simp; omega)) | ((with_reducible refine Below.sc ?_ ?_); · first | omega | (simp; done) | (simp; omega)) | ((with_reducible refine Below.thru hb ?_ ?_); · first | omega | (simp; done) | (simp; omega))))
  have sw4 := kw4.size
  clear hb
  go_wp2
  go_ret
  exact ⟨rfl, (by repeat (first | (with_reducible exact Below.refl _ _) | (with_reducible assumption) | (with_reducible refine Below.drew ?_) | (with_reducible refine Below.drewN ?_) | ((with_reducible refine Below.al ?_ ?_); · first | omega | (simp; done) | (simp; omega)) | ((with_reducible refine Below.sc ?_ ?_); · first | omega | (simp; done) | (simp; omega)) | ((with_reducible refine Below.thru hb ?_ ?_); · first | omega | (simp; done) | (simp; omega))))⟩

end Go.Proofs.Ytcijbgfiefmdkaa
