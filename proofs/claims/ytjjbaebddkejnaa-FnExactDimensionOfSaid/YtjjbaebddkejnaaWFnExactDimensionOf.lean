/- The walk of the law FnExactDimensionOf. -/
import Derived.Test.YtjjbaebddkejnaaRk
namespace Go.Proofs.Ytjjbaebddkejnaa
open Go.RowKit Go.Proofs.Ytjjbaebddkejnaa.Pl08Prime Go.Proofs.YtjjbaebddkejnaaW.PrintWords
set_option linter.unusedSimpArgs false

def GivesDim (n p : Int) (w : World) (e : Ending) (w' : World) : Prop :=
  Below w.heap.size w w' ∧ ((rkCode n p ≠ 0 ∧ e = .returned (.tuple #[.int .i64 0, .int .i64 (rkCode n p)])) ∨ (rkCode n p = 0 ∧ ∃ U : List (Nat × List Int), Red p (lineL n.toNat).length (rowsI (relL n.toNat)) U ∧ e = .returned (.tuple #[.int .i64 (((lineL n.toNat).length : Int) - U.length), .int .i64 0])))

set_option maxHeartbeats 1000000 in
theorem specDimensionOf_any (n p : Int) (w : World) : Calls Try.prog 10 #[.int .i64 n, .int .i64 p] w (GivesDim n p w) := by
  obtain ⟨GF, hGF⟩ : ∃ GF, GivesDim n p w = GF := ⟨_, rfl⟩
  rw [hGF]
  have HGF := Lib.hid hGF
  have S1 := Lib.hid (fun w => specRankOf_any n p w)
  have HZ := Lib.hid (fun h => rk_zero (n := n) (p := p) h)
  clear hGF
  go_enter Try.func10, Try.ntmps10
  go_wp2_with fail
  refine (S1.out _).mono ?_
  rintro e w1 ⟨k1, h1⟩
  have s1 := k1.size
  rcases h1 with ⟨h0, rfl⟩ | ⟨h0, U, hU, rfl⟩
  · have H0 := Lib.hid h0
    generalize hc : rkCode n p = c at *
    have HC := Lib.hid hc
    clear hc
    go_wp2
    rw [← HGF.out]
    exact ⟨k1, .inl ⟨by rw [HC.out]; exact H0.out, by rw [HC.out]; rfl⟩⟩
  · obtain ⟨hp, hn, hl⟩ := HZ.out h0
    have H0 := Lib.hid h0
    have HU := Lib.hid hU
    have hu := hU.le
    clear h0 hU hp
    obtain ⟨m, rfl⟩ := Int.eq_ofNat_of_zero_le (by omega : 0 ≤ n)
    have HX := Lib.hid (fun w' => spec_IndexOf.calls 100 0 m _ 0 w' (index_f (n := m) (by omega)))
    have HN := Lib.hid (show ((m : Int).toNat) = m from Int.toNat_natCast m)
    rw [HN.out] at hl hu
    have HUG := Lib.hid (show ∀ e w', Below w.heap.size w w' → e = .returned (.tuple #[.int .i64 (((lineL m).length : Int) - U.length), .int .i64 0]) → GivesDim m p w e w' from fun e w' hb he => ⟨hb, .inr ⟨H0.out, U, HU.out, by rw [HN.out]; exact he⟩⟩)
    generalize (lineL m).length = N at *
    generalize hul : U.length = u at *
    clear hul HU H0 hn
    go_wp2_with fail
    refine (HX.out _).mono ?_
    rintro e w2 ⟨rfl, d2⟩
    have k2 := d2.below
    clear d2
    go_wp2
    rw [← HGF.out]
    exact HUG.out _ _ (k1.trans (k2.mono s1)) rfl

set_option maxHeartbeats 1000000 in
theorem DimensionOf_any (n p : Int) (w : World) : Calls Try.prog 11 #[.int .i64 n, .int .i64 p] w (GivesDim n p w) := by
  obtain ⟨GF, hGF⟩ : ∃ GF, GivesDim n p w = GF := ⟨_, rfl⟩
  rw [hGF]
  have HGF := Lib.hid hGF
  have S1 := Lib.hid (fun w => RankOf_any n p w)
  have HZ := Lib.hid (fun h => rk_zero (n := n) (p := p) h)
  clear hGF
  go_enter Try.func11, Try.ntmps11
  go_wp2_with fail
  refine (S1.out _).mono ?_
  rintro e w1 ⟨k1, h1⟩
  have s1 := k1.size
  rcases h1 with ⟨h0, rfl⟩ | ⟨h0, U, hU, rfl⟩
  · have H0 := Lib.hid h0
    generalize hc : rkCode n p = c at *
    have HC := Lib.hid hc
    clear hc
    go_wp2
    rw [← HGF.out]
    exact ⟨k1, .inl ⟨by rw [HC.out]; exact H0.out, by rw [HC.out]; rfl⟩⟩
  · obtain ⟨hp, hn, hl⟩ := HZ.out h0
    have H0 := Lib.hid h0
    have HU := Lib.hid hU
    have hu := hU.le
    clear h0 hU hp
    obtain ⟨m, rfl⟩ := Int.eq_ofNat_of_zero_le (by omega : 0 ≤ n)
    have HX := Lib.hid (fun w' => line_any m w' (by omega))
    have HN := Lib.hid (show ((m : Int).toNat) = m from Int.toNat_natCast m)
    rw [HN.out] at hl hu
    have HUG := Lib.hid (show ∀ e w', Below w.heap.size w w' → e = .returned (.tuple #[.int .i64 (((lineL m).length : Int) - U.length), .int .i64 0]) → GivesDim m p w e w' from fun e w' hb he => ⟨hb, .inr ⟨H0.out, U, HU.out, by rw [HN.out]; exact he⟩⟩)
    generalize lineL m = L at *
    generalize hul : U.length = u at *
    clear hul HU H0 hn
    go_wp2_with fail
    refine (HX.out _).mono ?_
    rintro e w2 ⟨v, rfl, O, k2⟩
    obtain ⟨ao, c, rfl⟩ := O.len
    clear O
    go_wp2
    rw [← HGF.out]
    exact HUG.out _ _ (k1.trans (k2.mono s1)) rfl

set_option maxHeartbeats 1000000 in
theorem FnExactDimensionOf_walk (n p : Int) (w : World) (_ : (Lit.int .i64 n).wf = true) (_ : (Lit.int .i64 p).wf = true) :
    Calls Try.prog 4 #[.int .i64 n, .int .i64 p] w fun e w' => e = .returned (.bool true) ∧ Below w.heap.size w w' := by
  have S1 := Lib.hid (fun w => specDimensionOf_any n p w)
  have S2 := Lib.hid (fun w => DimensionOf_any n p w)
  have HZ := Lib.hid (fun h => (rk_zero (n := n) (p := p) h).1)
  go_enter Try.func4, Try.ntmps4
  go_wp2_with fail
  refine (S1.out _).mono ?_
  rintro e w1 ⟨k1, h1⟩
  have s1 := k1.size
  rcases h1 with ⟨h0, rfl⟩ | ⟨h0, U, hU, rfl⟩
  · have H0 := Lib.hid h0
    go_wp2_with fail
    refine (S2.out _).mono ?_
    rintro e w2 ⟨k2, h2⟩
    rcases h2 with ⟨_, rfl⟩ | ⟨h3, _⟩
    · generalize rkCode n p = c at *
      go_wp2
      go_ret
      exact ⟨rfl, k1.trans (k2.mono s1)⟩
    · exact absurd h3 H0.out
  · have H0 := Lib.hid h0
    have HU := Lib.hid hU
    clear h0 hU
    obtain ⟨d, hd⟩ : ∃ d : Int, ((lineL n.toNat).length : Int) - U.length = d := ⟨_, rfl⟩
    rw [hd]
    have HD := Lib.hid hd
    clear hd
    go_wp2_with fail
    refine (S2.out _).mono ?_
    rintro e w2 ⟨k2, h2⟩
    rcases h2 with ⟨h3, _⟩ | ⟨_, T, hT, rfl⟩
    · exact absurd H0.out h3
    · have e1 : ((lineL n.toNat).length : Int) - T.length = d := by rw [← HD.out, hT.count (by have := (HZ.out H0.out).bd; omega) HU.out]
      rw [e1]
      clear e1 hT
      go_wp2
      go_ret
      exact ⟨rfl, k1.trans (k2.mono s1)⟩

end Go.Proofs.Ytjjbaebddkejnaa
