/- The walk of the law FnExactRankOf. -/
import Derived.Test.YtjjbaebddkejnaaRk
namespace Go.Proofs.Ytjjbaebddkejnaa
open Go.RowKit

set_option maxHeartbeats 1000000 in
theorem FnExactRankOf_walk (n p : Int) (w : World) (_ : (Lit.int .i64 n).wf = true) (_ : (Lit.int .i64 p).wf = true) :
    Calls Try.prog 3 #[.int .i64 n, .int .i64 p] w fun e w' => e = .returned (.bool true) ∧ Below w.heap.size w w' := by
  have S1 := Lib.hid (fun w => specRankOf_any n p w)
  have S2 := Lib.hid (fun w => RankOf_any n p w)
  have HZ := Lib.hid (fun h => (rk_zero (n := n) (p := p) h).1)
  go_enter Try.func3, Try.ntmps3
  go_wp2_with fail
  refine (S1.out _).mono ?_
  rintro e w1 ⟨k1, h1⟩
  have s1 := k1.size
  rcases h1 with ⟨h0, rfl⟩ | ⟨h0, U, hU, rfl⟩
  · have H0 := Lib.hid h0
    go_wp2_with fail
    refine (S2.out _).mono ?_
    rintro e w2 ⟨k2, h2⟩
    rcases h2 with ⟨_, rfl⟩ | ⟨h3, _⟩
    · generalize rkCode n p = c at *
      go_wp2
      go_ret
      exact ⟨rfl, k1.trans (k2.mono s1)⟩
    · exact absurd h3 H0.out
  · have H0 := Lib.hid h0
    have HU := Lib.hid hU
    clear h0 hU
    generalize hul : U.length = u at *
    have HUL := Lib.hid hul
    clear hul
    go_wp2_with fail
    refine (S2.out _).mono ?_
    rintro e w2 ⟨k2, h2⟩
    rcases h2 with ⟨h3, _⟩ | ⟨_, T, hT, rfl⟩
    · exact absurd H0.out h3
    · have e1 : T.length = u := by rw [← HUL.out]; exact hT.count (by have := (HZ.out H0.out).bd; omega) HU.out
      rw [e1]
      clear e1 hT
      go_wp2
      go_ret
      exact ⟨rfl, k1.trans (k2.mono s1)⟩

end Go.Proofs.Ytjjbaebddkejnaa
