/- The number that the third law of triples starts from, drawn; walked by hand. -/
import Derived.Test.YtbmkpcenjjdflaaSrh
namespace Go.Proofs.Ytbmkpcenjjdflaa
open Go.RowKit
set_option linter.unusedSimpArgs false
/-- The number that a draw of the third law starts from. -/
theorem drawBelow_any {w : World} {v : Value} {code : List Int} (hc : CodeOk code) (hv : SlIn w .u8 v code) :
    Calls Try.prog 26 #[v] w fun e w' => ∃ n : Int, e = .returned (.int .i64 n) ∧ Below w.heap.size w w' := by
  go_enter Try.func26, Try.ntmps26
  go_wp2_with fail
  refine (from_src hc hv).mono ?_
  rintro e w1 ⟨g, rfl, hS, kB⟩
  have K0 := Kpt.refl hS kB
  have hg := hS.lt
  clear kB hS
  go_wp2_with fail
  refine (pick_src (w0 := w) (wa := w1) (code := code) (b := w1.heap.size) [5, 100, 10000, 1000000] #[.int .i64 5, .int .i64 100, .int .i64 10000, .int .i64 1000000] K0.alloc (Blk.new rfl) rfl (by simp) (by simp [maxLen]) 4 rfl).mono ?_
  rintro e w2 ⟨m, rfl, hm, kp⟩
  have K2 := Kpt.step K0.alloc kp
  have hm2 : 0 ≤ m ∧ m ≤ 1000000 := by simp at hm; omega
  clear kp hm K0
  go_wp2_with fail
  refine (near_src (w0 := w) (wa := w1) (code := code) m K2 hm2).mono ?_
  rintro e w3 ⟨r, rfl, kp⟩
  have K3 := Lib.hid kp.2.1
  clear kp K2
  go_wp2
  go_ret
  exact ⟨r, rfl, K3.out⟩

end Go.Proofs.Ytbmkpcenjjdflaa
