/- For every whole number n the program's CountSubgroups and the reference's CountSubgroups return the same two results; there is no condition. -/
import Derived.Test.YtifojoikeokecaaPFnExactCountSubgroupsx2
namespace Go.Proofs.Ytifojoikeokecaa.Pure
open Go.RowKit Go.Proofs.Ytifojoikeokecaa.PFnExactCountSubgroups Go.Proofs.YtifojoikeokecaaW.PrintWords Go.Proofs.YtifojoikeokecaaW.PrintLast

theorem inside : ∀ i : Fin 12, laws_FnExactCountSubgroups.f 400 ((i.val : Int) + 1) = some true := by
  decide +kernel

theorem FnExactCountSubgroups : laws_FnExactCountSubgroups.Pure := by
  intro n _
  refine ⟨400, ?_⟩
  by_cases h : 1 ≤ n ∧ n ≤ 12
  · have := inside ⟨(n - 1).toNat, by omega⟩
    have e : (((n - 1).toNat : Nat) : Int) + 1 = n := by omega
    simp only [e] at this
    exact this
  · have h1 : spec_l01In.f n 1 12 = some false := by
      unfold spec_l01In.f; split
      · rw [decide_eq_false (by omega)]
      · rfl
    have h2 : impl_within.f n 1 12 = some false := by
      unfold impl_within.f; split
      · rw [decide_eq_false (by omega)]
      · rfl
    unfold laws_FnExactCountSubgroups.f spec_CountSubgroups.f impl_CountSubgroups.f
    rw [h1, h2]
    simp

end Go.Proofs.Ytifojoikeokecaa.Pure
