/- Contracts of the functions of chapter 1 that take lists of matrices. -/
import Derived.Test.YtfjmbpbilfhfbaaGreat01
namespace Go.Proofs.YtfjmbpbilfhfbaaGreat
open Go.RowKit

set_option maxHeartbeats 400000 in
theorem areMatrices_any (b off cap : Nat) (ms : List M) (w : World) (hl : ms.length ≤ 1000000) (hx : MRow w b off ms) :
    Calls Tryz.prog 25 #[.slice (some ⟨b, off, none⟩) ms.length cap] w fun e w' => e = .returned (.bool (ms.all M.ok)) ∧ Below w.heap.size w w' := by
  have HX := Lib.hid hx
  clear hx
  go_enter Tryz.func25, Tryz.ntmps25
  go_wp2
  go_loopw [7] (fun i wr => ∃ k : Nat, k ≤ ms.length ∧ i = .int .i64 k ∧ Hid ((ms.take k).all M.ok = true) ∧ Below w.heap.size w wr) (fun i _ => ms.length - (intOf i).toNat)
  case atStart => exact ⟨0, Nat.zero_le _, rfl, by simp [Hid], Below.refl _ _⟩
  case round =>
    obtain ⟨k, hk, rfl, hall, hbel⟩ := hrel
    by_cases hlt : k < ms.length
    · obtain ⟨c0, c1, c2, c3⟩ := HX.out.below hbel (HX.out.lt (by omega)) k hlt
      have hsz := hbel.size
      cases he : M.ok ms[k] with
      | true =>
        go_wp2_with (go_at_call 34; refine (IsMatrix_any _ _).mono ?_; rintro e w1 ⟨rfl, hb⟩; have hbs := hb.size; try simp at hbs)
        go_roundw
        case rel => exact ⟨k + 1, by omega, by go_num, all_take_snoc hlt hall he, (by repeat (first | (with_reducible exact Below.refl _ _) | (with_reducible assumption) | (with_reducible refine Below.drew ?_) | (with_reducible refine Below.drewN ?_) | ((with_reducible refine Below.al ?_ ?_); · first | omega | (simp; done) | (simp; omega)) | ((with_reducible refine Below.sc ?_ ?_); · first | omega | (simp; done) | (simp; omega)) | ((with_reducible refine Below.thru hb ?_ ?_); · first | omega | (simp; done) | (simp; omega))))⟩
        case measure => simp [intOf]; omega
      | false =>
        go_wp2_with (go_at_call 34; refine (IsMatrix_any _ _).mono ?_; rintro e w1 ⟨rfl, hb⟩; have hbs := hb.size; try simp at hbs)
        go_ret
        exact ⟨ret_bool (all_false_of hlt he).symm, (by repeat (first | (with_reducible exact Below.refl _ _) | (with_reducible assumption) | (with_reducible refine Below.drew ?_) | (with_reducible refine Below.drewN ?_) | ((with_reducible refine Below.al ?_ ?_); · first | omega | (simp; done) | (simp; omega)) | ((with_reducible refine Below.sc ?_ ?_); · first | omega | (simp; done) | (simp; omega)) | ((with_reducible refine Below.thru hb ?_ ?_); · first | omega | (simp; done) | (simp; omega))))⟩
    · go_wp2
      go_ret
      have hke : k = ms.length := by omega
      subst hke
      have h2 := hall.out
      rw [List.take_length] at h2
      exact ⟨ret_bool h2.symm, hbel⟩

end Go.Proofs.YtfjmbpbilfhfbaaGreat
