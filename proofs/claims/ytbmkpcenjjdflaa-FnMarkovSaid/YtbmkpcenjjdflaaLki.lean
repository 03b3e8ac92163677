/- The laws' own small functions over lists, walked by hand. -/
import Derived.Test.YtbmkpcenjjdflaaSl
namespace Go.Proofs.Ytbmkpcenjjdflaa
open Go.RowKit
set_option linter.unusedSimpArgs false

set_option maxHeartbeats 1000000 in
theorem likeInts_any (v u : Value) (xs ys : List Int) (w : World) (hv : SlIn w .i64 v xs) (hu : SlIn w .i64 u ys) (hl1 : xs.length ≤ maxLen) (hl2 : ys.length ≤ maxLen) :
    Calls Try.prog 27 #[v, u] w fun e w' => e = .returned (.bool (xs == ys)) ∧ Below w.heap.size w w' := by
  obtain ⟨ao, c, rfl, ha⟩ := hv.form
  obtain ⟨bo, c', rfl, hb⟩ := hu.form
  have HA := Lib.hid ha
  have HB := Lib.hid hb
  unfold maxLen at hl1 hl2
  clear ha hb hv hu
  by_cases hne : xs.length = ys.length
  · by_cases h0 : xs.length = 0
    · obtain rfl : xs = [] := List.eq_nil_of_length_eq_zero h0
      obtain rfl : ys = [] := List.eq_nil_of_length_eq_zero hne.symm
      clear hne h0
      go_enter Try.func27, Try.ntmps27
      go_wp2
      refine wp_loop_rounds 1 ?_
      rw [rounds_succ]
      go_wp2
      go_ret
      exact ⟨rfl, (by repeat (first | (with_reducible exact Below.refl _ _) | (with_reducible assumption) | (with_reducible refine Below.drew ?_) | (with_reducible refine Below.drewN ?_) | ((with_reducible refine Below.al ?_ ?_); · first | omega | (simp; done) | (simp; omega)) | ((with_reducible refine Below.sc ?_ ?_); · first | omega | (simp; done) | (simp; omega)) | ((with_reducible refine Below.thru hb ?_ ?_); · first | omega | (simp; done) | (simp; omega))))⟩
    · obtain ⟨a, rfl, hxa⟩ := HA.out (by omega)
      obtain ⟨b, rfl, hyb⟩ := HB.out (by omega)
      have HX := Lib.hid hxa
      have HY := Lib.hid hyb
      have HN := Lib.hid hne
      have e1 : xs.length ≤ ys.length := by omega
      have e2 : ys.length ≤ xs.length := by omega
      clear hxa hyb hne HA HB
      go_enter Try.func27, Try.ntmps27
      go_wp2
      go_loopw [5] (fun i wr => ∃ k : Nat, k ≤ xs.length ∧ i = .int .i64 k ∧ Hid (∀ j (h1 : j < xs.length) (h2 : j < ys.length), j < k → xs[j] = ys[j]) ∧ ∃ n, wr = w.drewN n) (fun i _ => xs.length - (intOf i).toNat)
      case atStart => exact ⟨0, Nat.zero_le _, rfl, fun j _ _ h => absurd h (by omega), 0, rfl⟩
      case round =>
        obtain ⟨k, hk, rfl, hall, n, rfl⟩ := hrel
        by_cases hlt : k < xs.length
        · have hlt2 : k < ys.length := by omega
          have i0 : (0 : Int) ≤ (k : Int) := by omega
          have i1 : (k : Int) < (xs.length : Int) := by omega
          have i2 : (k : Int) < (ys.length : Int) := by omega
          have c1 := HX.out k hlt
          have c2 := HY.out k hlt2
          cases hq : (xs[k] != ys[k]) with
          | false =>
            have he : xs[k] = ys[k] := by simpa using hq
            have HE := Lib.hid he
            clear he
            go_wp2_with fail
            go_quiet (fail)
            go_wp2
            go_roundw
            case rel => exact ⟨k + 1, by omega, by go_num, eq_step hall.out hlt hlt2 HE.out, n + nq, rfl⟩
            case measure => simp [intOf]; omega
          | true =>
            have he : ¬ xs[k] = ys[k] := by simpa using hq
            have F := Lib.hid (beq_no_at hlt hlt2 he)
            clear he
            go_wp2_with fail
            go_quiet (fail)
            go_wp2
            go_ret
            exact ⟨ret_bool F.out.symm, (by repeat (first | (with_reducible exact Below.refl _ _) | (with_reducible assumption) | (with_reducible refine Below.drew ?_) | (with_reducible refine Below.drewN ?_) | ((with_reducible refine Below.al ?_ ?_); · first | omega | (simp; done) | (simp; omega)) | ((with_reducible refine Below.sc ?_ ?_); · first | omega | (simp; done) | (simp; omega)) | ((with_reducible refine Below.thru hb ?_ ?_); · first | omega | (simp; done) | (simp; omega))))⟩
        · have F := Lib.hid (beq_of_all HN.out (fun j h1 h2 => hall.out j h1 h2 (by omega)))
          go_wp2
          go_ret
          exact ⟨ret_bool F.out.symm, (by repeat (first | (with_reducible exact Below.refl _ _) | (with_reducible assumption) | (with_reducible refine Below.drew ?_) | (with_reducible refine Below.drewN ?_) | ((with_reducible refine Below.al ?_ ?_); · first | omega | (simp; done) | (simp; omega)) | ((with_reducible refine Below.sc ?_ ?_); · first | omega | (simp; done) | (simp; omega)) | ((with_reducible refine Below.thru hb ?_ ?_); · first | omega | (simp; done) | (simp; omega))))⟩
  · have F := Lib.hid (beq_no_len hne)
    go_enter Try.func27, Try.ntmps27
    go_wp2
    go_ret
    exact ⟨ret_bool F.out.symm, (by repeat (first | (with_reducible exact Below.refl _ _) | (with_reducible assumption) | (with_reducible refine Below.drew ?_) | (with_reducible refine Below.drewN ?_) | ((with_reducible refine Below.al ?_ ?_); · first | omega | (simp; done) | (simp; omega)) | ((with_reducible refine Below.sc ?_ ?_); · first | omega | (simp; done) | (simp; omega)) | ((with_reducible refine Below.thru hb ?_ ?_); · first | omega | (simp; done) | (simp; omega))))⟩
theorem likeInts_same {w : World} {v u : Value} {xs : List Int} (hv : SlIn w .i64 v xs) (hu : SlIn w .i64 u xs) (hl : xs.length ≤ 1000000) :
    Calls Try.prog 27 #[v, u] w fun e w' => e = .returned (.bool true) ∧ Below w.heap.size w w' := by
  have h := likeInts_any v u xs xs w hv hu (by unfold maxLen; omega) (by unfold maxLen; omega)
  rwa [show (xs == xs) = true from beq_self_eq_true xs] at h
theorem has_step {xs : List Int} {x : Int} {k : Nat} (h : x ∈ xs.drop k) (hk : k < xs.length) (he : ¬ xs[k] = x) : x ∈ xs.drop (k + 1) := by
  rw [List.drop_eq_getElem_cons hk] at h
  rcases List.mem_cons.1 h with rfl | h
  · exact absurd rfl he
  · exact h
set_option maxHeartbeats 1000000 in
theorem hasInt_mem {w : World} {v : Value} {xs : List Int} (x : Int) (hv : SlIn w .i64 v xs) (hl : xs.length ≤ 1000000) (hx : x ∈ xs) :
    Calls Try.prog 28 #[v, .int .i64 x] w fun e w' => e = .returned (.bool true) ∧ Below w.heap.size w w' := by
  obtain ⟨ao, c, rfl, ha⟩ := hv.form
  have h0 : 0 < xs.length := List.length_pos_of_mem hx
  obtain ⟨a, rfl, hxa⟩ := ha h0
  have HX := Lib.hid hxa
  have HM := Lib.hid (show x ∈ xs.drop 0 from hx)
  clear ha hxa hx hv h0
  go_enter Try.func28, Try.ntmps28
  go_wp2
  go_loopw [5] (fun i wr => ∃ k : Nat, k ≤ xs.length ∧ i = .int .i64 k ∧ Hid (x ∈ xs.drop k) ∧ ∃ n, wr = w.drewN n) (fun i _ => xs.length - (intOf i).toNat)
  case atStart => exact ⟨0, Nat.zero_le _, rfl, HM, 0, rfl⟩
  case round =>
    obtain ⟨k, hk, rfl, hall, n, rfl⟩ := hrel
    by_cases hlt : k < xs.length
    · have i0 : (0 : Int) ≤ (k : Int) := by omega
      have i1 : (k : Int) < (xs.length : Int) := by omega
      have c1 := HX.out k hlt
      cases hq : (xs[k] == x) with
      | false =>
        have he : ¬ xs[k] = x := by simpa using hq
        have HE := Lib.hid he
        clear he
        go_wp2
        go_roundw
        case rel => exact ⟨k + 1, by omega, by go_num, Lib.hid (has_step hall.out hlt HE.out), n, rfl⟩
        case measure => simp [intOf]; omega
      | true =>
        go_wp2
        go_ret
        exact ⟨rfl, (by repeat (first | (with_reducible exact Below.refl _ _) | (with_reducible assumption) | (with_reducible refine Below.drew ?_) | (with_reducible refine Below.drewN ?_) | ((with_reducible refine Below.al ?_ ?_); · first | omega | (simp; done) | (simp; omega)) | ((with_reducible refine Below.sc ?_ ?_); · first | omega | (simp; done) | (simp; omega)) | ((with_reducible refine Below.thru hb ?_ ?_); · first | omega | (simp; done) | (simp; omega))))⟩
    · have hm := hall.out
      rw [List.drop_eq_nil_of_le (by omega)] at hm
      exact absurd hm (by simp)

end Go.Proofs.Ytbmkpcenjjdflaa
