/- Contracts of the functions of chapter 1 (matrices and fractions), of program and reference. -/
import Derived.Test.YtcapmljnhflopaaRows
import Derived.Test.YtcapmljnhflopaaCore
namespace Go.Proofs.Ytcapmljnhflopaa
open Go.RowKit

set_option maxHeartbeats 400000 in
theorem within_any (a b c : Int) (w : World) :
    Calls Try.prog 54 #[.int .i64 a, .int .i64 b, .int .i64 c] w fun e w' => e = .returned (.bool (inB a b c)) ∧ w = w' := by
  go_enter Try.func54, Try.ntmps54
  go_wp2
  all_goals go_ret
  all_goals exact ⟨ret_bool (by rw [Bool.eq_iff_iff]; simp [inB]; try omega), rfl⟩

set_option maxHeartbeats 400000 in
theorem l01In_any (a b c : Int) (w : World) :
    Calls Try.prog 45 #[.int .i64 a, .int .i64 b, .int .i64 c] w fun e w' => e = .returned (.bool (inB a b c)) ∧ w = w' := by
  go_enter Try.func45, Try.ntmps45
  go_wp2
  all_goals go_ret
  all_goals exact ⟨ret_bool (by rw [Bool.eq_iff_iff]; simp [inB]; try omega), rfl⟩

set_option maxHeartbeats 400000 in
theorem isEntry_any (a : Int) (w : World) :
    Calls Try.prog 44 #[.int .i64 a] w fun e w' => e = .returned (.bool (entB a)) ∧ w = w' := by
  go_enter Try.func44, Try.ntmps44
  go_wp2_with (go_at_call 54; refine (within_any _ _ _ _).mono ?_; rintro e w' ⟨rfl, rfl⟩)
  go_ret
  exact ⟨rfl, rfl⟩

set_option maxHeartbeats 400000 in
theorem l01Entry_any (a : Int) (w : World) :
    Calls Try.prog 32 #[.int .i64 a] w fun e w' => e = .returned (.bool (entB a)) ∧ w = w' := by
  go_enter Try.func32, Try.ntmps32
  go_wp2_with (go_at_call 45; refine (l01In_any _ _ _ _).mono ?_; rintro e w' ⟨rfl, rfl⟩)
  go_ret
  exact ⟨rfl, rfl⟩

theorem all_take_snoc {α : Type} {f : α → Bool} {xs : List α} {k : Nat} (hk : k < xs.length) (h : (xs.take k).all f = true) (hf : f xs[k] = true) : (xs.take (k + 1)).all f = true := by
  rw [List.take_succ_eq_append_getElem hk, List.all_append, h]; simp [hf]
theorem all_false_of {α : Type} {f : α → Bool} {xs : List α} {k : Nat} (hk : k < xs.length) (hf : f xs[k] = false) : xs.all f = false := by
  rw [List.all_eq_false]; exact ⟨xs[k], List.getElem_mem hk, by simp [hf]⟩

set_option maxHeartbeats 400000 in
/-- areEntries of a slice that reads as xs. -/
theorem areEntries_any (a : Addr) (cap : Nat) (xs : List Int) (w : World) (hl : xs.length ≤ 1000000000) (hx : ∀ j (h : j < xs.length), w.cell? (a.add j) = some (.int .i64 xs[j])) :
    Calls Try.prog 30 #[.slice (some a) xs.length cap] w fun e w' => e = .returned (.bool (xs.all entB)) ∧ w = w' := by
  have HX := Lib.hid hx
  clear hx
  go_enter Try.func30, Try.ntmps30
  go_wp2
  go_loop [7] (fun i => ∃ k : Nat, k ≤ xs.length ∧ i = .int .i64 k ∧ Hid ((xs.take k).all entB = true)) (fun i => xs.length - (intOf i).toNat)
  case atStart => exact ⟨0, Nat.zero_le _, rfl, by simp [Hid]⟩
  case round =>
    obtain ⟨k, hk, rfl, hall⟩ := hrel
    by_cases hlt : k < xs.length
    · have hcell := HX.out k hlt
      cases he : entB xs[k] with
      | true =>
        go_wp2_with (go_at_call 44; refine (isEntry_any _ _).mono ?_; rintro e w' ⟨rfl, rfl⟩)
        go_round
        case rel => exact ⟨k + 1, by omega, by go_num, all_take_snoc hlt hall he⟩
        case measure => simp [intOf]; omega
      | false =>
        go_wp2_with (go_at_call 44; refine (isEntry_any _ _).mono ?_; rintro e w' ⟨rfl, rfl⟩)
        go_ret
        exact ⟨ret_bool (all_false_of hlt he).symm, rfl⟩
    · go_wp2
      go_ret
      have hke : k = xs.length := by omega
      subst hke
      have h2 := hall.out
      rw [List.take_length] at h2
      exact ⟨ret_bool h2.symm, rfl⟩

set_option maxHeartbeats 400000 in
theorem IsMatrix_any (m : M) (w : World) :
    Calls Try.prog 14 #[.agg #[.int .i64 m.a, .int .i64 m.b, .int .i64 m.c, .int .i64 m.d]] w fun e w' => e = .returned (.bool m.ok) ∧ Below w.heap.size w w' := by
  have fin : m.ents = true → (m.a * m.d - m.b * m.c == 1) = m.ok := fun h => by simp [M.ok, M.det, h]
  have fin2 : m.ents = false → false = m.ok := fun h => by simp [M.ok, h]
  have F := Lib.hid fin
  have F2 := Lib.hid fin2
  clear fin fin2
  go_enter Try.func14, Try.ntmps14
  go_wp2_with fail
  refine (areEntries_any ⟨w.heap.size, 0, none⟩ 4 [m.a, m.b, m.c, m.d] _ (by simp) ?hc).mono ?_
  case hc =>
    intro j hj
    match j, hj with
    | 0, _ => simp [Addr.add]
    | 1, _ => simp [Addr.add]
    | 2, _ => simp [Addr.add]
    | 3, _ => simp [Addr.add]
  rintro e w' ⟨rfl, rfl⟩
  cases he : [m.a, m.b, m.c, m.d].all entB with
  | true =>
    have hb := M.ents_true (m := m) he
    have h1 := ent_mul hb.1.1 hb.2.2
    have h2 := ent_mul hb.1.2 hb.2.1
    clear hb
    have HE := Lib.hid he
    clear he
    go_wp2
    go_ret
    exact ⟨ret_bool (F.out HE.out), (by repeat (first | (with_reducible exact Below.refl _ _) | (with_reducible assumption) | (with_reducible refine Below.drew ?_) | (with_reducible refine Below.drewN ?_) | ((with_reducible refine Below.al ?_ ?_); · first | omega | (simp; done) | (simp; omega)) | ((with_reducible refine Below.sc ?_ ?_); · first | omega | (simp; done) | (simp; omega)) | ((with_reducible refine Below.thru hb ?_ ?_); · first | omega | (simp; done) | (simp; omega))))⟩
  | false =>
    have HE := Lib.hid he
    clear he
    go_wp2
    go_ret
    exact ⟨ret_bool (F2.out HE.out), (by repeat (first | (with_reducible exact Below.refl _ _) | (with_reducible assumption) | (with_reducible refine Below.drew ?_) | (with_reducible refine Below.drewN ?_) | ((with_reducible refine Below.al ?_ ?_); · first | omega | (simp; done) | (simp; omega)) | ((with_reducible refine Below.sc ?_ ?_); · first | omega | (simp; done) | (simp; omega)) | ((with_reducible refine Below.thru hb ?_ ?_); · first | omega | (simp; done) | (simp; omega))))⟩

set_option maxHeartbeats 400000 in
theorem l01Is_any (m : M) (w : World) :
    Calls Try.prog 18 #[.agg #[.int .i64 m.a, .int .i64 m.b, .int .i64 m.c, .int .i64 m.d]] w fun e w' => e = .returned (.bool m.ok) ∧ Below w.heap.size w w' := by
  by_cases he : m.ents = true
  · have hb := M.ents_true (m := m) he
    have h1 := ent_mul hb.1.1 hb.2.2
    have h2 := ent_mul hb.1.2 hb.2.1
    have fin : (m.a * m.d - m.b * m.c == 1) = m.ok := by simp [M.ok, M.det, he]
    have F := Lib.hid fin
    obtain ⟨⟨ha, hb⟩, hc, hd⟩ := hb
    clear he fin
    go_enter Try.func18, Try.ntmps18
    go_wp2_with (go_at_call 32; refine (l01Entry_any _ _).mono ?_; rintro e w' ⟨rfl, rfl⟩)
    go_ret
    exact ⟨ret_bool F.out, (by repeat (first | (with_reducible exact Below.refl _ _) | (with_reducible assumption) | (with_reducible refine Below.drew ?_) | (with_reducible refine Below.drewN ?_) | ((with_reducible refine Below.al ?_ ?_); · first | omega | (simp; done) | (simp; omega)) | ((with_reducible refine Below.sc ?_ ?_); · first | omega | (simp; done) | (simp; omega)) | ((with_reducible refine Below.thru hb ?_ ?_); · first | omega | (simp; done) | (simp; omega))))⟩
  · have fin : false = m.ok := by simp [M.ok, he]
    have F := Lib.hid fin
    clear fin
    have he2 : ¬ (entB m.a = true ∧ entB m.b = true ∧ entB m.c = true ∧ entB m.d = true) := fun h => he (by simp [M.ents, h])
    have H := Lib.hid he2
    clear he he2
    go_enter Try.func18, Try.ntmps18
    go_wp2_with (go_at_call 32; refine (l01Entry_any _ _).mono ?_; rintro e w' ⟨rfl, rfl⟩)
    · exact absurd ⟨by assumption, by assumption, by assumption, by assumption⟩ H.out
    all_goals
      go_ret
      exact ⟨ret_bool F.out, (by repeat (first | (with_reducible exact Below.refl _ _) | (with_reducible assumption) | (with_reducible refine Below.drew ?_) | (with_reducible refine Below.drewN ?_) | ((with_reducible refine Below.al ?_ ?_); · first | omega | (simp; done) | (simp; omega)) | ((with_reducible refine Below.sc ?_ ?_); · first | omega | (simp; done) | (simp; omega)) | ((with_reducible refine Below.thru hb ?_ ?_); · first | omega | (simp; done) | (simp; omega))))⟩

set_option maxHeartbeats 400000 in
theorem l01Trace_any (m : M) (w : World) (h1 : entB m.a = true) (h2 : entB m.d = true) :
    Calls Try.prog 56 #[.agg #[.int .i64 m.a, .int .i64 m.b, .int .i64 m.c, .int .i64 m.d]] w fun e w' => e = .returned (.int .i64 m.tr) ∧ Below w.heap.size w w' := by
  have k1 := entB_true h1
  have k2 := entB_true h2
  clear h1 h2
  go_enter Try.func56, Try.ntmps56
  go_wp2
  go_ret
  exact ⟨rfl, (by repeat (first | (with_reducible exact Below.refl _ _) | (with_reducible assumption) | (with_reducible refine Below.drew ?_) | (with_reducible refine Below.drewN ?_) | ((with_reducible refine Below.al ?_ ?_); · first | omega | (simp; done) | (simp; omega)) | ((with_reducible refine Below.sc ?_ ?_); · first | omega | (simp; done) | (simp; omega)) | ((with_reducible refine Below.thru hb ?_ ?_); · first | omega | (simp; done) | (simp; omega))))⟩

set_option maxHeartbeats 400000 in
theorem l01Inverse_any (m : M) (w : World) (h : m.ents = true) :
    Calls Try.prog 40 #[.agg #[.int .i64 m.a, .int .i64 m.b, .int .i64 m.c, .int .i64 m.d]] w fun e w' => e = .returned (.agg #[.int .i64 m.d, .int .i64 (-m.b), .int .i64 (-m.c), .int .i64 m.a]) ∧ Below w.heap.size w w' := by
  have k := M.ents_bd h
  clear h
  obtain ⟨k1, k2, k3, k4⟩ := k
  go_enter Try.func40, Try.ntmps40
  go_wp2
  refine bodyPost_ret (v := .agg #[.int .i64 m.d, .int .i64 (-m.b), .int .i64 (-m.c), .int .i64 m.a]) (by simp [results, Try.results40, go_sem]) rfl ?_
  exact ⟨rfl, (by repeat (first | (with_reducible exact Below.refl _ _) | (with_reducible assumption) | (with_reducible refine Below.drew ?_) | (with_reducible refine Below.drewN ?_) | ((with_reducible refine Below.al ?_ ?_); · first | omega | (simp; done) | (simp; omega)) | ((with_reducible refine Below.sc ?_ ?_); · first | omega | (simp; done) | (simp; omega)) | ((with_reducible refine Below.thru hb ?_ ?_); · first | omega | (simp; done) | (simp; omega))))⟩

set_option maxHeartbeats 400000 in
theorem times_any (m n : M) (w : World) (hm : m.ents = true) (hn : n.ents = true) :
    Calls Try.prog 51 #[.agg #[.int .i64 m.a, .int .i64 m.b, .int .i64 m.c, .int .i64 m.d], .agg #[.int .i64 n.a, .int .i64 n.b, .int .i64 n.c, .int .i64 n.d]] w fun e w' => e = .returned (mv (m.mul n)) ∧ Below w.heap.size w w' := by
  obtain ⟨⟨k1, k2⟩, k3, k4⟩ := M.ents_true hm
  obtain ⟨⟨l1, l2⟩, l3, l4⟩ := M.ents_true hn
  have a1 := ent_mul k1 l1
  have a2 := ent_mul k2 l3
  have a3 := ent_mul k1 l2
  have a4 := ent_mul k2 l4
  have a5 := ent_mul k3 l1
  have a6 := ent_mul k4 l3
  have a7 := ent_mul k3 l2
  have a8 := ent_mul k4 l4
  clear hm hn k1 k2 k3 k4 l1 l2 l3 l4
  go_enter Try.func51, Try.ntmps51
  go_wp2
  refine bodyPost_ret (v := .agg #[.int .i64 (m.a * n.a + m.b * n.c), .int .i64 (m.a * n.b + m.b * n.d), .int .i64 (m.c * n.a + m.d * n.c), .int .i64 (m.c * n.b + m.d * n.d)]) (by simp [results, Try.results51, go_sem]) rfl ?_
  exact ⟨rfl, (by repeat (first | (with_reducible exact Below.refl _ _) | (with_reducible assumption) | (with_reducible refine Below.drew ?_) | (with_reducible refine Below.drewN ?_) | ((with_reducible refine Below.al ?_ ?_); · first | omega | (simp; done) | (simp; omega)) | ((with_reducible refine Below.sc ?_ ?_); · first | omega | (simp; done) | (simp; omega)) | ((with_reducible refine Below.thru hb ?_ ?_); · first | omega | (simp; done) | (simp; omega))))⟩

set_option maxHeartbeats 400000 in
theorem identity_any (w : World) :
    Calls Try.prog 49 #[] w fun e w' => e = .returned (.agg #[.int .i64 1, .int .i64 0, .int .i64 0, .int .i64 1]) ∧ Below w.heap.size w w' := by
  go_enter Try.func49, Try.ntmps49
  go_wp2
  refine bodyPost_ret (v := .agg #[.int .i64 1, .int .i64 0, .int .i64 0, .int .i64 1]) (by simp [results, Try.results49, go_sem]) rfl ?_
  exact ⟨rfl, (by repeat (first | (with_reducible exact Below.refl _ _) | (with_reducible assumption) | (with_reducible refine Below.drew ?_) | (with_reducible refine Below.drewN ?_) | ((with_reducible refine Below.al ?_ ?_); · first | omega | (simp; done) | (simp; omega)) | ((with_reducible refine Below.sc ?_ ?_); · first | omega | (simp; done) | (simp; omega)) | ((with_reducible refine Below.thru hb ?_ ?_); · first | omega | (simp; done) | (simp; omega))))⟩

set_option maxHeartbeats 400000 in
theorem limited_yes (m : M) (w : World) (h : m.ents = true) :
    Calls Try.prog 50 #[.agg #[.int .i64 m.a, .int .i64 m.b, .int .i64 m.c, .int .i64 m.d]] w fun e w' => e = .returned (.tuple #[mv m, .int .i64 0]) ∧ Below w.heap.size w w' := by
  have H := Lib.hid h
  have H' : [m.a, m.b, m.c, m.d].all entB = true := h
  clear h
  go_enter Try.func50, Try.ntmps50
  go_wp2_with fail
  refine (areEntries_any ⟨w.heap.size, 0, none⟩ 4 [m.a, m.b, m.c, m.d] _ (by simp) ?hc).mono ?_
  case hc =>
    intro j hj
    match j, hj with
    | 0, _ => simp [Addr.add]
    | 1, _ => simp [Addr.add]
    | 2, _ => simp [Addr.add]
    | 3, _ => simp [Addr.add]
  rintro e w' ⟨rfl, rfl⟩
  rw [H']
  clear H'
  go_wp2
  refine bodyPost_ret (v := .tuple #[mv m, .int .i64 0]) (by simp [results, Try.results50, go_sem]) rfl ?_
  exact ⟨rfl, (by repeat (first | (with_reducible exact Below.refl _ _) | (with_reducible assumption) | (with_reducible refine Below.drew ?_) | (with_reducible refine Below.drewN ?_) | ((with_reducible refine Below.al ?_ ?_); · first | omega | (simp; done) | (simp; omega)) | ((with_reducible refine Below.sc ?_ ?_); · first | omega | (simp; done) | (simp; omega)) | ((with_reducible refine Below.thru hb ?_ ?_); · first | omega | (simp; done) | (simp; omega))))⟩

set_option maxHeartbeats 400000 in
theorem limited_no (m : M) (w : World) (h : m.ents = false) :
    Calls Try.prog 50 #[.agg #[.int .i64 m.a, .int .i64 m.b, .int .i64 m.c, .int .i64 m.d]] w fun e w' => e = .returned (.tuple #[.agg #[.int .i64 0, .int .i64 0, .int .i64 0, .int .i64 0], .int .i64 3]) ∧ Below w.heap.size w w' := by
  have H' : [m.a, m.b, m.c, m.d].all entB = false := h
  clear h
  go_enter Try.func50, Try.ntmps50
  go_wp2_with fail
  refine (areEntries_any ⟨w.heap.size, 0, none⟩ 4 [m.a, m.b, m.c, m.d] _ (by simp) ?hc).mono ?_
  case hc =>
    intro j hj
    match j, hj with
    | 0, _ => simp [Addr.add]
    | 1, _ => simp [Addr.add]
    | 2, _ => simp [Addr.add]
    | 3, _ => simp [Addr.add]
  rintro e w' ⟨rfl, rfl⟩
  rw [H']
  clear H'
  go_wp2
  refine bodyPost_ret (v := .tuple #[.agg #[.int .i64 0, .int .i64 0, .int .i64 0, .int .i64 0], .int .i64 3]) (by simp [results, Try.results50, go_sem]) rfl ?_
  exact ⟨rfl, (by repeat (first | (with_reducible exact Below.refl _ _) | (with_reducible assumption) | (with_reducible refine Below.drew ?_) | (with_reducible refine Below.drewN ?_) | ((with_reducible refine Below.al ?_ ?_); · first | omega | (simp; done) | (simp; omega)) | ((with_reducible refine Below.sc ?_ ?_); · first | omega | (simp; done) | (simp; omega)) | ((with_reducible refine Below.thru hb ?_ ?_); · first | omega | (simp; done) | (simp; omega))))⟩

end Go.Proofs.Ytcapmljnhflopaa
