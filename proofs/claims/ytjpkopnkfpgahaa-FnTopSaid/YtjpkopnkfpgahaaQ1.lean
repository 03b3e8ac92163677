import Derived.Test.YtjpkopnkfpgahaaRows
import Derived.Test.YtjpkopnkfpgahaaCore
/- Contracts of the functions of chapter 1 (matrices and fractions), of program and reference. -/
namespace Go.Proofs.Ytjpkopnkfpgahaa
open Go.RowKit

set_option maxHeartbeats 400000 in
theorem within_any (a b c : Int) (w : World) :
    Calls Try.prog 58 #[.int .i64 a, .int .i64 b, .int .i64 c] w fun e w' => e = .returned (.bool (inB a b c)) ∧ w = w' := by
  go_enter Try.func58, Try.ntmps58
  go_wp2
  all_goals go_ret
  all_goals exact ⟨ret_bool (by rw [Bool.eq_iff_iff]; simp [inB]; try omega), rfl⟩

set_option maxHeartbeats 400000 in
theorem l01In_any (a b c : Int) (w : World) :
    Calls Try.prog 67 #[.int .i64 a, .int .i64 b, .int .i64 c] w fun e w' => e = .returned (.bool (inB a b c)) ∧ w = w' := by
  go_enter Try.func67, Try.ntmps67
  go_wp2
  all_goals go_ret
  all_goals exact ⟨ret_bool (by rw [Bool.eq_iff_iff]; simp [inB]; try omega), rfl⟩

set_option maxHeartbeats 400000 in
theorem isEntry_any (a : Int) (w : World) :
    Calls Try.prog 53 #[.int .i64 a] w fun e w' => e = .returned (.bool (entB a)) ∧ w = w' := by
  go_enter Try.func53, Try.ntmps53
  go_wp2_with (go_at_call 58; refine (within_any _ _ _ _).mono ?_; rintro e w' ⟨rfl, rfl⟩)
  go_ret
  exact ⟨rfl, rfl⟩

set_option maxHeartbeats 400000 in
theorem l01Entry_any (a : Int) (w : World) :
    Calls Try.prog 42 #[.int .i64 a] w fun e w' => e = .returned (.bool (entB a)) ∧ w = w' := by
  go_enter Try.func42, Try.ntmps42
  go_wp2_with (go_at_call 67; refine (l01In_any _ _ _ _).mono ?_; rintro e w' ⟨rfl, rfl⟩)
  go_ret
  exact ⟨rfl, rfl⟩

theorem all_take_snoc {α : Type} {f : α → Bool} {xs : List α} {k : Nat} (hk : k < xs.length) (h : (xs.take k).all f = true) (hf : f xs[k] = true) : (xs.take (k + 1)).all f = true := by
  rw [List.take_succ_eq_append_getElem hk, List.all_append, h]; simp [hf]
theorem all_false_of {α : Type} {f : α → Bool} {xs : List α} {k : Nat} (hk : k < xs.length) (hf : f xs[k] = false) : xs.all f = false := by
  rw [List.all_eq_false]; exact ⟨xs[k], List.getElem_mem hk, by simp [hf]⟩

set_option maxHeartbeats 400000 in
/-- areEntries of a slice that reads as xs. -/
theorem areEntries_any (a : Addr) (cap : Nat) (xs : List Int) (w : World) (hl : xs.length ≤ 1000000000) (hx : ∀ j (h : j < xs.length), w.cell? (a.add j) = some (.int .i64 xs[j])) :
    Calls Try.prog 28 #[.slice (some a) xs.length cap] w fun e w' => e = .returned (.bool (xs.all entB)) ∧ w = w' := by
  have HX := Lib.hid hx
  clear hx
  go_enter Try.func28, Try.ntmps28
  go_wp2
  go_loop [7] (fun i => ∃ k : Nat, k ≤ xs.length ∧ i = .int .i64 k ∧ Hid ((xs.take k).all entB = true)) (fun i => xs.length - (intOf i).toNat)
  case atStart => exact ⟨0, Nat.zero_le _, rfl, by simp [Hid]⟩
  case round =>
    obtain ⟨k, hk, rfl, hall⟩ := hrel
    by_cases hlt : k < xs.length
    · have hcell := HX.out k hlt
      cases he : entB xs[k] with
      | true =>
        go_wp2_with (go_at_call 53; refine (isEntry_any _ _).mono ?_; rintro e w' ⟨rfl, rfl⟩)
        go_round
        case rel => exact ⟨k + 1, by omega, by go_num, all_take_snoc hlt hall he⟩
        case measure => simp [intOf]; omega
      | false =>
        go_wp2_with (go_at_call 53; refine (isEntry_any _ _).mono ?_; rintro e w' ⟨rfl, rfl⟩)
        go_ret
        exact ⟨ret_bool (all_false_of hlt he).symm, rfl⟩
    · go_wp2
      go_ret
      have hke : k = xs.length := by omega
      subst hke
      have h2 := hall.out
      rw [List.take_length] at h2
      exact ⟨ret_bool h2.symm, rfl⟩

set_option maxHeartbeats 400000 in
theorem IsMatrix_any (m : M) (w : World) :
    Calls Try.prog 25 #[.agg #[.int .i64 m.a, .int .i64 m.b, .int .i64 m.c, .int .i64 m.d]] w fun e w' => e = .returned (.bool m.ok) ∧ Below w.heap.size w w' := by
  have fin : m.ents = true → (m.a * m.d - m.b * m.c == 1) = m.ok := fun h => by simp [M.ok, M.det, h]
  have fin2 : m.ents = false → false = m.ok := fun h => by simp [M.ok, h]
  have F := Lib.hid fin
  have F2 := Lib.hid fin2
  clear fin fin2
  go_enter Try.func25, Try.ntmps25
  go_wp2_with fail
  refine (areEntries_any ⟨w.heap.size, 0, none⟩ 4 [m.a, m.b, m.c, m.d] _ (by simp) ?hc).mono ?_
  case hc =>
    intro j hj
    match j, hj with
    | 0, _ => simp [Addr.add]
    | 1, _ => simp [Addr.add]
    | 2, _ => simp [Addr.add]
    | 3, _ => simp [Addr.add]
  rintro e w' ⟨rfl, rfl⟩
  cases he : [m.a, m.b, m.c, m.d].all entB with
  | true =>
    have hb := M.ents_true (m := m) he
    have h1 := ent_mul hb.1.1 hb.2.2
    have h2 := ent_mul hb.1.2 hb.2.1
    clear hb
    have HE := Lib.hid he
    clear he
    go_wp2
    go_ret
    exact ⟨ret_bool (F.out HE.out), (by repeat (first | (with_reducible exact Below.refl _ _) | (with_reducible assumption) | (with_reducible refine Below.drew ?_) | (with_reducible refine Below.drewN ?_) | ((with_reducible refine Below.al ?_ ?_); · first | omega | (simp; done) | (simp; omega)) | ((with_reducible refine Below.sc ?_ ?_); · first | omega | (simp; done) | (simp; omega)) | ((with_reducible refine Below.thru hb ?_ ?_); · first | omega | (simp; done) | (simp; omega))))⟩
  | false =>
    have HE := Lib.hid he
    clear he
    go_wp2
    go_ret
    exact ⟨ret_bool (F2.out HE.out), (by repeat (first | (with_reducible exact Below.refl _ _) | (with_reducible assumption) | (with_reducible refine Below.drew ?_) | (with_reducible refine Below.drewN ?_) | ((with_reducible refine Below.al ?_ ?_); · first | omega | (simp; done) | (simp; omega)) | ((with_reducible refine Below.sc ?_ ?_); · first | omega | (simp; done) | (simp; omega)) | ((with_reducible refine Below.thru hb ?_ ?_); · first | omega | (simp; done) | (simp; omega))))⟩


set_option maxHeartbeats 400000 in
theorem times_any (m n : M) (w : World) (hm : m.ents = true) (hn : n.ents = true) :
    Calls Try.prog 56 #[.agg #[.int .i64 m.a, .int .i64 m.b, .int .i64 m.c, .int .i64 m.d], .agg #[.int .i64 n.a, .int .i64 n.b, .int .i64 n.c, .int .i64 n.d]] w fun e w' => e = .returned (mv (m.mul n)) ∧ Below w.heap.size w w' := by
  obtain ⟨⟨k1, k2⟩, k3, k4⟩ := M.ents_true hm
  obtain ⟨⟨l1, l2⟩, l3, l4⟩ := M.ents_true hn
  have a1 := ent_mul k1 l1
  have a2 := ent_mul k2 l3
  have a3 := ent_mul k1 l2
  have a4 := ent_mul k2 l4
  have a5 := ent_mul k3 l1
  have a6 := ent_mul k4 l3
  have a7 := ent_mul k3 l2
  have a8 := ent_mul k4 l4
  clear hm hn k1 k2 k3 k4 l1 l2 l3 l4
  go_enter Try.func56, Try.ntmps56
  go_wp2
  refine bodyPost_ret (v := .agg #[.int .i64 (m.a * n.a + m.b * n.c), .int .i64 (m.a * n.b + m.b * n.d), .int .i64 (m.c * n.a + m.d * n.c), .int .i64 (m.c * n.b + m.d * n.d)]) (by simp [results, Try.results56, go_sem]) rfl ?_
  exact ⟨rfl, (by repeat (first | (with_reducible exact Below.refl _ _) | (with_reducible assumption) | (with_reducible refine Below.drew ?_) | (with_reducible refine Below.drewN ?_) | ((with_reducible refine Below.al ?_ ?_); · first | omega | (simp; done) | (simp; omega)) | ((with_reducible refine Below.sc ?_ ?_); · first | omega | (simp; done) | (simp; omega)) | ((with_reducible refine Below.thru hb ?_ ?_); · first | omega | (simp; done) | (simp; omega))))⟩

set_option maxHeartbeats 400000 in
theorem identity_any (w : World) :
    Calls Try.prog 44 #[] w fun e w' => e = .returned (.agg #[.int .i64 1, .int .i64 0, .int .i64 0, .int .i64 1]) ∧ Below w.heap.size w w' := by
  go_enter Try.func44, Try.ntmps44
  go_wp2
  refine bodyPost_ret (v := .agg #[.int .i64 1, .int .i64 0, .int .i64 0, .int .i64 1]) (by simp [results, Try.results44, go_sem]) rfl ?_
  exact ⟨rfl, (by repeat (first | (with_reducible exact Below.refl _ _) | (with_reducible assumption) | (with_reducible refine Below.drew ?_) | (with_reducible refine Below.drewN ?_) | ((with_reducible refine Below.al ?_ ?_); · first | omega | (simp; done) | (simp; omega)) | ((with_reducible refine Below.sc ?_ ?_); · first | omega | (simp; done) | (simp; omega)) | ((with_reducible refine Below.thru hb ?_ ?_); · first | omega | (simp; done) | (simp; omega))))⟩

set_option maxHeartbeats 400000 in
theorem limited_yes (m : M) (w : World) (h : m.ents = true) :
    Calls Try.prog 55 #[.agg #[.int .i64 m.a, .int .i64 m.b, .int .i64 m.c, .int .i64 m.d]] w fun e w' => e = .returned (.tuple #[mv m, .int .i64 0]) ∧ Below w.heap.size w w' := by
  have H := Lib.hid h
  have H' : [m.a, m.b, m.c, m.d].all entB = true := h
  clear h
  go_enter Try.func55, Try.ntmps55
  go_wp2_with fail
  refine (areEntries_any ⟨w.heap.size, 0, none⟩ 4 [m.a, m.b, m.c, m.d] _ (by simp) ?hc).mono ?_
  case hc =>
    intro j hj
    match j, hj with
    | 0, _ => simp [Addr.add]
    | 1, _ => simp [Addr.add]
    | 2, _ => simp [Addr.add]
    | 3, _ => simp [Addr.add]
  rintro e w' ⟨rfl, rfl⟩
  rw [H']
  clear H'
  go_wp2
  refine bodyPost_ret (v := .tuple #[mv m, .int .i64 0]) (by simp [results, Try.results55, go_sem]) rfl ?_
  exact ⟨rfl, (by repeat (first | (with_reducible exact Below.refl _ _) | (with_reducible assumption) | (with_reducible refine Below.drew ?_) | (with_reducible refine Below.drewN ?_) | ((with_reducible refine Below.al ?_ ?_); · first | omega | (simp; done) | (simp; omega)) | ((with_reducible refine Below.sc ?_ ?_); · first | omega | (simp; done) | (simp; omega)) | ((with_reducible refine Below.thru hb ?_ ?_); · first | omega | (simp; done) | (simp; omega))))⟩

set_option maxHeartbeats 400000 in
theorem limited_no (m : M) (w : World) (h : m.ents = false) :
    Calls Try.prog 55 #[.agg #[.int .i64 m.a, .int .i64 m.b, .int .i64 m.c, .int .i64 m.d]] w fun e w' => e = .returned (.tuple #[.agg #[.int .i64 0, .int .i64 0, .int .i64 0, .int .i64 0], .int .i64 3]) ∧ Below w.heap.size w w' := by
  have H' : [m.a, m.b, m.c, m.d].all entB = false := h
  clear h
  go_enter Try.func55, Try.ntmps55
  go_wp2_with fail
  refine (areEntries_any ⟨w.heap.size, 0, none⟩ 4 [m.a, m.b, m.c, m.d] _ (by simp) ?hc).mono ?_
  case hc =>
    intro j hj
    match j, hj with
    | 0, _ => simp [Addr.add]
    | 1, _ => simp [Addr.add]
    | 2, _ => simp [Addr.add]
    | 3, _ => simp [Addr.add]
  rintro e w' ⟨rfl, rfl⟩
  rw [H']
  clear H'
  go_wp2
  refine bodyPost_ret (v := .tuple #[.agg #[.int .i64 0, .int .i64 0, .int .i64 0, .int .i64 0], .int .i64 3]) (by simp [results, Try.results55, go_sem]) rfl ?_
  exact ⟨rfl, (by repeat (first | (with_reducible exact Below.refl _ _) | (with_reducible assumption) | (with_reducible refine Below.drew ?_) | (with_reducible refine Below.drewN ?_) | ((with_reducible refine Below.al ?_ ?_); · first | omega | (simp; done) | (simp; omega)) | ((with_reducible refine Below.sc ?_ ?_); · first | omega | (simp; done) | (simp; omega)) | ((with_reducible refine Below.thru hb ?_ ?_); · first | omega | (simp; done) | (simp; omega))))⟩

end Go.Proofs.Ytjpkopnkfpgahaa

/- Contracts of the functions of chapter 1 that take lists of matrices. -/
namespace Go.Proofs.Ytjpkopnkfpgahaa
open Go.RowKit

set_option maxHeartbeats 1000000 in
/-- product of a list: all that the program takes are small numbers. -/
theorem product_any (b off cap : Nat) (ms : List M) (w : World) (hl : ms.length ≤ 1000000) (hx : MRow w b off ms) (hm : ms.all M.ents = true) :
    Calls Try.prog 30 #[.slice (some ⟨b, off, none⟩) ms.length cap] w fun e w' => e = .returned (prodRes (prodFrom M.one ms)) ∧ Below w.heap.size w w' := by
  have HX := Lib.hid hx
  have HM := Lib.hid hm
  clear hx hm
  go_enter Try.func30, Try.ntmps30
  go_wp2_with (go_at_call 44; refine (identity_any _).mono ?_; rintro e w1 ⟨rfl, hb⟩; have hbs := hb.size; try simp at hbs)
  have hres0 : Blk w1 w.heap.size 30 (mcs ⟨0, 0, 0, 0⟩) := (by repeat (first | (with_reducible assumption) | ((with_reducible refine Blk.new ?_); · first | omega | (simp; done) | (simp; omega)) | (with_reducible apply Blk.set4) | (with_reducible apply Blk.set3) | (with_reducible apply Blk.set2) | ((with_reducible refine Blk.put ?_ ?_); · first | omega | (simp; omega)) | (with_reducible refine Blk.old ?_) | (with_reducible refine Blk.drew ?_) | (with_reducible refine Blk.drewN ?_) | ((with_reducible refine Blk.below hb ?_ ?_); · first | omega | (simp; done) | (simp; omega))))
  have hbw : Below w.heap.size w w1 := (by repeat (first | (with_reducible exact Below.refl _ _) | (with_reducible assumption) | (with_reducible refine Below.drew ?_) | (with_reducible refine Below.drewN ?_) | ((with_reducible refine Below.al ?_ ?_); · first | omega | (simp; done) | (simp; omega)) | ((with_reducible refine Below.sc ?_ ?_); · first | omega | (simp; done) | (simp; omega)) | ((with_reducible refine Below.thru hb ?_ ?_); · first | omega | (simp; done) | (simp; omega))))
  clear hb
  go_loopw [12] (fun i wr => ∃ (k : Nat) (m : M), k ≤ ms.length ∧ i = .int .i64 k ∧ Hid (prodFrom M.one ms = prodFrom m (ms.drop k)) ∧ m.ents = true ∧ Below w.heap.size w wr ∧ Blk wr w1.heap.size 30 (mcs m) ∧ Blk wr w.heap.size 30 (mcs ⟨0, 0, 0, 0⟩)) (fun i _ => ms.length - (intOf i).toNat)
  case atStart =>
    exact ⟨0, M.one, Nat.zero_le _, rfl, rfl, by decide, (by repeat (first | (with_reducible exact Below.refl _ _) | (with_reducible assumption) | (with_reducible refine Below.drew ?_) | (with_reducible refine Below.drewN ?_) | ((with_reducible refine Below.al ?_ ?_); · first | omega | (simp; done) | (simp; omega)) | ((with_reducible refine Below.sc ?_ ?_); · first | omega | (simp; done) | (simp; omega)) | ((with_reducible refine Below.thru hb ?_ ?_); · first | omega | (simp; done) | (simp; omega)))), (by repeat (first | (with_reducible assumption) | ((with_reducible refine Blk.new ?_); · first | omega | (simp; done) | (simp; omega)) | (with_reducible apply Blk.set4) | (with_reducible apply Blk.set3) | (with_reducible apply Blk.set2) | ((with_reducible refine Blk.put ?_ ?_); · first | omega | (simp; omega)) | (with_reducible refine Blk.old ?_) | (with_reducible refine Blk.drew ?_) | (with_reducible refine Blk.drewN ?_) | ((with_reducible refine Blk.below hb ?_ ?_); · first | omega | (simp; done) | (simp; omega)))), (by repeat (first | (with_reducible assumption) | ((with_reducible refine Blk.new ?_); · first | omega | (simp; done) | (simp; omega)) | (with_reducible apply Blk.set4) | (with_reducible apply Blk.set3) | (with_reducible apply Blk.set2) | ((with_reducible refine Blk.put ?_ ?_); · first | omega | (simp; omega)) | (with_reducible refine Blk.old ?_) | (with_reducible refine Blk.drew ?_) | (with_reducible refine Blk.drewN ?_) | ((with_reducible refine Blk.below hb ?_ ?_); · first | omega | (simp; done) | (simp; omega))))⟩
  case round =>
    obtain ⟨k, m, hk, rfl, hp, hme, hbel, hblk, hres⟩ := hrel
    clear hres0 hbw
    have hsz := hbel.size
    have hlt2 := hblk.lt
    by_cases hlt : k < ms.length
    · obtain ⟨c0, c1, c2, c3⟩ := HX.out.below hbel (HX.out.lt (by omega)) k hlt
      have q := hblk.m
      have hmk : M.ents ms[k] = true := by have := List.all_eq_true.1 HM.out ms[k] (List.getElem_mem hlt); exact this
      cases hc : M.ents (m.mul ms[k]) with
      | true =>
        go_wp2_with fail
        refine (times_any m ms[k] _ hme hmk).mono ?_
        rintro e w2 ⟨rfl, hb⟩
        have hbs2 := hb.size
        try simp at hbs2
        have hblk2 : Blk w2 w1.heap.size 30 (mcs m) := (by repeat (first | (with_reducible assumption) | ((with_reducible refine Blk.new ?_); · first | omega | (simp; done) | (simp; omega)) | (with_reducible apply Blk.set4) | (with_reducible apply Blk.set3) | (with_reducible apply Blk.set2) | ((with_reducible refine Blk.put ?_ ?_); · first | omega | (simp; omega)) | (with_reducible refine Blk.old ?_) | (with_reducible refine Blk.drew ?_) | (with_reducible refine Blk.drewN ?_) | ((with_reducible refine Blk.below hb ?_ ?_); · first | omega | (simp; done) | (simp; omega))))
        have hres2 : Blk w2 w.heap.size 30 (mcs ⟨0, 0, 0, 0⟩) := (by repeat (first | (with_reducible assumption) | ((with_reducible refine Blk.new ?_); · first | omega | (simp; done) | (simp; omega)) | (with_reducible apply Blk.set4) | (with_reducible apply Blk.set3) | (with_reducible apply Blk.set2) | ((with_reducible refine Blk.put ?_ ?_); · first | omega | (simp; omega)) | (with_reducible refine Blk.old ?_) | (with_reducible refine Blk.drew ?_) | (with_reducible refine Blk.drewN ?_) | ((with_reducible refine Blk.below hb ?_ ?_); · first | omega | (simp; done) | (simp; omega))))
        have hbel2 : Below w.heap.size w w2 := (by repeat (first | (with_reducible exact Below.refl _ _) | (with_reducible assumption) | (with_reducible refine Below.drew ?_) | (with_reducible refine Below.drewN ?_) | ((with_reducible refine Below.al ?_ ?_); · first | omega | (simp; done) | (simp; omega)) | ((with_reducible refine Below.sc ?_ ?_); · first | omega | (simp; done) | (simp; omega)) | ((with_reducible refine Below.thru hb ?_ ?_); · first | omega | (simp; done) | (simp; omega))))
        clear hb hblk hres hbel q c0 c1 c2 c3
        go_wp2_with fail
        refine (limited_yes (m.mul ms[k]) _ hc).mono ?_
        rintro e w3 ⟨rfl, hb⟩
        have hbs3 := hb.size
        try simp at hbs3
        have hblk3 : Blk w3 w1.heap.size 30 (mcs m) := (by repeat (first | (with_reducible assumption) | ((with_reducible refine Blk.new ?_); · first | omega | (simp; done) | (simp; omega)) | (with_reducible apply Blk.set4) | (with_reducible apply Blk.set3) | (with_reducible apply Blk.set2) | ((with_reducible refine Blk.put ?_ ?_); · first | omega | (simp; omega)) | (with_reducible refine Blk.old ?_) | (with_reducible refine Blk.drew ?_) | (with_reducible refine Blk.drewN ?_) | ((with_reducible refine Blk.below hb ?_ ?_); · first | omega | (simp; done) | (simp; omega))))
        have hres3 : Blk w3 w.heap.size 30 (mcs ⟨0, 0, 0, 0⟩) := (by repeat (first | (with_reducible assumption) | ((with_reducible refine Blk.new ?_); · first | omega | (simp; done) | (simp; omega)) | (with_reducible apply Blk.set4) | (with_reducible apply Blk.set3) | (with_reducible apply Blk.set2) | ((with_reducible refine Blk.put ?_ ?_); · first | omega | (simp; omega)) | (with_reducible refine Blk.old ?_) | (with_reducible refine Blk.drew ?_) | (with_reducible refine Blk.drewN ?_) | ((with_reducible refine Blk.below hb ?_ ?_); · first | omega | (simp; done) | (simp; omega))))
        have hbel3 : Below w.heap.size w w3 := (by repeat (first | (with_reducible exact Below.refl _ _) | (with_reducible assumption) | (with_reducible refine Below.drew ?_) | (with_reducible refine Below.drewN ?_) | ((with_reducible refine Below.al ?_ ?_); · first | omega | (simp; done) | (simp; omega)) | ((with_reducible refine Below.sc ?_ ?_); · first | omega | (simp; done) | (simp; omega)) | ((with_reducible refine Below.thru hb ?_ ?_); · first | omega | (simp; done) | (simp; omega))))
        have hlt3 := hblk3.lt
        have qf := hblk3.mf
        have q := hblk3.m
        clear hb hblk2 hres2 hbel2
        go_wp2
        go_roundw
        case rel => exact ⟨k + 1, m.mul ms[k], by omega, by go_num, hp.out.trans (by rw [List.drop_eq_getElem_cons hlt, prodFrom_cons, if_pos hc]), hc, (by repeat (first | (with_reducible exact Below.refl _ _) | (with_reducible assumption) | (with_reducible refine Below.drew ?_) | (with_reducible refine Below.drewN ?_) | ((with_reducible refine Below.al ?_ ?_); · first | omega | (simp; done) | (simp; omega)) | ((with_reducible refine Below.sc ?_ ?_); · first | omega | (simp; done) | (simp; omega)) | ((with_reducible refine Below.thru hb ?_ ?_); · first | omega | (simp; done) | (simp; omega)))), (by repeat (first | (with_reducible assumption) | ((with_reducible refine Blk.new ?_); · first | omega | (simp; done) | (simp; omega)) | (with_reducible apply Blk.set4) | (with_reducible apply Blk.set3) | (with_reducible apply Blk.set2) | ((with_reducible refine Blk.put ?_ ?_); · first | omega | (simp; omega)) | (with_reducible refine Blk.old ?_) | (with_reducible refine Blk.drew ?_) | (with_reducible refine Blk.drewN ?_) | ((with_reducible refine Blk.below hb ?_ ?_); · first | omega | (simp; done) | (simp; omega)))), (by repeat (first | (with_reducible assumption) | ((with_reducible refine Blk.new ?_); · first | omega | (simp; done) | (simp; omega)) | (with_reducible apply Blk.set4) | (with_reducible apply Blk.set3) | (with_reducible apply Blk.set2) | ((with_reducible refine Blk.put ?_ ?_); · first | omega | (simp; omega)) | (with_reducible refine Blk.old ?_) | (with_reducible refine Blk.drew ?_) | (with_reducible refine Blk.drewN ?_) | ((with_reducible refine Blk.below hb ?_ ?_); · first | omega | (simp; done) | (simp; omega))))⟩
        case measure => simp [intOf]; omega
      | false =>
        go_wp2_with fail
        refine (times_any m ms[k] _ hme hmk).mono ?_
        rintro e w2 ⟨rfl, hb⟩
        have hbs2 := hb.size
        try simp at hbs2
        have hres2 : Blk w2 w.heap.size 30 (mcs ⟨0, 0, 0, 0⟩) := (by repeat (first | (with_reducible assumption) | ((with_reducible refine Blk.new ?_); · first | omega | (simp; done) | (simp; omega)) | (with_reducible apply Blk.set4) | (with_reducible apply Blk.set3) | (with_reducible apply Blk.set2) | ((with_reducible refine Blk.put ?_ ?_); · first | omega | (simp; omega)) | (with_reducible refine Blk.old ?_) | (with_reducible refine Blk.drew ?_) | (with_reducible refine Blk.drewN ?_) | ((with_reducible refine Blk.below hb ?_ ?_); · first | omega | (simp; done) | (simp; omega))))
        have hbel2 : Below w.heap.size w w2 := (by repeat (first | (with_reducible exact Below.refl _ _) | (with_reducible assumption) | (with_reducible refine Below.drew ?_) | (with_reducible refine Below.drewN ?_) | ((with_reducible refine Below.al ?_ ?_); · first | omega | (simp; done) | (simp; omega)) | ((with_reducible refine Below.sc ?_ ?_); · first | omega | (simp; done) | (simp; omega)) | ((with_reducible refine Below.thru hb ?_ ?_); · first | omega | (simp; done) | (simp; omega))))
        clear hb hblk hres hbel q c0 c1 c2 c3
        go_wp2_with fail
        refine (limited_no (m.mul ms[k]) _ hc).mono ?_
        rintro e w3 ⟨rfl, hb⟩
        have hbs3 := hb.size
        try simp at hbs3
        have hres3 : Blk w3 w.heap.size 30 (mcs ⟨0, 0, 0, 0⟩) := (by repeat (first | (with_reducible assumption) | ((with_reducible refine Blk.new ?_); · first | omega | (simp; done) | (simp; omega)) | (with_reducible apply Blk.set4) | (with_reducible apply Blk.set3) | (with_reducible apply Blk.set2) | ((with_reducible refine Blk.put ?_ ?_); · first | omega | (simp; omega)) | (with_reducible refine Blk.old ?_) | (with_reducible refine Blk.drew ?_) | (with_reducible refine Blk.drewN ?_) | ((with_reducible refine Blk.below hb ?_ ?_); · first | omega | (simp; done) | (simp; omega))))
        have hbel3 : Below w.heap.size w w3 := (by repeat (first | (with_reducible exact Below.refl _ _) | (with_reducible assumption) | (with_reducible refine Below.drew ?_) | (with_reducible refine Below.drewN ?_) | ((with_reducible refine Below.al ?_ ?_); · first | omega | (simp; done) | (simp; omega)) | ((with_reducible refine Below.sc ?_ ?_); · first | omega | (simp; done) | (simp; omega)) | ((with_reducible refine Below.thru hb ?_ ?_); · first | omega | (simp; done) | (simp; omega))))
        have hlt3 := hres3.lt
        have qf := hres3.mf
        have q := hres3.m
        clear hb hres2 hbel2
        have hpe : prodFrom M.one ms = none := hp.out.trans (by rw [List.drop_eq_getElem_cons hlt, prodFrom_cons, if_neg (by simp [hc])])
        have HPE := Lib.hid hpe
        clear hp hpe
        go_wp2
        refine ret_at (v := .tuple #[mv ⟨0, 0, 0, 0⟩, .int .i64 3]) (fun w' => Blk w' (w.heap.size) 30 (mcs ⟨0, 0, 0, 0⟩)) (by repeat (first | (with_reducible assumption) | ((with_reducible refine Blk.new ?_); · first | omega | (simp; done) | (simp; omega)) | (with_reducible apply Blk.set4) | (with_reducible apply Blk.set3) | (with_reducible apply Blk.set2) | ((with_reducible refine Blk.put ?_ ?_); · first | omega | (simp; omega)) | (with_reducible refine Blk.old ?_) | (with_reducible refine Blk.drew ?_) | (with_reducible refine Blk.drewN ?_) | ((with_reducible refine Blk.below hb ?_ ?_); · first | omega | (simp; done) | (simp; omega)))) (fun w' hB => by have q := hB.m; simp [results, Try.results30, go_sem, q]) rfl ?_
        exact ⟨by rw [HPE.out]; rfl, (by repeat (first | (with_reducible exact Below.refl _ _) | (with_reducible assumption) | (with_reducible refine Below.drew ?_) | (with_reducible refine Below.drewN ?_) | ((with_reducible refine Below.al ?_ ?_); · first | omega | (simp; done) | (simp; omega)) | ((with_reducible refine Below.sc ?_ ?_); · first | omega | (simp; done) | (simp; omega)) | ((with_reducible refine Below.thru hb ?_ ?_); · first | omega | (simp; done) | (simp; omega))))⟩
    · have hke : k = ms.length := by omega
      subst hke
      have hpe : prodFrom M.one ms = some m := by rw [hp.out, List.drop_length]; rfl
      have HPE := Lib.hid hpe
      clear hp hpe
      have q := hblk.m
      have qf := hres.mf
      have q2 := hres.m
      have hlt3 := hres.lt
      go_wp2
      refine ret_at (v := .tuple #[mv m, .int .i64 0]) (fun w' => Blk w' (w.heap.size) 30 (mcs m)) (by repeat (first | (with_reducible assumption) | ((with_reducible refine Blk.new ?_); · first | omega | (simp; done) | (simp; omega)) | (with_reducible apply Blk.set4) | (with_reducible apply Blk.set3) | (with_reducible apply Blk.set2) | ((with_reducible refine Blk.put ?_ ?_); · first | omega | (simp; omega)) | (with_reducible refine Blk.old ?_) | (with_reducible refine Blk.drew ?_) | (with_reducible refine Blk.drewN ?_) | ((with_reducible refine Blk.below hb ?_ ?_); · first | omega | (simp; done) | (simp; omega)))) (fun w' hB => by have q := hB.m; simp [results, Try.results30, go_sem, q]) rfl ?_
      exact ⟨by rw [HPE.out]; rfl, (by repeat (first | (with_reducible exact Below.refl _ _) | (with_reducible assumption) | (with_reducible refine Below.drew ?_) | (with_reducible refine Below.drewN ?_) | ((with_reducible refine Below.al ?_ ?_); · first | omega | (simp; done) | (simp; omega)) | ((with_reducible refine Below.sc ?_ ?_); · first | omega | (simp; done) | (simp; omega)) | ((with_reducible refine Below.thru hb ?_ ?_); · first | omega | (simp; done) | (simp; omega))))⟩

set_option maxHeartbeats 1000000 in
theorem l01Times_yes (m n : M) (w : World) (hm : m.ents = true) (hn : n.ents = true) (h : (m.mul n).ents = true) :
    Calls Try.prog 21 #[.agg #[.int .i64 m.a, .int .i64 m.b, .int .i64 m.c, .int .i64 m.d], .agg #[.int .i64 n.a, .int .i64 n.b, .int .i64 n.c, .int .i64 n.d]] w fun e w' => e = .returned (.tuple #[mv (m.mul n), .bool true]) ∧ Below w.heap.size w w' := by
  obtain ⟨⟨k1, k2⟩, k3, k4⟩ := M.ents_true hm
  obtain ⟨⟨l1, l2⟩, l3, l4⟩ := M.ents_true hn
  have a1 := ent_mul k1 l1
  have a2 := ent_mul k2 l3
  have a3 := ent_mul k1 l2
  have a4 := ent_mul k2 l4
  have a5 := ent_mul k3 l1
  have a6 := ent_mul k4 l3
  have a7 := ent_mul k3 l2
  have a8 := ent_mul k4 l4
  clear hm hn k1 k2 k3 k4 l1 l2 l3 l4
  obtain ⟨⟨e1, e2⟩, e3, e4⟩ := M.ents_true h
  simp only [M.mul] at e1 e2 e3 e4
  clear h
  go_enter Try.func21, Try.ntmps21
  go_wp2_with (go_at_call 42; refine (l01Entry_any _ _).mono ?_; rintro e w' ⟨rfl, rfl⟩)
  refine bodyPost_ret (v := .tuple #[.agg #[.int .i64 (m.a * n.a + m.b * n.c), .int .i64 (m.a * n.b + m.b * n.d), .int .i64 (m.c * n.a + m.d * n.c), .int .i64 (m.c * n.b + m.d * n.d)], .bool true]) (by simp [results, Try.results21, go_sem]) rfl ?_
  exact ⟨rfl, (by repeat (first | (with_reducible exact Below.refl _ _) | (with_reducible assumption) | (with_reducible refine Below.drew ?_) | (with_reducible refine Below.drewN ?_) | ((with_reducible refine Below.al ?_ ?_); · first | omega | (simp; done) | (simp; omega)) | ((with_reducible refine Below.sc ?_ ?_); · first | omega | (simp; done) | (simp; omega)) | ((with_reducible refine Below.thru hb ?_ ?_); · first | omega | (simp; done) | (simp; omega))))⟩

set_option maxHeartbeats 2000000 in
theorem l01Times_no (m n : M) (w : World) (hm : m.ents = true) (hn : n.ents = true) (h : (m.mul n).ents = false) :
    Calls Try.prog 21 #[.agg #[.int .i64 m.a, .int .i64 m.b, .int .i64 m.c, .int .i64 m.d], .agg #[.int .i64 n.a, .int .i64 n.b, .int .i64 n.c, .int .i64 n.d]] w fun e w' => e = .returned (.tuple #[.agg #[.int .i64 0, .int .i64 0, .int .i64 0, .int .i64 0], .bool false]) ∧ Below w.heap.size w w' := by
  obtain ⟨⟨k1, k2⟩, k3, k4⟩ := M.ents_true hm
  obtain ⟨⟨l1, l2⟩, l3, l4⟩ := M.ents_true hn
  have a1 := ent_mul k1 l1
  have a2 := ent_mul k2 l3
  have a3 := ent_mul k1 l2
  have a4 := ent_mul k2 l4
  have a5 := ent_mul k3 l1
  have a6 := ent_mul k4 l3
  have a7 := ent_mul k3 l2
  have a8 := ent_mul k4 l4
  clear hm hn k1 k2 k3 k4 l1 l2 l3 l4
  have hn : ¬ (entB (m.a * n.a + m.b * n.c) = true ∧ entB (m.a * n.b + m.b * n.d) = true ∧ entB (m.c * n.a + m.d * n.c) = true ∧ entB (m.c * n.b + m.d * n.d) = true) := fun k => by
    simp [M.ents, M.mul, k] at h
  have HN := Lib.hid hn
  clear h hn
  cases e1 : entB (m.a * n.a + m.b * n.c) with
  | false =>
    go_enter Try.func21, Try.ntmps21
    go_wp2_with (go_at_call 42; refine (l01Entry_any _ _).mono ?_; rintro e w' ⟨rfl, rfl⟩)
    refine bodyPost_ret (v := .tuple #[.agg #[.int .i64 0, .int .i64 0, .int .i64 0, .int .i64 0], .bool false]) (by simp [results, Try.results21, go_sem]) rfl ?_
    exact ⟨rfl, (by repeat (first | (with_reducible exact Below.refl _ _) | (with_reducible assumption) | (with_reducible refine Below.drew ?_) | (with_reducible refine Below.drewN ?_) | ((with_reducible refine Below.al ?_ ?_); · first | omega | (simp; done) | (simp; omega)) | ((with_reducible refine Below.sc ?_ ?_); · first | omega | (simp; done) | (simp; omega)) | ((with_reducible refine Below.thru hb ?_ ?_); · first | omega | (simp; done) | (simp; omega))))⟩
  | true =>
    cases e2 : entB (m.a * n.b + m.b * n.d) with
    | false =>
      go_enter Try.func21, Try.ntmps21
      go_wp2_with (go_at_call 42; refine (l01Entry_any _ _).mono ?_; rintro e w' ⟨rfl, rfl⟩)
      refine bodyPost_ret (v := .tuple #[.agg #[.int .i64 0, .int .i64 0, .int .i64 0, .int .i64 0], .bool false]) (by simp [results, Try.results21, go_sem]) rfl ?_
      exact ⟨rfl, (by repeat (first | (with_reducible exact Below.refl _ _) | (with_reducible assumption) | (with_reducible refine Below.drew ?_) | (with_reducible refine Below.drewN ?_) | ((with_reducible refine Below.al ?_ ?_); · first | omega | (simp; done) | (simp; omega)) | ((with_reducible refine Below.sc ?_ ?_); · first | omega | (simp; done) | (simp; omega)) | ((with_reducible refine Below.thru hb ?_ ?_); · first | omega | (simp; done) | (simp; omega))))⟩
    | true =>
      cases e3 : entB (m.c * n.a + m.d * n.c) with
      | false =>
        go_enter Try.func21, Try.ntmps21
        go_wp2_with (go_at_call 42; refine (l01Entry_any _ _).mono ?_; rintro e w' ⟨rfl, rfl⟩)
        refine bodyPost_ret (v := .tuple #[.agg #[.int .i64 0, .int .i64 0, .int .i64 0, .int .i64 0], .bool false]) (by simp [results, Try.results21, go_sem]) rfl ?_
        exact ⟨rfl, (by repeat (first | (with_reducible exact Below.refl _ _) | (with_reducible assumption) | (with_reducible refine Below.drew ?_) | (with_reducible refine Below.drewN ?_) | ((with_reducible refine Below.al ?_ ?_); · first | omega | (simp; done) | (simp; omega)) | ((with_reducible refine Below.sc ?_ ?_); · first | omega | (simp; done) | (simp; omega)) | ((with_reducible refine Below.thru hb ?_ ?_); · first | omega | (simp; done) | (simp; omega))))⟩
      | true =>
        cases e4 : entB (m.c * n.b + m.d * n.d) with
        | false =>
          go_enter Try.func21, Try.ntmps21
          go_wp2_with (go_at_call 42; refine (l01Entry_any _ _).mono ?_; rintro e w' ⟨rfl, rfl⟩)
          refine bodyPost_ret (v := .tuple #[.agg #[.int .i64 0, .int .i64 0, .int .i64 0, .int .i64 0], .bool false]) (by simp [results, Try.results21, go_sem]) rfl ?_
          exact ⟨rfl, (by repeat (first | (with_reducible exact Below.refl _ _) | (with_reducible assumption) | (with_reducible refine Below.drew ?_) | (with_reducible refine Below.drewN ?_) | ((with_reducible refine Below.al ?_ ?_); · first | omega | (simp; done) | (simp; omega)) | ((with_reducible refine Below.sc ?_ ?_); · first | omega | (simp; done) | (simp; omega)) | ((with_reducible refine Below.thru hb ?_ ?_); · first | omega | (simp; done) | (simp; omega))))⟩
        | true =>
          exact absurd ⟨e1, e2, e3, e4⟩ HN.out

end Go.Proofs.Ytjpkopnkfpgahaa
