/- Contracts of the functions of chapter 1 that take lists of matrices. -/
import Derived.Test.Ytcapmljnhflopaa01
namespace Go.Proofs.Ytcapmljnhflopaa
open Go.RowKit

set_option maxHeartbeats 400000 in
theorem areMatrices_any (b off cap : Nat) (ms : List M) (w : World) (hl : ms.length ≤ 1000000) (hx : MRow w b off ms) :
    Calls Try.prog 26 #[.slice (some ⟨b, off, none⟩) ms.length cap] w fun e w' => e = .returned (.bool (ms.all M.ok)) ∧ Below w.heap.size w w' := by
  have HX := Lib.hid hx
  clear hx
  go_enter Try.func26, Try.ntmps26
  go_wp2
  go_loopw [7] (fun i wr => ∃ k : Nat, k ≤ ms.length ∧ i = .int .i64 k ∧ Hid ((ms.take k).all M.ok = true) ∧ Below w.heap.size w wr) (fun i _ => ms.length - (intOf i).toNat)
  case atStart => exact ⟨0, Nat.zero_le _, rfl, by simp [Hid], Below.refl _ _⟩
  case round =>
    obtain ⟨k, hk, rfl, hall, hbel⟩ := hrel
    by_cases hlt : k < ms.length
    · obtain ⟨c0, c1, c2, c3⟩ := HX.out.below hbel (HX.out.lt (by omega)) k hlt
      have hsz := hbel.size
      cases he : M.ok ms[k] with
      | true =>
        go_wp2_with (go_at_call 14; refine (IsMatrix_any _ _).mono ?_; rintro e w1 ⟨rfl, hb⟩; have hbs := hb.size; try simp at hbs)
        go_roundw
        case rel => exact ⟨k + 1, by omega, by go_num, all_take_snoc hlt hall he, (by repeat (first | (with_reducible exact Below.refl _ _) | (with_reducible assumption) | (with_reducible refine Below.drew ?_) | (with_reducible refine Below.drewN ?_) | ((with_reducible refine Below.al ?_ ?_); · first | omega | (simp; done) | (simp; omega)) | ((with_reducible refine Below.sc ?_ ?_); · first | omega | (simp; done) | (simp; omega)) | ((with_reducible refine Below.thru hb ?_ ?_); · first | omega | (simp; done) | (simp; omega))))⟩
        case measure => simp [intOf]; omega
      | false =>
        go_wp2_with (go_at_call 14; refine (IsMatrix_any _ _).mono ?_; rintro e w1 ⟨rfl, hb⟩; have hbs := hb.size; try simp at hbs)
        go_ret
        exact ⟨ret_bool (all_false_of hlt he).symm, (by repeat (first | (with_reducible exact Below.refl _ _) | (with_reducible assumption) | (with_reducible refine Below.drew ?_) | (with_reducible refine Below.drewN ?_) | ((with_reducible refine Below.al ?_ ?_); · first | omega | (simp; done) | (simp; omega)) | ((with_reducible refine Below.sc ?_ ?_); · first | omega | (simp; done) | (simp; omega)) | ((with_reducible refine Below.thru hb ?_ ?_); · first | omega | (simp; done) | (simp; omega))))⟩
    · go_wp2
      go_ret
      have hke : k = ms.length := by omega
      subst hke
      have h2 := hall.out
      rw [List.take_length] at h2
      exact ⟨ret_bool h2.symm, hbel⟩

set_option maxHeartbeats 1000000 in
/-- product of a list: all that the program takes are small numbers. -/
theorem product_any (b off cap : Nat) (ms : List M) (w : World) (hl : ms.length ≤ 1000000) (hx : MRow w b off ms) (hm : ms.all M.ents = true) :
    Calls Try.prog 37 #[.slice (some ⟨b, off, none⟩) ms.length cap] w fun e w' => e = .returned (prodRes (prodFrom M.one ms)) ∧ Below w.heap.size w w' := by
  have HX := Lib.hid hx
  have HM := Lib.hid hm
  clear hx hm
  go_enter Try.func37, Try.ntmps37
  go_wp2_with (go_at_call 49; refine (identity_any _).mono ?_; rintro e w1 ⟨rfl, hb⟩; have hbs := hb.size; try simp at hbs)
  have hres0 : Blk w1 w.heap.size 25 (mcs ⟨0, 0, 0, 0⟩) := (by repeat (first | (with_reducible assumption) | ((with_reducible refine Blk.new ?_); · first | omega | (simp; done) | (simp; omega)) | (with_reducible apply Blk.set4) | (with_reducible apply Blk.set3) | (with_reducible apply Blk.set2) | ((with_reducible refine Blk.put ?_ ?_); · first | omega | (simp; omega)) | (with_reducible refine Blk.old ?_) | (with_reducible refine Blk.drew ?_) | (with_reducible refine Blk.drewN ?_) | ((with_reducible refine Blk.below hb ?_ ?_); · first | omega | (simp; done) | (simp; omega))))
  have hbw : Below w.heap.size w w1 := (by repeat (first | (with_reducible exact Below.refl _ _) | (with_reducible assumption) | (with_reducible refine Below.drew ?_) | (with_reducible refine Below.drewN ?_) | ((with_reducible refine Below.al ?_ ?_); · first | omega | (simp; done) | (simp; omega)) | ((with_reducible refine Below.sc ?_ ?_); · first | omega | (simp; done) | (simp; omega)) | ((with_reducible refine Below.thru hb ?_ ?_); · first | omega | (simp; done) | (simp; omega))))
  clear hb
  go_loopw [12] (fun i wr => ∃ (k : Nat) (m : M), k ≤ ms.length ∧ i = .int .i64 k ∧ Hid (prodFrom M.one ms = prodFrom m (ms.drop k)) ∧ m.ents = true ∧ Below w.heap.size w wr ∧ Blk wr w1.heap.size 25 (mcs m) ∧ Blk wr w.heap.size 25 (mcs ⟨0, 0, 0, 0⟩)) (fun i _ => ms.length - (intOf i).toNat)
  case atStart =>
    exact ⟨0, M.one, Nat.zero_le _, rfl, rfl, by decide, (by repeat (first | (with_reducible exact Below.refl _ _) | (with_reducible assumption) | (with_reducible refine Below.drew ?_) | (with_reducible refine Below.drewN ?_) | ((with_reducible refine Below.al ?_ ?_); · first | omega | (simp; done) | (simp; omega)) | ((with_reducible refine Below.sc ?_ ?_); · first | omega | (simp; done) | (simp; omega)) | ((with_reducible refine Below.thru hb ?_ ?_); · first | omega | (simp; done) | (simp; omega)))), (by repeat (first | (with_reducible assumption) | ((with_reducible refine Blk.new ?_); · first | omega | (simp; done) | (simp; omega)) | (with_reducible apply Blk.set4) | (with_reducible apply Blk.set3) | (with_reducible apply Blk.set2) | ((with_reducible refine Blk.put ?_ ?_); · first | omega | (simp; omega)) | (with_reducible refine Blk.old ?_) | (with_reducible refine Blk.drew ?_) | (with_reducible refine Blk.drewN ?_) | ((with_reducible refine Blk.below hb ?_ ?_); · first | omega | (simp; done) | (simp; omega)))), (by repeat (first | (with_reducible assumption) | ((with_reducible refine Blk.new ?_); · first | omega | (simp; done) | (simp; omega)) | (with_reducible apply Blk.set4) | (with_reducible apply Blk.set3) | (with_reducible apply Blk.set2) | ((with_reducible refine Blk.put ?_ ?_); · first | omega | (simp; omega)) | (with_reducible refine Blk.old ?_) | (with_reducible refine Blk.drew ?_) | (with_reducible refine Blk.drewN ?_) | ((with_reducible refine Blk.below hb ?_ ?_); · first | omega | (simp; done) | (simp; omega))))⟩
  case round =>
    obtain ⟨k, m, hk, rfl, hp, hme, hbel, hblk, hres⟩ := hrel
    clear hres0 hbw
    have hsz := hbel.size
    have hlt2 := hblk.lt
    by_cases hlt : k < ms.length
    · obtain ⟨c0, c1, c2, c3⟩ := HX.out.below hbel (HX.out.lt (by omega)) k hlt
      have q := hblk.m
      have hmk : M.ents ms[k] = true := by have := List.all_eq_true.1 HM.out ms[k] (List.getElem_mem hlt); exact this
      cases hc : M.ents (m.mul ms[k]) with
      | true =>
        go_wp2_with fail
        refine (times_any m ms[k] _ hme hmk).mono ?_
        rintro e w2 ⟨rfl, hb⟩
        have hbs2 := hb.size
        try simp at hbs2
        have hblk2 : Blk w2 w1.heap.size 25 (mcs m) := (by repeat (first | (with_reducible assumption) | ((with_reducible refine Blk.new ?_); · first | omega | (simp; done) | (simp; omega)) | (with_reducible apply Blk.set4) | (with_reducible apply Blk.set3) | (with_reducible apply Blk.set2) | ((with_reducible refine Blk.put ?_ ?_); · first | omega | (simp; omega)) | (with_reducible refine Blk.old ?_) | (with_reducible refine Blk.drew ?_) | (with_reducible refine Blk.drewN ?_) | ((with_reducible refine Blk.below hb ?_ ?_); · first | omega | (simp; done) | (simp; omega))))
        have hres2 : Blk w2 w.heap.size 25 (mcs ⟨0, 0, 0, 0⟩) := (by repeat (first | (with_reducible assumption) | ((with_reducible refine Blk.new ?_); · first | omega | (simp; done) | (simp; omega)) | (with_reducible apply Blk.set4) | (with_reducible apply Blk.set3) | (with_reducible apply Blk.set2) | ((with_reducible refine Blk.put ?_ ?_); · first | omega | (simp; omega)) | (with_reducible refine Blk.old ?_) | (with_reducible refine Blk.drew ?_) | (with_reducible refine Blk.drewN ?_) | ((with_reducible refine Blk.below hb ?_ ?_); · first | omega | (simp; done) | (simp; omega))))
        have hbel2 : Below w.heap.size w w2 := (by repeat (first | (with_reducible exact Below.refl _ _) | (with_reducible assumption) | (with_reducible refine Below.drew ?_) | (with_reducible refine Below.drewN ?_) | ((with_reducible refine Below.al ?_ ?_); · first | omega | (simp; done) | (simp; omega)) | ((with_reducible refine Below.sc ?_ ?_); · first | omega | (simp; done) | (simp; omega)) | ((with_reducible refine Below.thru hb ?_ ?_); · first | omega | (simp; done) | (simp; omega))))
        clear hb hblk hres hbel q c0 c1 c2 c3
        go_wp2_with fail
        refine (limited_yes (m.mul ms[k]) _ hc).mono ?_
        rintro e w3 ⟨rfl, hb⟩
        have hbs3 := hb.size
        try simp at hbs3
        have hblk3 : Blk w3 w1.heap.size 25 (mcs m) := (by repeat (first | (with_reducible assumption) | ((with_reducible refine Blk.new ?_); · first | omega | (simp; done) | (simp; omega)) | (with_reducible apply Blk.set4) | (with_reducible apply Blk.set3) | (with_reducible apply Blk.set2) | ((with_reducible refine Blk.put ?_ ?_); · first | omega | (simp; omega)) | (with_reducible refine Blk.old ?_) | (with_reducible refine Blk.drew ?_) | (with_reducible refine Blk.drewN ?_) | ((with_reducible refine Blk.below hb ?_ ?_); · first | omega | (simp; done) | (simp; omega))))
        have hres3 : Blk w3 w.heap.size 25 (mcs ⟨0, 0, 0, 0⟩) := (by repeat (first | (with_reducible assumption) | ((with_reducible refine Blk.new ?_); · first | omega | (simp; done) | (simp; omega)) | (with_reducible apply Blk.set4) | (with_reducible apply Blk.set3) | (with_reducible apply Blk.set2) | ((with_reducible refine Blk.put ?_ ?_); · first | omega | (simp; omega)) | (with_reducible refine Blk.old ?_) | (with_reducible refine Blk.drew ?_) | (with_reducible refine Blk.drewN ?_) | ((with_reducible refine Blk.below hb ?_ ?_); · first | omega | (simp; done) | (simp; omega))))
        have hbel3 : Below w.heap.size w w3 := (by repeat (first | (with_reducible exact Below.refl _ _) | (with_reducible assumption) | (with_reducible refine Below.drew ?_) | (with_reducible refine Below.drewN ?_) | ((with_reducible refine Below.al ?_ ?_); · first | omega | (simp; done) | (simp; omega)) | ((with_reducible refine Below.sc ?_ ?_); · first | omega | (simp; done) | (simp; omega)) | ((with_reducible refine Below.thru hb ?_ ?_); · first | omega | (simp; done) | (simp; omega))))
        have hlt3 := hblk3.lt
        have qf := hblk3.mf
        have q := hblk3.m
        clear hb hblk2 hres2 hbel2
        go_wp2
        go_roundw
        case rel => exact ⟨k + 1, m.mul ms[k], by omega, by go_num, hp.out.trans (by rw [List.drop_eq_getElem_cons hlt, prodFrom_cons, if_pos hc]), hc, (by repeat (first | (with_reducible exact Below.refl _ _) | (with_reducible assumption) | (with_reducible refine Below.drew ?_) | (with_reducible refine Below.drewN ?_) | ((with_reducible refine Below.al ?_ ?_); · first | omega | (simp; done) | (simp; omega)) | ((with_reducible refine Below.sc ?_ ?_); · first | omega | (simp; done) | (simp; omega)) | ((with_reducible refine Below.thru hb ?_ ?_); · first | omega | (simp; done) | (simp; omega)))), (by repeat (first | (with_reducible assumption) | ((with_reducible refine Blk.new ?_); · first | omega | (simp; done) | (simp; omega)) | (with_reducible apply Blk.set4) | (with_reducible apply Blk.set3) | (with_reducible apply Blk.set2) | ((with_reducible refine Blk.put ?_ ?_); · first | omega | (simp; omega)) | (with_reducible refine Blk.old ?_) | (with_reducible refine Blk.drew ?_) | (with_reducible refine Blk.drewN ?_) | ((with_reducible refine Blk.below hb ?_ ?_); · first | omega | (simp; done) | (simp; omega)))), (by repeat (first | (with_reducible assumption) | ((with_reducible refine Blk.new ?_); · first | omega | (simp; done) | (simp; omega)) | (with_reducible apply Blk.set4) | (with_reducible apply Blk.set3) | (with_reducible apply Blk.set2) | ((with_reducible refine Blk.put ?_ ?_); · first | omega | (simp; omega)) | (with_reducible refine Blk.old ?_) | (with_reducible refine Blk.drew ?_) | (with_reducible refine Blk.drewN ?_) | ((with_reducible refine Blk.below hb ?_ ?_); · first | omega | (simp; done) | (simp; omega))))⟩
        case measure => simp [intOf]; omega
      | false =>
        go_wp2_with fail
        refine (times_any m ms[k] _ hme hmk).mono ?_
        rintro e w2 ⟨rfl, hb⟩
        have hbs2 := hb.size
        try simp at hbs2
        have hres2 : Blk w2 w.heap.size 25 (mcs ⟨0, 0, 0, 0⟩) := (by repeat (first | (with_reducible assumption) | ((with_reducible refine Blk.new ?_); · first | omega | (simp; done) | (simp; omega)) | (with_reducible apply Blk.set4) | (with_reducible apply Blk.set3) | (with_reducible apply Blk.set2) | ((with_reducible refine Blk.put ?_ ?_); · first | omega | (simp; omega)) | (with_reducible refine Blk.old ?_) | (with_reducible refine Blk.drew ?_) | (with_reducible refine Blk.drewN ?_) | ((with_reducible refine Blk.below hb ?_ ?_); · first | omega | (simp; done) | (simp; omega))))
        have hbel2 : Below w.heap.size w w2 := (by repeat (first | (with_reducible exact Below.refl _ _) | (with_reducible assumption) | (with_reducible refine Below.drew ?_) | (with_reducible refine Below.drewN ?_) | ((with_reducible refine Below.al ?_ ?_); · first | omega | (simp; done) | (simp; omega)) | ((with_reducible refine Below.sc ?_ ?_); · first | omega | (simp; done) | (simp; omega)) | ((with_reducible refine Below.thru hb ?_ ?_); · first | omega | (simp; done) | (simp; omega))))
        clear hb hblk hres hbel q c0 c1 c2 c3
        go_wp2_with fail
        refine (limited_no (m.mul ms[k]) _ hc).mono ?_
        rintro e w3 ⟨rfl, hb⟩
        have hbs3 := hb.size
        try simp at hbs3
        have hres3 : Blk w3 w.heap.size 25 (mcs ⟨0, 0, 0, 0⟩) := (by repeat (first | (with_reducible assumption) | ((with_reducible refine Blk.new ?_); · first | omega | (simp; done) | (simp; omega)) | (with_reducible apply Blk.set4) | (with_reducible apply Blk.set3) | (with_reducible apply Blk.set2) | ((with_reducible refine Blk.put ?_ ?_); · first | omega | (simp; omega)) | (with_reducible refine Blk.old ?_) | (with_reducible refine Blk.drew ?_) | (with_reducible refine Blk.drewN ?_) | ((with_reducible refine Blk.below hb ?_ ?_); · first | omega | (simp; done) | (simp; omega))))
        have hbel3 : Below w.heap.size w w3 := (by repeat (first | (with_reducible exact Below.refl _ _) | (with_reducible assumption) | (with_reducible refine Below.drew ?_) | (with_reducible refine Below.drewN ?_) | ((with_reducible refine Below.al ?_ ?_); · first | omega | (simp; done) | (simp; omega)) | ((with_reducible refine Below.sc ?_ ?_); · first | omega | (simp; done) | (simp; omega)) | ((with_reducible refine Below.thru hb ?_ ?_); · first | omega | (simp; done) | (simp; omega))))
        have hlt3 := hres3.lt
        have qf := hres3.mf
        have q := hres3.m
        clear hb hres2 hbel2
        have hpe : prodFrom M.one ms = none := hp.out.trans (by rw [List.drop_eq_getElem_cons hlt, prodFrom_cons, if_neg (by simp [hc])])
        have HPE := Lib.hid hpe
        clear hp hpe
        go_wp2
        refine ret_at (v := .tuple #[mv ⟨0, 0, 0, 0⟩, .int .i64 3]) (fun w' => Blk w' (w.heap.size) 25 (mcs ⟨0, 0, 0, 0⟩)) (by repeat (first | (with_reducible assumption) | ((with_reducible refine Blk.new ?_); · first | omega | (simp; done) | (simp; omega)) | (with_reducible apply Blk.set4) | (with_reducible apply Blk.set3) | (with_reducible apply Blk.set2) | ((with_reducible refine Blk.put ?_ ?_); · first | omega | (simp; omega)) | (with_reducible refine Blk.old ?_) | (with_reducible refine Blk.drew ?_) | (with_reducible refine Blk.drewN ?_) | ((with_reducible refine Blk.below hb ?_ ?_); · first | omega | (simp; done) | (simp; omega)))) (fun w' hB => by have q := hB.m; simp [results, Try.results37, go_sem, q]) rfl ?_
        exact ⟨by rw [HPE.out]; rfl, (by repeat (first | (with_reducible exact Below.refl _ _) | (with_reducible assumption) | (with_reducible refine Below.drew ?_) | (with_reducible refine Below.drewN ?_) | ((with_reducible refine Below.al ?_ ?_); · first | omega | (simp; done) | (simp; omega)) | ((with_reducible refine Below.sc ?_ ?_); · first | omega | (simp; done) | (simp; omega)) | ((with_reducible refine Below.thru hb ?_ ?_); · first | omega | (simp; done) | (simp; omega))))⟩
    · have hke : k = ms.length := by omega
      subst hke
      have hpe : prodFrom M.one ms = some m := by rw [hp.out, List.drop_length]; rfl
      have HPE := Lib.hid hpe
      clear hp hpe
      have q := hblk.m
      have qf := hres.mf
      have q2 := hres.m
      have hlt3 := hres.lt
      go_wp2
      refine ret_at (v := .tuple #[mv m, .int .i64 0]) (fun w' => Blk w' (w.heap.size) 25 (mcs m)) (by repeat (first | (with_reducible assumption) | ((with_reducible refine Blk.new ?_); · first | omega | (simp; done) | (simp; omega)) | (with_reducible apply Blk.set4) | (with_reducible apply Blk.set3) | (with_reducible apply Blk.set2) | ((with_reducible refine Blk.put ?_ ?_); · first | omega | (simp; omega)) | (with_reducible refine Blk.old ?_) | (with_reducible refine Blk.drew ?_) | (with_reducible refine Blk.drewN ?_) | ((with_reducible refine Blk.below hb ?_ ?_); · first | omega | (simp; done) | (simp; omega)))) (fun w' hB => by have q := hB.m; simp [results, Try.results37, go_sem, q]) rfl ?_
      exact ⟨by rw [HPE.out]; rfl, (by repeat (first | (with_reducible exact Below.refl _ _) | (with_reducible assumption) | (with_reducible refine Below.drew ?_) | (with_reducible refine Below.drewN ?_) | ((with_reducible refine Below.al ?_ ?_); · first | omega | (simp; done) | (simp; omega)) | ((with_reducible refine Below.sc ?_ ?_); · first | omega | (simp; done) | (simp; omega)) | ((with_reducible refine Below.thru hb ?_ ?_); · first | omega | (simp; done) | (simp; omega))))⟩

set_option maxHeartbeats 1000000 in
theorem l01Times_yes (m n : M) (w : World) (hm : m.ents = true) (hn : n.ents = true) (h : (m.mul n).ents = true) :
    Calls Try.prog 25 #[.agg #[.int .i64 m.a, .int .i64 m.b, .int .i64 m.c, .int .i64 m.d], .agg #[.int .i64 n.a, .int .i64 n.b, .int .i64 n.c, .int .i64 n.d]] w fun e w' => e = .returned (.tuple #[mv (m.mul n), .bool true]) ∧ Below w.heap.size w w' := by
  obtain ⟨⟨k1, k2⟩, k3, k4⟩ := M.ents_true hm
  obtain ⟨⟨l1, l2⟩, l3, l4⟩ := M.ents_true hn
  have a1 := ent_mul k1 l1
  have a2 := ent_mul k2 l3
  have a3 := ent_mul k1 l2
  have a4 := ent_mul k2 l4
  have a5 := ent_mul k3 l1
  have a6 := ent_mul k4 l3
  have a7 := ent_mul k3 l2
  have a8 := ent_mul k4 l4
  clear hm hn k1 k2 k3 k4 l1 l2 l3 l4
  obtain ⟨⟨e1, e2⟩, e3, e4⟩ := M.ents_true h
  simp only [M.mul] at e1 e2 e3 e4
  clear h
  go_enter Try.func25, Try.ntmps25
  go_wp2_with (go_at_call 32; refine (l01Entry_any _ _).mono ?_; rintro e w' ⟨rfl, rfl⟩)
  refine bodyPost_ret (v := .tuple #[.agg #[.int .i64 (m.a * n.a + m.b * n.c), .int .i64 (m.a * n.b + m.b * n.d), .int .i64 (m.c * n.a + m.d * n.c), .int .i64 (m.c * n.b + m.d * n.d)], .bool true]) (by simp [results, Try.results25, go_sem]) rfl ?_
  exact ⟨rfl, (by repeat (first | (with_reducible exact Below.refl _ _) | (with_reducible assumption) | (with_reducible refine Below.drew ?_) | (with_reducible refine Below.drewN ?_) | ((with_reducible refine Below.al ?_ ?_); · first | omega | (simp; done) | (simp; omega)) | ((with_reducible refine Below.sc ?_ ?_); · first | omega | (simp; done) | (simp; omega)) | ((with_reducible refine Below.thru hb ?_ ?_); · first | omega | (simp; done) | (simp; omega))))⟩

set_option maxHeartbeats 2000000 in
theorem l01Times_no (m n : M) (w : World) (hm : m.ents = true) (hn : n.ents = true) (h : (m.mul n).ents = false) :
    Calls Try.prog 25 #[.agg #[.int .i64 m.a, .int .i64 m.b, .int .i64 m.c, .int .i64 m.d], .agg #[.int .i64 n.a, .int .i64 n.b, .int .i64 n.c, .int .i64 n.d]] w fun e w' => e = .returned (.tuple #[.agg #[.int .i64 0, .int .i64 0, .int .i64 0, .int .i64 0], .bool false]) ∧ Below w.heap.size w w' := by
  obtain ⟨⟨k1, k2⟩, k3, k4⟩ := M.ents_true hm
  obtain ⟨⟨l1, l2⟩, l3, l4⟩ := M.ents_true hn
  have a1 := ent_mul k1 l1
  have a2 := ent_mul k2 l3
  have a3 := ent_mul k1 l2
  have a4 := ent_mul k2 l4
  have a5 := ent_mul k3 l1
  have a6 := ent_mul k4 l3
  have a7 := ent_mul k3 l2
  have a8 := ent_mul k4 l4
  clear hm hn k1 k2 k3 k4 l1 l2 l3 l4
  have hn : ¬ (entB (m.a * n.a + m.b * n.c) = true ∧ entB (m.a * n.b + m.b * n.d) = true ∧ entB (m.c * n.a + m.d * n.c) = true ∧ entB (m.c * n.b + m.d * n.d) = true) := fun k => by
    simp [M.ents, M.mul, k] at h
  have HN := Lib.hid hn
  clear h hn
  cases e1 : entB (m.a * n.a + m.b * n.c) with
  | false =>
    go_enter Try.func25, Try.ntmps25
    go_wp2_with (go_at_call 32; refine (l01Entry_any _ _).mono ?_; rintro e w' ⟨rfl, rfl⟩)
    refine bodyPost_ret (v := .tuple #[.agg #[.int .i64 0, .int .i64 0, .int .i64 0, .int .i64 0], .bool false]) (by simp [results, Try.results25, go_sem]) rfl ?_
    exact ⟨rfl, (by repeat (first | (with_reducible exact Below.refl _ _) | (with_reducible assumption) | (with_reducible refine Below.drew ?_) | (with_reducible refine Below.drewN ?_) | ((with_reducible refine Below.al ?_ ?_); · first | omega | (simp; done) | (simp; omega)) | ((with_reducible refine Below.sc ?_ ?_); · first | omega | (simp; done) | (simp; omega)) | ((with_reducible refine Below.thru hb ?_ ?_); · first | omega | (simp; done) | (simp; omega))))⟩
  | true =>
    cases e2 : entB (m.a * n.b + m.b * n.d) with
    | false =>
      go_enter Try.func25, Try.ntmps25
      go_wp2_with (go_at_call 32; refine (l01Entry_any _ _).mono ?_; rintro e w' ⟨rfl, rfl⟩)
      refine bodyPost_ret (v := .tuple #[.agg #[.int .i64 0, .int .i64 0, .int .i64 0, .int .i64 0], .bool false]) (by simp [results, Try.results25, go_sem]) rfl ?_
      exact ⟨rfl, (by repeat (first | (with_reducible exact Below.refl _ _) | (with_reducible assumption) | (with_reducible refine Below.drew ?_) | (with_reducible refine Below.drewN ?_) | ((with_reducible refine Below.al ?_ ?_); · first | omega | (simp; done) | (simp; omega)) | ((with_reducible refine Below.sc ?_ ?_); · first | omega | (simp; done) | (simp; omega)) | ((with_reducible refine Below.thru hb ?_ ?_); · first | omega | (simp; done) | (simp; omega))))⟩
    | true =>
      cases e3 : entB (m.c * n.a + m.d * n.c) with
      | false =>
        go_enter Try.func25, Try.ntmps25
        go_wp2_with (go_at_call 32; refine (l01Entry_any _ _).mono ?_; rintro e w' ⟨rfl, rfl⟩)
        refine bodyPost_ret (v := .tuple #[.agg #[.int .i64 0, .int .i64 0, .int .i64 0, .int .i64 0], .bool false]) (by simp [results, Try.results25, go_sem]) rfl ?_
        exact ⟨rfl, (by repeat (first | (with_reducible exact Below.refl _ _) | (with_reducible assumption) | (with_reducible refine Below.drew ?_) | (with_reducible refine Below.drewN ?_) | ((with_reducible refine Below.al ?_ ?_); · first | omega | (simp; done) | (simp; omega)) | ((with_reducible refine Below.sc ?_ ?_); · first | omega | (simp; done) | (simp; omega)) | ((with_reducible refine Below.thru hb ?_ ?_); · first | omega | (simp; done) | (simp; omega))))⟩
      | true =>
        cases e4 : entB (m.c * n.b + m.d * n.d) with
        | false =>
          go_enter Try.func25, Try.ntmps25
          go_wp2_with (go_at_call 32; refine (l01Entry_any _ _).mono ?_; rintro e w' ⟨rfl, rfl⟩)
          refine bodyPost_ret (v := .tuple #[.agg #[.int .i64 0, .int .i64 0, .int .i64 0, .int .i64 0], .bool false]) (by simp [results, Try.results25, go_sem]) rfl ?_
          exact ⟨rfl, (by repeat (first | (with_reducible exact Below.refl _ _) | (with_reducible assumption) | (with_reducible refine Below.drew ?_) | (with_reducible refine Below.drewN ?_) | ((with_reducible refine Below.al ?_ ?_); · first | omega | (simp; done) | (simp; omega)) | ((with_reducible refine Below.sc ?_ ?_); · first | omega | (simp; done) | (simp; omega)) | ((with_reducible refine Below.thru hb ?_ ?_); · first | omega | (simp; done) | (simp; omega))))⟩
        | true =>
          exact absurd ⟨e1, e2, e3, e4⟩ HN.out

end Go.Proofs.Ytcapmljnhflopaa
