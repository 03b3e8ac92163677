/- Matrices drawn: the reference's draws. -/
import Derived.Test.YtcapmljnhflopaaFdn
namespace Go.Proofs.Ytcapmljnhflopaa
open Go.RowKit
set_option linter.unusedSimpArgs false

set_option maxRecDepth 8000 in
set_option maxHeartbeats 2000000 in
theorem l01Small_any {w0 w : World} {g : Nat} {code : List Int} (hS : Src w0 w g code) (hB : Below w0.heap.size w0 w) :
    Calls Try.prog 43 #[.pointer (some ⟨g, 0, none⟩)] w (DrawM w0 w g code) := by
  have hg := hS.lt
  have K0 := Kpt.refl hS hB
  obtain ⟨GF, hGF⟩ : ∃ GF, DrawM w0 w g code = GF := ⟨_, rfl⟩
  rw [hGF]
  have HGF := Lib.hid hGF
  clear hGF hS hB
  go_enter Try.func43, Try.ntmps43
  go_wp2_with fail
  refine (next_src (w0 := w0) (wa := w) (code := code) 4 (by repeat (first | (with_reducible assumption) | (with_reducible refine Kpt.drew ?_) | (with_reducible refine Kpt.drewN ?_) | (with_reducible refine Kpt.alloc ?_) | ((with_reducible refine Kpt.put ?_ ?_ ?_); (· omega); (· omega)))) (by decide)).mono ?_
  rintro e w1 ⟨i, rfl, hi, kp⟩
  have K1 : Kpt w0 w w1 g code := Kpt.step (by repeat (first | (with_reducible assumption) | (with_reducible refine Kpt.drew ?_) | (with_reducible refine Kpt.drewN ?_) | (with_reducible refine Kpt.alloc ?_) | ((with_reducible refine Kpt.put ?_ ?_ ?_); (· omega); (· omega)))) kp
  have kk := kp.2.2
  have B0 : Blk w1 w.heap.size 25 (mcs ⟨0, 0, 0, 0⟩) := (by repeat (first | (with_reducible assumption) | ((with_reducible refine Blk.new ?_); · first | omega | (simp; done) | (simp; omega)) | (with_reducible apply Blk.set4) | (with_reducible apply Blk.set3) | (with_reducible apply Blk.set2) | ((with_reducible refine Blk.put ?_ ?_); · first | omega | (simp; omega)) | (with_reducible refine Blk.old ?_) | (with_reducible refine Blk.drew ?_) | (with_reducible refine Blk.drewN ?_) | ((with_reducible refine Blk.below hb ?_ ?_); · first | omega | (simp; done) | (simp; omega)) | ((with_reducible refine Blk.below hb4 ?_ ?_); · first | omega | (simp; done) | (simp; omega)) | ((with_reducible refine Blk.below hb5 ?_ ?_); · first | omega | (simp; done) | (simp; omega)) | ((with_reducible refine Blk.keep kk ?_ ?_); · first | omega | (simp; done) | (simp; omega))))
  have s1 := K1.size
  clear kp kk K0
  go_wp2_with fail
  refine (l01DrawWord_any i (by omega) K1.1 K1.2.1).mono ?_
  rintro e w2 ⟨m, rfl, hm, kp⟩
  have kk := kp.2.2
  have l0 := B0.lt
  have hge : w.heap.size ≠ g := by omega
  have C0 : Blk w2 w.heap.size 25 (mcs ⟨0, 0, 0, 0⟩) := (by repeat (first | (with_reducible assumption) | ((with_reducible refine Blk.new ?_); · first | omega | (simp; done) | (simp; omega)) | (with_reducible apply Blk.set4) | (with_reducible apply Blk.set3) | (with_reducible apply Blk.set2) | ((with_reducible refine Blk.put ?_ ?_); · first | omega | (simp; omega)) | (with_reducible refine Blk.old ?_) | (with_reducible refine Blk.drew ?_) | (with_reducible refine Blk.drewN ?_) | ((with_reducible refine Blk.below hb ?_ ?_); · first | omega | (simp; done) | (simp; omega)) | ((with_reducible refine Blk.below hb4 ?_ ?_); · first | omega | (simp; done) | (simp; omega)) | ((with_reducible refine Blk.below hb5 ?_ ?_); · first | omega | (simp; done) | (simp; omega)) | ((with_reducible refine Blk.keep kk ?_ ?_); · first | omega | (simp; done) | (simp; omega))))
  have K2 : Kpt w0 w w2 g code := Kpt.step K1 kp
  have s2 := K2.size
  clear kp kk K1 B0
  have q0 := C0.m
  have q1 := C0.mf
  go_wp2
  rw [← HGF.out]
  refine ret_at (v := mv m) (fun w' => Blk w' (w.heap.size) 25 (mcs m)) (by repeat (first | (with_reducible assumption) | ((with_reducible refine Blk.new ?_); · first | omega | (simp; done) | (simp; omega)) | (with_reducible apply Blk.set4) | (with_reducible apply Blk.set3) | (with_reducible apply Blk.set2) | ((with_reducible refine Blk.put ?_ ?_); · first | omega | (simp; omega)) | (with_reducible refine Blk.old ?_) | (with_reducible refine Blk.drew ?_) | (with_reducible refine Blk.drewN ?_) | ((with_reducible refine Blk.below hb ?_ ?_); · first | omega | (simp; done) | (simp; omega)) | ((with_reducible refine Blk.below hb4 ?_ ?_); · first | omega | (simp; done) | (simp; omega)) | ((with_reducible refine Blk.below hb5 ?_ ?_); · first | omega | (simp; done) | (simp; omega)) | ((with_reducible refine Blk.keep kk ?_ ?_); · first | omega | (simp; done) | (simp; omega)))) (fun w' hB => by have q := hB.m; simp [results, Try.results43, go_sem, q]) rfl ?_
  exact ⟨m, rfl, hm, (by repeat (first | (with_reducible assumption) | (with_reducible refine Kpt.drew ?_) | (with_reducible refine Kpt.drewN ?_) | (with_reducible refine Kpt.alloc ?_) | ((with_reducible refine Kpt.put ?_ ?_ ?_); (· omega); (· omega))))⟩
theorem MRow.of3 {w : World} {g : Nat} {E : TypeId} {l m n : M} (h : Blk w g E #[.int .i64 l.a, .int .i64 l.b, .int .i64 l.c, .int .i64 l.d, .int .i64 m.a, .int .i64 m.b, .int .i64 m.c, .int .i64 m.d, .int .i64 n.a, .int .i64 n.b, .int .i64 n.c, .int .i64 n.d]) : MRow w g 0 [l, m, n] := by
  intro j hj
  match j, hj with
  | 0, _ => exact ⟨h.at rfl, h.at rfl, h.at rfl, h.at rfl⟩
  | 1, _ => exact ⟨h.at rfl, h.at rfl, h.at rfl, h.at rfl⟩
  | 2, _ => exact ⟨h.at rfl, h.at rfl, h.at rfl, h.at rfl⟩
theorem l01DrawWord_k {w0 wa w : World} {g : Nat} {code : List Int} (n : Int) (hn : n ≤ 100) (hK : Kpt w0 wa w g code) :
    Calls Try.prog 38 #[.pointer (some ⟨g, 0, none⟩), .int .i64 n] w (DrawM w0 w g code) := l01DrawWord_any n hn hK.1 hK.2.1
set_option maxRecDepth 8000 in
set_option maxHeartbeats 4000000 in
theorem l01Draw_any {w0 w : World} {g : Nat} {code : List Int} (hS : Src w0 w g code) (hB : Below w0.heap.size w0 w) :
    Calls Try.prog 29 #[.pointer (some ⟨g, 0, none⟩)] w (DrawM w0 w g code) := by
  have hg := hS.lt
  have K0 := Kpt.refl hS hB
  obtain ⟨GF, hGF⟩ : ∃ GF, DrawM w0 w g code = GF := ⟨_, rfl⟩
  rw [hGF]
  have HGF := Lib.hid hGF
  clear hGF hS hB
  go_enter Try.func29, Try.ntmps29
  go_wp2_with fail
  refine (next_src (w0 := w0) (wa := w) (code := code) 6 (by repeat (first | (with_reducible assumption) | (with_reducible refine Kpt.drew ?_) | (with_reducible refine Kpt.drewN ?_) | (with_reducible refine Kpt.alloc ?_) | ((with_reducible refine Kpt.put ?_ ?_ ?_); (· omega); (· omega)))) (by decide)).mono ?_
  rintro e w1 ⟨i, rfl, hi, kp⟩
  have K1 : Kpt w0 w w1 g code := Kpt.step (by repeat (first | (with_reducible assumption) | (with_reducible refine Kpt.drew ?_) | (with_reducible refine Kpt.drewN ?_) | (with_reducible refine Kpt.alloc ?_) | ((with_reducible refine Kpt.put ?_ ?_ ?_); (· omega); (· omega)))) kp
  have kk := kp.2.2
  have B0 : Blk w1 w.heap.size 25 (mcs ⟨0, 0, 0, 0⟩) := (by repeat (first | (with_reducible assumption) | ((with_reducible refine Blk.new ?_); · first | omega | (simp; done) | (simp; omega)) | (with_reducible apply Blk.set4) | (with_reducible apply Blk.set3) | (with_reducible apply Blk.set2) | ((with_reducible refine Blk.put ?_ ?_); · first | omega | (simp; omega)) | (with_reducible refine Blk.old ?_) | (with_reducible refine Blk.drew ?_) | (with_reducible refine Blk.drewN ?_) | ((with_reducible refine Blk.below hb ?_ ?_); · first | omega | (simp; done) | (simp; omega)) | ((with_reducible refine Blk.below hb4 ?_ ?_); · first | omega | (simp; done) | (simp; omega)) | ((with_reducible refine Blk.below hb5 ?_ ?_); · first | omega | (simp; done) | (simp; omega)) | ((with_reducible refine Blk.keep kk ?_ ?_); · first | omega | (simp; done) | (simp; omega))))
  have s1 := K1.size
  have l0 := B0.lt
  have hge : w.heap.size ≠ g := by omega
  clear kp kk K0
  --CASES
  by_cases h0 : i = 0
  · subst h0
    go_wp2_with fail
    refine (next_src (w0 := w0) (wa := w) (code := code) 20 (by repeat (first | (with_reducible assumption) | (with_reducible refine Kpt.drew ?_) | (with_reducible refine Kpt.drewN ?_) | (with_reducible refine Kpt.alloc ?_) | ((with_reducible refine Kpt.put ?_ ?_ ?_); (· omega); (· omega)))) (by decide)).mono ?_
    rintro e w2 ⟨i2, rfl, hi2, kp⟩
    have K2 : Kpt w0 w w2 g code := Kpt.step (by repeat (first | (with_reducible assumption) | (with_reducible refine Kpt.drew ?_) | (with_reducible refine Kpt.drewN ?_) | (with_reducible refine Kpt.alloc ?_) | ((with_reducible refine Kpt.put ?_ ?_ ?_); (· omega); (· omega)))) kp
    have kk := kp.2.2
    (try have ks := kp.size)
    (try simp at ks)
    have B2 : Blk w2 w.heap.size 25 (mcs ⟨0, 0, 0, 0⟩) := (by repeat (first | (with_reducible assumption) | ((with_reducible refine Blk.new ?_); · first | omega | (simp; done) | (simp; omega)) | (with_reducible apply Blk.set4) | (with_reducible apply Blk.set3) | (with_reducible apply Blk.set2) | ((with_reducible refine Blk.put ?_ ?_); · first | omega | (simp; omega)) | (with_reducible refine Blk.old ?_) | (with_reducible refine Blk.drew ?_) | (with_reducible refine Blk.drewN ?_) | ((with_reducible refine Blk.below hb ?_ ?_); · first | omega | (simp; done) | (simp; omega)) | ((with_reducible refine Blk.below hb4 ?_ ?_); · first | omega | (simp; done) | (simp; omega)) | ((with_reducible refine Blk.below hb5 ?_ ?_); · first | omega | (simp; done) | (simp; omega)) | ((with_reducible refine Blk.keep kk ?_ ?_); · first | omega | (simp; done) | (simp; omega))))
    have s2 := K2.size
    clear kp kk B0 K1 l0
    have lB2 := B2.lt
    go_wp2_with fail
    refine (l01DrawWord_k (w0 := w0) (wa := w) (code := code) i2 (by omega) (by repeat (first | (with_reducible assumption) | (with_reducible refine Kpt.drew ?_) | (with_reducible refine Kpt.drewN ?_) | (with_reducible refine Kpt.alloc ?_) | ((with_reducible refine Kpt.put ?_ ?_ ?_); (· omega); (· omega))))).mono ?_
    rintro e w3 ⟨m, rfl, hm, kp⟩
    have K3 : Kpt w0 w w3 g code := Kpt.step (by repeat (first | (with_reducible assumption) | (with_reducible refine Kpt.drew ?_) | (with_reducible refine Kpt.drewN ?_) | (with_reducible refine Kpt.alloc ?_) | ((with_reducible refine Kpt.put ?_ ?_ ?_); (· omega); (· omega)))) kp
    have kk := kp.2.2
    (try have ks := kp.size)
    (try simp at ks)
    have B3 : Blk w3 w.heap.size 25 (mcs ⟨0, 0, 0, 0⟩) := (by repeat (first | (with_reducible assumption) | ((with_reducible refine Blk.new ?_); · first | omega | (simp; done) | (simp; omega)) | (with_reducible apply Blk.set4) | (with_reducible apply Blk.set3) | (with_reducible apply Blk.set2) | ((with_reducible refine Blk.put ?_ ?_); · first | omega | (simp; omega)) | (with_reducible refine Blk.old ?_) | (with_reducible refine Blk.drew ?_) | (with_reducible refine Blk.drewN ?_) | ((with_reducible refine Blk.below hb ?_ ?_); · first | omega | (simp; done) | (simp; omega)) | ((with_reducible refine Blk.below hb4 ?_ ?_); · first | omega | (simp; done) | (simp; omega)) | ((with_reducible refine Blk.below hb5 ?_ ?_); · first | omega | (simp; done) | (simp; omega)) | ((with_reducible refine Blk.keep kk ?_ ?_); · first | omega | (simp; done) | (simp; omega))))
    have s3 := K3.size
    clear kp kk B2 K2 lB2 hi2
    have lB3 := B3.lt
    have q0 := B3.m
    have q1 := B3.mf
    go_wp2
    rw [← HGF.out]
    refine ret_at (v := mv m) (fun w' => Blk w' (w.heap.size) 25 (mcs m)) (by repeat (first | (with_reducible assumption) | ((with_reducible refine Blk.new ?_); · first | omega | (simp; done) | (simp; omega)) | (with_reducible apply Blk.set4) | (with_reducible apply Blk.set3) | (with_reducible apply Blk.set2) | ((with_reducible refine Blk.put ?_ ?_); · first | omega | (simp; omega)) | (with_reducible refine Blk.old ?_) | (with_reducible refine Blk.drew ?_) | (with_reducible refine Blk.drewN ?_) | ((with_reducible refine Blk.below hb ?_ ?_); · first | omega | (simp; done) | (simp; omega)) | ((with_reducible refine Blk.below hb4 ?_ ?_); · first | omega | (simp; done) | (simp; omega)) | ((with_reducible refine Blk.below hb5 ?_ ?_); · first | omega | (simp; done) | (simp; omega)) | ((with_reducible refine Blk.keep kk ?_ ?_); · first | omega | (simp; done) | (simp; omega)))) (fun w' hB => by have q := hB.m; simp [results, Try.results29, go_sem, q]) rfl ?_
    exact ⟨m, rfl, hm, (by repeat (first | (with_reducible assumption) | (with_reducible refine Kpt.drew ?_) | (with_reducible refine Kpt.drewN ?_) | (with_reducible refine Kpt.alloc ?_) | ((with_reducible refine Kpt.put ?_ ?_ ?_); (· omega); (· omega))))⟩
  · by_cases h1 : i = 1
    · subst h1
      go_wp2_with fail
      refine (next_src (w0 := w0) (wa := w) (code := code) 1000 (by repeat (first | (with_reducible assumption) | (with_reducible refine Kpt.drew ?_) | (with_reducible refine Kpt.drewN ?_) | (with_reducible refine Kpt.alloc ?_) | ((with_reducible refine Kpt.put ?_ ?_ ?_); (· omega); (· omega)))) (by decide)).mono ?_
      rintro e w2 ⟨r, rfl, hr, kp⟩
      have K2 : Kpt w0 w w2 g code := Kpt.step (by repeat (first | (with_reducible assumption) | (with_reducible refine Kpt.drew ?_) | (with_reducible refine Kpt.drewN ?_) | (with_reducible refine Kpt.alloc ?_) | ((with_reducible refine Kpt.put ?_ ?_ ?_); (· omega); (· omega)))) kp
      have kk := kp.2.2
      (try have ks := kp.size)
      (try simp at ks)
      have B2 : Blk w2 w.heap.size 25 (mcs ⟨0, 0, 0, 0⟩) := (by repeat (first | (with_reducible assumption) | ((with_reducible refine Blk.new ?_); · first | omega | (simp; done) | (simp; omega)) | (with_reducible apply Blk.set4) | (with_reducible apply Blk.set3) | (with_reducible apply Blk.set2) | ((with_reducible refine Blk.put ?_ ?_); · first | omega | (simp; omega)) | (with_reducible refine Blk.old ?_) | (with_reducible refine Blk.drew ?_) | (with_reducible refine Blk.drewN ?_) | ((with_reducible refine Blk.below hb ?_ ?_); · first | omega | (simp; done) | (simp; omega)) | ((with_reducible refine Blk.below hb4 ?_ ?_); · first | omega | (simp; done) | (simp; omega)) | ((with_reducible refine Blk.below hb5 ?_ ?_); · first | omega | (simp; done) | (simp; omega)) | ((with_reducible refine Blk.keep kk ?_ ?_); · first | omega | (simp; done) | (simp; omega))))
      have s2 := K2.size
      clear kp kk B0 K1 l0
      have lB2 := B2.lt
      have hrw : IntKind.i64.wrap (r - 500) = r - 500 := by rw [IntKind.wrap_i64]; omega
      have hme : (⟨1, r - 500, 0, 1⟩ : M).ents = true := by
        have h1 : entB (r - 500) = true := entB_mk (by omega)
        have h2 : entB 1 = true := by decide
        have h3 : entB 0 = true := by decide
        simp [M.ents, h1, h2, h3]
      have q0 := B2.m
      have q1 := B2.mf
      go_wp2
      rw [← HGF.out]
      refine ret_at (v := mv ⟨1, r - 500, 0, 1⟩) (fun w' => Blk w' (w.heap.size) 25 (mcs ⟨1, r - 500, 0, 1⟩)) (by repeat (first | (with_reducible assumption) | ((with_reducible refine Blk.new ?_); · first | omega | (simp; done) | (simp; omega)) | (with_reducible apply Blk.set4) | (with_reducible apply Blk.set3) | (with_reducible apply Blk.set2) | ((with_reducible refine Blk.put ?_ ?_); · first | omega | (simp; omega)) | (with_reducible refine Blk.old ?_) | (with_reducible refine Blk.drew ?_) | (with_reducible refine Blk.drewN ?_) | ((with_reducible refine Blk.below hb ?_ ?_); · first | omega | (simp; done) | (simp; omega)) | ((with_reducible refine Blk.below hb4 ?_ ?_); · first | omega | (simp; done) | (simp; omega)) | ((with_reducible refine Blk.below hb5 ?_ ?_); · first | omega | (simp; done) | (simp; omega)) | ((with_reducible refine Blk.keep kk ?_ ?_); · first | omega | (simp; done) | (simp; omega)))) (fun w' hB => by have q := hB.m; simp [results, Try.results29, go_sem, q]) rfl ?_
      exact ⟨⟨1, r - 500, 0, 1⟩, rfl, hme, (by repeat (first | (with_reducible assumption) | (with_reducible refine Kpt.drew ?_) | (with_reducible refine Kpt.drewN ?_) | (with_reducible refine Kpt.alloc ?_) | ((with_reducible refine Kpt.put ?_ ?_ ?_); (· omega); (· omega))))⟩
    · by_cases h2 : i = 2
      · subst h2
        go_wp2_with fail
        refine (next_src (w0 := w0) (wa := w) (code := code) 2 (by repeat (first | (with_reducible assumption) | (with_reducible refine Kpt.drew ?_) | (with_reducible refine Kpt.drewN ?_) | (with_reducible refine Kpt.alloc ?_) | ((with_reducible refine Kpt.put ?_ ?_ ?_); (· omega); (· omega)))) (by decide)).mono ?_
        rintro e w2 ⟨a, rfl, ha, kp⟩
        have K2 : Kpt w0 w w2 g code := Kpt.step (by repeat (first | (with_reducible assumption) | (with_reducible refine Kpt.drew ?_) | (with_reducible refine Kpt.drewN ?_) | (with_reducible refine Kpt.alloc ?_) | ((with_reducible refine Kpt.put ?_ ?_ ?_); (· omega); (· omega)))) kp
        have kk := kp.2.2
        (try have ks := kp.size)
        (try simp at ks)
        have B2 : Blk w2 w.heap.size 25 (mcs ⟨0, 0, 0, 0⟩) := (by repeat (first | (with_reducible assumption) | ((with_reducible refine Blk.new ?_); · first | omega | (simp; done) | (simp; omega)) | (with_reducible apply Blk.set4) | (with_reducible apply Blk.set3) | (with_reducible apply Blk.set2) | ((with_reducible refine Blk.put ?_ ?_); · first | omega | (simp; omega)) | (with_reducible refine Blk.old ?_) | (with_reducible refine Blk.drew ?_) | (with_reducible refine Blk.drewN ?_) | ((with_reducible refine Blk.below hb ?_ ?_); · first | omega | (simp; done) | (simp; omega)) | ((with_reducible refine Blk.below hb4 ?_ ?_); · first | omega | (simp; done) | (simp; omega)) | ((with_reducible refine Blk.below hb5 ?_ ?_); · first | omega | (simp; done) | (simp; omega)) | ((with_reducible refine Blk.keep kk ?_ ?_); · first | omega | (simp; done) | (simp; omega))))
        have s2 := K2.size
        clear kp kk B0 K1 l0
        have lB2 := B2.lt
        go_wp2_with fail
        refine (l01DrawWord_k (w0 := w0) (wa := w) (code := code) (1 + a) (by omega) (by repeat (first | (with_reducible assumption) | (with_reducible refine Kpt.drew ?_) | (with_reducible refine Kpt.drewN ?_) | (with_reducible refine Kpt.alloc ?_) | ((with_reducible refine Kpt.put ?_ ?_ ?_); (· omega); (· omega))))).mono ?_
        rintro e w3 ⟨m, rfl, hm, kp⟩
        have K3 : Kpt w0 w w3 g code := Kpt.step (by repeat (first | (with_reducible assumption) | (with_reducible refine Kpt.drew ?_) | (with_reducible refine Kpt.drewN ?_) | (with_reducible refine Kpt.alloc ?_) | ((with_reducible refine Kpt.put ?_ ?_ ?_); (· omega); (· omega)))) kp
        have kk := kp.2.2
        (try have ks := kp.size)
        (try simp at ks)
        have B3 : Blk w3 w.heap.size 25 (mcs ⟨0, 0, 0, 0⟩) := (by repeat (first | (with_reducible assumption) | ((with_reducible refine Blk.new ?_); · first | omega | (simp; done) | (simp; omega)) | (with_reducible apply Blk.set4) | (with_reducible apply Blk.set3) | (with_reducible apply Blk.set2) | ((with_reducible refine Blk.put ?_ ?_); · first | omega | (simp; omega)) | (with_reducible refine Blk.old ?_) | (with_reducible refine Blk.drew ?_) | (with_reducible refine Blk.drewN ?_) | ((with_reducible refine Blk.below hb ?_ ?_); · first | omega | (simp; done) | (simp; omega)) | ((with_reducible refine Blk.below hb4 ?_ ?_); · first | omega | (simp; done) | (simp; omega)) | ((with_reducible refine Blk.below hb5 ?_ ?_); · first | omega | (simp; done) | (simp; omega)) | ((with_reducible refine Blk.keep kk ?_ ?_); · first | omega | (simp; done) | (simp; omega))))
        have s3 := K3.size
        clear kp kk B2 K2 lB2
        have lB3 := B3.lt
        go_wp2_with fail
        refine (next_src (w0 := w0) (wa := w) (code := code) 4 (by repeat (first | (with_reducible assumption) | (with_reducible refine Kpt.drew ?_) | (with_reducible refine Kpt.drewN ?_) | (with_reducible refine Kpt.alloc ?_) | ((with_reducible refine Kpt.put ?_ ?_ ?_); (· omega); (· omega)))) (by decide)).mono ?_
        rintro e w4 ⟨c, rfl, hc, kp⟩
        have K4 : Kpt w0 w w4 g code := Kpt.step (by repeat (first | (with_reducible assumption) | (with_reducible refine Kpt.drew ?_) | (with_reducible refine Kpt.drewN ?_) | (with_reducible refine Kpt.alloc ?_) | ((with_reducible refine Kpt.put ?_ ?_ ?_); (· omega); (· omega)))) kp
        have kk := kp.2.2
        (try have ks := kp.size)
        (try simp at ks)
        have B4 : Blk w4 w.heap.size 25 (mcs ⟨0, 0, 0, 0⟩) := (by repeat (first | (with_reducible assumption) | ((with_reducible refine Blk.new ?_); · first | omega | (simp; done) | (simp; omega)) | (with_reducible apply Blk.set4) | (with_reducible apply Blk.set3) | (with_reducible apply Blk.set2) | ((with_reducible refine Blk.put ?_ ?_); · first | omega | (simp; omega)) | (with_reducible refine Blk.old ?_) | (with_reducible refine Blk.drew ?_) | (with_reducible refine Blk.drewN ?_) | ((with_reducible refine Blk.below hb ?_ ?_); · first | omega | (simp; done) | (simp; omega)) | ((with_reducible refine Blk.below hb4 ?_ ?_); · first | omega | (simp; done) | (simp; omega)) | ((with_reducible refine Blk.below hb5 ?_ ?_); · first | omega | (simp; done) | (simp; omega)) | ((with_reducible refine Blk.keep kk ?_ ?_); · first | omega | (simp; done) | (simp; omega))))
        have s4 := K4.size
        clear kp kk B3 K3 lB3
        have lB4 := B4.lt
        go_wp2_with fail
        refine (l01DrawWord_k (w0 := w0) (wa := w) (code := code) c (by omega) (by repeat (first | (with_reducible assumption) | (with_reducible refine Kpt.drew ?_) | (with_reducible refine Kpt.drewN ?_) | (with_reducible refine Kpt.alloc ?_) | ((with_reducible refine Kpt.put ?_ ?_ ?_); (· omega); (· omega))))).mono ?_
        rintro e w5 ⟨n, rfl, hn, kp⟩
        have K5 : Kpt w0 w w5 g code := Kpt.step (by repeat (first | (with_reducible assumption) | (with_reducible refine Kpt.drew ?_) | (with_reducible refine Kpt.drewN ?_) | (with_reducible refine Kpt.alloc ?_) | ((with_reducible refine Kpt.put ?_ ?_ ?_); (· omega); (· omega)))) kp
        have kk := kp.2.2
        (try have ks := kp.size)
        (try simp at ks)
        have B5 : Blk w5 w.heap.size 25 (mcs ⟨0, 0, 0, 0⟩) := (by repeat (first | (with_reducible assumption) | ((with_reducible refine Blk.new ?_); · first | omega | (simp; done) | (simp; omega)) | (with_reducible apply Blk.set4) | (with_reducible apply Blk.set3) | (with_reducible apply Blk.set2) | ((with_reducible refine Blk.put ?_ ?_); · first | omega | (simp; omega)) | (with_reducible refine Blk.old ?_) | (with_reducible refine Blk.drew ?_) | (with_reducible refine Blk.drewN ?_) | ((with_reducible refine Blk.below hb ?_ ?_); · first | omega | (simp; done) | (simp; omega)) | ((with_reducible refine Blk.below hb4 ?_ ?_); · first | omega | (simp; done) | (simp; omega)) | ((with_reducible refine Blk.below hb5 ?_ ?_); · first | omega | (simp; done) | (simp; omega)) | ((with_reducible refine Blk.keep kk ?_ ?_); · first | omega | (simp; done) | (simp; omega))))
        have s5 := K5.size
        clear kp kk B4 K4 lB4
        have lB5 := B5.lt
        go_wp2_with fail
        refine forget (fun W_ => Blk W_ w.heap.size 25 (mcs ⟨0, 0, 0, 0⟩) ∧ Blk W_ w5.heap.size 25 (mcs m) ∧ Blk W_ (w5.heap.size + 1) 25 (mcs n) ∧ Kpt w0 w W_ g code) ⟨(by repeat (first | (with_reducible assumption) | ((with_reducible refine Blk.new ?_); · first | omega | (simp; done) | (simp; omega)) | (with_reducible apply Blk.set4) | (with_reducible apply Blk.set3) | (with_reducible apply Blk.set2) | ((with_reducible refine Blk.put ?_ ?_); · first | omega | (simp; omega)) | (with_reducible refine Blk.old ?_) | (with_reducible refine Blk.drew ?_) | (with_reducible refine Blk.drewN ?_) | ((with_reducible refine Blk.below hb ?_ ?_); · first | omega | (simp; done) | (simp; omega)) | ((with_reducible refine Blk.below hb4 ?_ ?_); · first | omega | (simp; done) | (simp; omega)) | ((with_reducible refine Blk.below hb5 ?_ ?_); · first | omega | (simp; done) | (simp; omega)) | ((with_reducible refine Blk.keep kk ?_ ?_); · first | omega | (simp; done) | (simp; omega)))), (by repeat (first | (with_reducible assumption) | ((with_reducible refine Blk.new ?_); · first | omega | (simp; done) | (simp; omega)) | (with_reducible apply Blk.set4) | (with_reducible apply Blk.set3) | (with_reducible apply Blk.set2) | ((with_reducible refine Blk.put ?_ ?_); · first | omega | (simp; omega)) | (with_reducible refine Blk.old ?_) | (with_reducible refine Blk.drew ?_) | (with_reducible refine Blk.drewN ?_) | ((with_reducible refine Blk.below hb ?_ ?_); · first | omega | (simp; done) | (simp; omega)) | ((with_reducible refine Blk.below hb4 ?_ ?_); · first | omega | (simp; done) | (simp; omega)) | ((with_reducible refine Blk.below hb5 ?_ ?_); · first | omega | (simp; done) | (simp; omega)) | ((with_reducible refine Blk.keep kk ?_ ?_); · first | omega | (simp; done) | (simp; omega)))), (by repeat (first | (with_reducible assumption) | ((with_reducible refine Blk.new ?_); · first | omega | (simp; done) | (simp; omega)) | (with_reducible apply Blk.set4) | (with_reducible apply Blk.set3) | (with_reducible apply Blk.set2) | ((with_reducible refine Blk.put ?_ ?_); · first | omega | (simp; omega)) | (with_reducible refine Blk.old ?_) | (with_reducible refine Blk.drew ?_) | (with_reducible refine Blk.drewN ?_) | ((with_reducible refine Blk.below hb ?_ ?_); · first | omega | (simp; done) | (simp; omega)) | ((with_reducible refine Blk.below hb4 ?_ ?_); · first | omega | (simp; done) | (simp; omega)) | ((with_reducible refine Blk.below hb5 ?_ ?_); · first | omega | (simp; done) | (simp; omega)) | ((with_reducible refine Blk.keep kk ?_ ?_); · first | omega | (simp; done) | (simp; omega)))), (by repeat (first | (with_reducible assumption) | (with_reducible refine Kpt.drew ?_) | (with_reducible refine Kpt.drewN ?_) | (with_reducible refine Kpt.alloc ?_) | ((with_reducible refine Kpt.put ?_ ?_ ?_); (· omega); (· omega))))⟩ ?_
        rintro W6 ⟨D0, D1, D2, K6⟩
        clear B5 K5 ha hc
        have lD0 := D0.lt
        have lD1 := D1.lt
        have lD2 := D2.lt
        have c0 := D0.m
        have c1 := D1.m
        have c2 := D2.m
        generalize w5.heap.size = gm at *
        go_cut [5, 6] (fun s5 s6 wx => ∃ (gx : Nat) (r : M) (c : Int), Blk wx gx 25 (mcs r) ∧ W6.heap.size ≤ gx ∧ r.ents = true ∧ s5 = .pointer (some ⟨gx, 0, none⟩) ∧ s6 = .int .i64 c ∧ Below W6.heap.size W6 wx)
        case first =>
          go_region_held3 (fun w' => (w'.cell? ⟨gm, 0, none⟩ = some (.int .i64 m.a) ∧ w'.cell? ⟨gm, 1, none⟩ = some (.int .i64 m.b) ∧ w'.cell? ⟨gm, 2, none⟩ = some (.int .i64 m.c) ∧ w'.cell? ⟨gm, 3, none⟩ = some (.int .i64 m.d)) ∧ (w'.cell? ⟨gm + 1, 0, none⟩ = some (.int .i64 n.a) ∧ w'.cell? ⟨gm + 1, 1, none⟩ = some (.int .i64 n.b) ∧ w'.cell? ⟨gm + 1, 2, none⟩ = some (.int .i64 n.c) ∧ w'.cell? ⟨gm + 1, 3, none⟩ = some (.int .i64 n.d))) (first | go_keep | exact ⟨e0, e1⟩ | exact ⟨f0, f1⟩ | (refine ⟨⟨?_, ?_, ?_, ?_⟩, ?_, ?_, ?_, ?_⟩ <;> ((repeat rw [cell_put (by omega)]); first | exact f0.1 | exact f0.2.1 | exact f0.2.2.1 | exact f0.2.2.2 | exact f1.1 | exact f1.2.1 | exact f1.2.2.1 | exact f1.2.2.2))) (first | (go_at_call 40; refine (l01Inverse_any n _ hn).mono ?_; rintro e wz ⟨rfl, hb4⟩; have hbc4 := bcell hb4; have hbs4 := hb4.size; (try simp at hbs4); have G1 : Blk wz gm 25 (mcs m) := (by repeat (first | (with_reducible assumption) | ((with_reducible refine Blk.new ?_); · first | omega | (simp; done) | (simp; omega)) | (with_reducible apply Blk.set4) | (with_reducible apply Blk.set3) | (with_reducible apply Blk.set2) | ((with_reducible refine Blk.put ?_ ?_); · first | omega | (simp; omega)) | (with_reducible refine Blk.old ?_) | (with_reducible refine Blk.drew ?_) | (with_reducible refine Blk.drewN ?_) | ((with_reducible refine Blk.below hb ?_ ?_); · first | omega | (simp; done) | (simp; omega)) | ((with_reducible refine Blk.below hb4 ?_ ?_); · first | omega | (simp; done) | (simp; omega)) | ((with_reducible refine Blk.below hb5 ?_ ?_); · first | omega | (simp; done) | (simp; omega)) | ((with_reducible refine Blk.keep kk ?_ ?_); · first | omega | (simp; done) | (simp; omega)))); have G2 : Blk wz (gm + 1) 25 (mcs n) := (by repeat (first | (with_reducible assumption) | ((with_reducible refine Blk.new ?_); · first | omega | (simp; done) | (simp; omega)) | (with_reducible apply Blk.set4) | (with_reducible apply Blk.set3) | (with_reducible apply Blk.set2) | ((with_reducible refine Blk.put ?_ ?_); · first | omega | (simp; omega)) | (with_reducible refine Blk.old ?_) | (with_reducible refine Blk.drew ?_) | (with_reducible refine Blk.drewN ?_) | ((with_reducible refine Blk.below hb ?_ ?_); · first | omega | (simp; done) | (simp; omega)) | ((with_reducible refine Blk.below hb4 ?_ ?_); · first | omega | (simp; done) | (simp; omega)) | ((with_reducible refine Blk.below hb5 ?_ ?_); · first | omega | (simp; done) | (simp; omega)) | ((with_reducible refine Blk.keep kk ?_ ?_); · first | omega | (simp; done) | (simp; omega)))); have lg1 := G1.lt; have lg2 := G2.lt; have e0 := G1.m; have e1 := G2.m; (try have t1 : W6.heap.size < wz.heap.size := (by omega))) | (go_at_call 39; refine (l01Product_e _ n m ⟨n.d, -n.b, -n.c, n.a⟩ _ hn hm (inv_ents3 hn) (MRow.of3 (E := 25) (by repeat (first | (with_reducible assumption) | ((with_reducible refine Blk.new ?_); · first | omega | (simp; done) | (simp; omega)) | (with_reducible apply Blk.set4) | (with_reducible apply Blk.set3) | (with_reducible apply Blk.set2) | ((with_reducible refine Blk.put ?_ ?_); · first | omega | (simp; omega)) | (with_reducible refine Blk.old ?_) | (with_reducible refine Blk.drew ?_) | (with_reducible refine Blk.drewN ?_) | ((with_reducible refine Blk.below hb ?_ ?_); · first | omega | (simp; done) | (simp; omega)) | ((with_reducible refine Blk.below hb4 ?_ ?_); · first | omega | (simp; done) | (simp; omega)) | ((with_reducible refine Blk.below hb5 ?_ ?_); · first | omega | (simp; done) | (simp; omega)) | ((with_reducible refine Blk.keep kk ?_ ?_); · first | omega | (simp; done) | (simp; omega)))))).mono ?_; rintro e wy ⟨r, c, rfl, hr, hb5⟩; have hbc5 := bcell hb5; have hbs5 := hb5.size; (try simp at hbs5); have H1 : Blk wy gm 25 (mcs m) := (by repeat (first | (with_reducible assumption) | ((with_reducible refine Blk.new ?_); · first | omega | (simp; done) | (simp; omega)) | (with_reducible apply Blk.set4) | (with_reducible apply Blk.set3) | (with_reducible apply Blk.set2) | ((with_reducible refine Blk.put ?_ ?_); · first | omega | (simp; omega)) | (with_reducible refine Blk.old ?_) | (with_reducible refine Blk.drew ?_) | (with_reducible refine Blk.drewN ?_) | ((with_reducible refine Blk.below hb ?_ ?_); · first | omega | (simp; done) | (simp; omega)) | ((with_reducible refine Blk.below hb4 ?_ ?_); · first | omega | (simp; done) | (simp; omega)) | ((with_reducible refine Blk.below hb5 ?_ ?_); · first | omega | (simp; done) | (simp; omega)) | ((with_reducible refine Blk.keep kk ?_ ?_); · first | omega | (simp; done) | (simp; omega)))); have H2 : Blk wy (gm + 1) 25 (mcs n) := (by repeat (first | (with_reducible assumption) | ((with_reducible refine Blk.new ?_); · first | omega | (simp; done) | (simp; omega)) | (with_reducible apply Blk.set4) | (with_reducible apply Blk.set3) | (with_reducible apply Blk.set2) | ((with_reducible refine Blk.put ?_ ?_); · first | omega | (simp; omega)) | (with_reducible refine Blk.old ?_) | (with_reducible refine Blk.drew ?_) | (with_reducible refine Blk.drewN ?_) | ((with_reducible refine Blk.below hb ?_ ?_); · first | omega | (simp; done) | (simp; omega)) | ((with_reducible refine Blk.below hb4 ?_ ?_); · first | omega | (simp; done) | (simp; omega)) | ((with_reducible refine Blk.below hb5 ?_ ?_); · first | omega | (simp; done) | (simp; omega)) | ((with_reducible refine Blk.keep kk ?_ ?_); · first | omega | (simp; done) | (simp; omega)))); have lh1 := H1.lt; have lh2 := H2.lt; have f0 := H1.m; have f1 := H2.m; (try have t2 : W6.heap.size < wy.heap.size := (by omega)); (try have t3 : wz.heap.size < wy.heap.size := (by omega))))
          all_goals go_wp2_with fail
          all_goals go_meet
          all_goals exact ⟨_, r, c, (by repeat (first | (with_reducible assumption) | ((with_reducible refine Blk.new ?_); · first | omega | (simp; done) | (simp; omega)) | (with_reducible apply Blk.set4) | (with_reducible apply Blk.set3) | (with_reducible apply Blk.set2) | ((with_reducible refine Blk.put ?_ ?_); · first | omega | (simp; omega)) | (with_reducible refine Blk.old ?_) | (with_reducible refine Blk.drew ?_) | (with_reducible refine Blk.drewN ?_) | ((with_reducible refine Blk.below hb ?_ ?_); · first | omega | (simp; done) | (simp; omega)) | ((with_reducible refine Blk.below hb4 ?_ ?_); · first | omega | (simp; done) | (simp; omega)) | ((with_reducible refine Blk.below hb5 ?_ ?_); · first | omega | (simp; done) | (simp; omega)) | ((with_reducible refine Blk.keep kk ?_ ?_); · first | omega | (simp; done) | (simp; omega)))), by omega, hr, rfl, rfl, (by repeat (first | (with_reducible exact Below.refl _ _) | (with_reducible assumption) | (with_reducible refine Below.drew ?_) | (with_reducible refine Below.drewN ?_) | ((with_reducible refine Below.al ?_ ?_); · first | omega | (simp; done) | (simp; omega)) | ((with_reducible refine Below.sc ?_ ?_); · first | omega | (simp; done) | (simp; omega)) | ((with_reducible refine Below.thru hb ?_ ?_); · first | omega | (simp; done) | (simp; omega)) | ((with_reducible refine Below.thru hb4 ?_ ?_); · first | omega | (simp; done) | (simp; omega)) | ((with_reducible refine Below.thru hb5 ?_ ?_); · first | omega | (simp; done) | (simp; omega))))⟩
        case rest =>
          obtain ⟨gx, r, c, GX, hgx, hr, rfl, rfl, hb⟩ := hcut
          have K7 : Kpt w0 w wc g code := Kpt.below hb K6
          have E0 : Blk wc w.heap.size 25 (mcs ⟨0, 0, 0, 0⟩) := (by repeat (first | (with_reducible assumption) | ((with_reducible refine Blk.new ?_); · first | omega | (simp; done) | (simp; omega)) | (with_reducible apply Blk.set4) | (with_reducible apply Blk.set3) | (with_reducible apply Blk.set2) | ((with_reducible refine Blk.put ?_ ?_); · first | omega | (simp; omega)) | (with_reducible refine Blk.old ?_) | (with_reducible refine Blk.drew ?_) | (with_reducible refine Blk.drewN ?_) | ((with_reducible refine Blk.below hb ?_ ?_); · first | omega | (simp; done) | (simp; omega)) | ((with_reducible refine Blk.below hb4 ?_ ?_); · first | omega | (simp; done) | (simp; omega)) | ((with_reducible refine Blk.below hb5 ?_ ?_); · first | omega | (simp; done) | (simp; omega)) | ((with_reducible refine Blk.keep kk ?_ ?_); · first | omega | (simp; done) | (simp; omega))))
          have E1 : Blk wc gm 25 (mcs m) := (by repeat (first | (with_reducible assumption) | ((with_reducible refine Blk.new ?_); · first | omega | (simp; done) | (simp; omega)) | (with_reducible apply Blk.set4) | (with_reducible apply Blk.set3) | (with_reducible apply Blk.set2) | ((with_reducible refine Blk.put ?_ ?_); · first | omega | (simp; omega)) | (with_reducible refine Blk.old ?_) | (with_reducible refine Blk.drew ?_) | (with_reducible refine Blk.drewN ?_) | ((with_reducible refine Blk.below hb ?_ ?_); · first | omega | (simp; done) | (simp; omega)) | ((with_reducible refine Blk.below hb4 ?_ ?_); · first | omega | (simp; done) | (simp; omega)) | ((with_reducible refine Blk.below hb5 ?_ ?_); · first | omega | (simp; done) | (simp; omega)) | ((with_reducible refine Blk.keep kk ?_ ?_); · first | omega | (simp; done) | (simp; omega))))
          have s7 := K7.size
          clear hb D0 D1 D2 K6 c0 c1 c2
          have q0 := E0.m
          have q1 := E0.mf
          have q2 := E1.m
          have q3 := GX.m
          by_cases hc0 : c = 0
          · subst hc0
            go_wp2
            rw [← HGF.out]
            refine ret_at (v := mv r) (fun w' => Blk w' (w.heap.size) 25 (mcs r)) (by repeat (first | (with_reducible assumption) | ((with_reducible refine Blk.new ?_); · first | omega | (simp; done) | (simp; omega)) | (with_reducible apply Blk.set4) | (with_reducible apply Blk.set3) | (with_reducible apply Blk.set2) | ((with_reducible refine Blk.put ?_ ?_); · first | omega | (simp; omega)) | (with_reducible refine Blk.old ?_) | (with_reducible refine Blk.drew ?_) | (with_reducible refine Blk.drewN ?_) | ((with_reducible refine Blk.below hb ?_ ?_); · first | omega | (simp; done) | (simp; omega)) | ((with_reducible refine Blk.below hb4 ?_ ?_); · first | omega | (simp; done) | (simp; omega)) | ((with_reducible refine Blk.below hb5 ?_ ?_); · first | omega | (simp; done) | (simp; omega)) | ((with_reducible refine Blk.keep kk ?_ ?_); · first | omega | (simp; done) | (simp; omega)))) (fun w' hB => by have q := hB.m; simp [results, Try.results29, go_sem, q]) rfl ?_
            exact ⟨r, rfl, hr, (by repeat (first | (with_reducible assumption) | (with_reducible refine Kpt.drew ?_) | (with_reducible refine Kpt.drewN ?_) | (with_reducible refine Kpt.alloc ?_) | ((with_reducible refine Kpt.put ?_ ?_ ?_); (· omega); (· omega))))⟩
          · have e0 : (c == 0) = false := beq_eq_false_iff_ne.2 hc0
            clear hc0
            go_wp2
            rw [← HGF.out]
            refine ret_at (v := mv m) (fun w' => Blk w' (w.heap.size) 25 (mcs m)) (by repeat (first | (with_reducible assumption) | ((with_reducible refine Blk.new ?_); · first | omega | (simp; done) | (simp; omega)) | (with_reducible apply Blk.set4) | (with_reducible apply Blk.set3) | (with_reducible apply Blk.set2) | ((with_reducible refine Blk.put ?_ ?_); · first | omega | (simp; omega)) | (with_reducible refine Blk.old ?_) | (with_reducible refine Blk.drew ?_) | (with_reducible refine Blk.drewN ?_) | ((with_reducible refine Blk.below hb ?_ ?_); · first | omega | (simp; done) | (simp; omega)) | ((with_reducible refine Blk.below hb4 ?_ ?_); · first | omega | (simp; done) | (simp; omega)) | ((with_reducible refine Blk.below hb5 ?_ ?_); · first | omega | (simp; done) | (simp; omega)) | ((with_reducible refine Blk.keep kk ?_ ?_); · first | omega | (simp; done) | (simp; omega)))) (fun w' hB => by have q := hB.m; simp [results, Try.results29, go_sem, q]) rfl ?_
            exact ⟨m, rfl, hm, (by repeat (first | (with_reducible assumption) | (with_reducible refine Kpt.drew ?_) | (with_reducible refine Kpt.drewN ?_) | (with_reducible refine Kpt.alloc ?_) | ((with_reducible refine Kpt.put ?_ ?_ ?_); (· omega); (· omega))))⟩
      · by_cases h3 : i = 3
        · subst h3
          go_wp2_with fail
          refine (l01DrawWord_k (w0 := w0) (wa := w) (code := code) 2 (by omega) (by repeat (first | (with_reducible assumption) | (with_reducible refine Kpt.drew ?_) | (with_reducible refine Kpt.drewN ?_) | (with_reducible refine Kpt.alloc ?_) | ((with_reducible refine Kpt.put ?_ ?_ ?_); (· omega); (· omega))))).mono ?_
          rintro e w2 ⟨m, rfl, hm, kp⟩
          have K2 : Kpt w0 w w2 g code := Kpt.step (by repeat (first | (with_reducible assumption) | (with_reducible refine Kpt.drew ?_) | (with_reducible refine Kpt.drewN ?_) | (with_reducible refine Kpt.alloc ?_) | ((with_reducible refine Kpt.put ?_ ?_ ?_); (· omega); (· omega)))) kp
          have kk := kp.2.2
          (try have ks := kp.size)
          (try simp at ks)
          have B2 : Blk w2 w.heap.size 25 (mcs ⟨0, 0, 0, 0⟩) := (by repeat (first | (with_reducible assumption) | ((with_reducible refine Blk.new ?_); · first | omega | (simp; done) | (simp; omega)) | (with_reducible apply Blk.set4) | (with_reducible apply Blk.set3) | (with_reducible apply Blk.set2) | ((with_reducible refine Blk.put ?_ ?_); · first | omega | (simp; omega)) | (with_reducible refine Blk.old ?_) | (with_reducible refine Blk.drew ?_) | (with_reducible refine Blk.drewN ?_) | ((with_reducible refine Blk.below hb ?_ ?_); · first | omega | (simp; done) | (simp; omega)) | ((with_reducible refine Blk.below hb4 ?_ ?_); · first | omega | (simp; done) | (simp; omega)) | ((with_reducible refine Blk.below hb5 ?_ ?_); · first | omega | (simp; done) | (simp; omega)) | ((with_reducible refine Blk.keep kk ?_ ?_); · first | omega | (simp; done) | (simp; omega))))
          have s2 := K2.size
          clear kp kk B0 K1 l0
          have lB2 := B2.lt
          go_wp2_with fail
          refine (next_src (w0 := w0) (wa := w) (code := code) 8 (by repeat (first | (with_reducible assumption) | (with_reducible refine Kpt.drew ?_) | (with_reducible refine Kpt.drewN ?_) | (with_reducible refine Kpt.alloc ?_) | ((with_reducible refine Kpt.put ?_ ?_ ?_); (· omega); (· omega)))) (by decide)).mono ?_
          rintro e w3 ⟨c, rfl, hc, kp⟩
          have K3 : Kpt w0 w w3 g code := Kpt.step (by repeat (first | (with_reducible assumption) | (with_reducible refine Kpt.drew ?_) | (with_reducible refine Kpt.drewN ?_) | (with_reducible refine Kpt.alloc ?_) | ((with_reducible refine Kpt.put ?_ ?_ ?_); (· omega); (· omega)))) kp
          have kk := kp.2.2
          (try have ks := kp.size)
          (try simp at ks)
          have B3 : Blk w3 w.heap.size 25 (mcs ⟨0, 0, 0, 0⟩) := (by repeat (first | (with_reducible assumption) | ((with_reducible refine Blk.new ?_); · first | omega | (simp; done) | (simp; omega)) | (with_reducible apply Blk.set4) | (with_reducible apply Blk.set3) | (with_reducible apply Blk.set2) | ((with_reducible refine Blk.put ?_ ?_); · first | omega | (simp; omega)) | (with_reducible refine Blk.old ?_) | (with_reducible refine Blk.drew ?_) | (with_reducible refine Blk.drewN ?_) | ((with_reducible refine Blk.below hb ?_ ?_); · first | omega | (simp; done) | (simp; omega)) | ((with_reducible refine Blk.below hb4 ?_ ?_); · first | omega | (simp; done) | (simp; omega)) | ((with_reducible refine Blk.below hb5 ?_ ?_); · first | omega | (simp; done) | (simp; omega)) | ((with_reducible refine Blk.keep kk ?_ ?_); · first | omega | (simp; done) | (simp; omega))))
          have s3 := K3.size
          clear kp kk B2 K2 lB2
          have lB3 := B3.lt
          go_wp2_with fail
          refine (l01Power_e m c _ hm (by omega)).mono ?_
          rintro e w4 ⟨r, b, rfl, hr, hb4⟩
          have K4 : Kpt w0 w w4 g code := Kpt.below hb4 (by repeat (first | (with_reducible assumption) | (with_reducible refine Kpt.drew ?_) | (with_reducible refine Kpt.drewN ?_) | (with_reducible refine Kpt.alloc ?_) | ((with_reducible refine Kpt.put ?_ ?_ ?_); (· omega); (· omega))))
          have B4 : Blk w4 w.heap.size 25 (mcs ⟨0, 0, 0, 0⟩) := (by repeat (first | (with_reducible assumption) | ((with_reducible refine Blk.new ?_); · first | omega | (simp; done) | (simp; omega)) | (with_reducible apply Blk.set4) | (with_reducible apply Blk.set3) | (with_reducible apply Blk.set2) | ((with_reducible refine Blk.put ?_ ?_); · first | omega | (simp; omega)) | (with_reducible refine Blk.old ?_) | (with_reducible refine Blk.drew ?_) | (with_reducible refine Blk.drewN ?_) | ((with_reducible refine Blk.below hb ?_ ?_); · first | omega | (simp; done) | (simp; omega)) | ((with_reducible refine Blk.below hb4 ?_ ?_); · first | omega | (simp; done) | (simp; omega)) | ((with_reducible refine Blk.below hb5 ?_ ?_); · first | omega | (simp; done) | (simp; omega)) | ((with_reducible refine Blk.keep kk ?_ ?_); · first | omega | (simp; done) | (simp; omega))))
          have lB4 := B4.lt
          have s4 := K4.size
          clear hb4 B3 K3 lB3
          go_wp2_with fail
          refine (l01Is_any r _).mono ?_
          rintro e w5 ⟨rfl, hb4⟩
          have K5 : Kpt w0 w w5 g code := Kpt.below hb4 (by repeat (first | (with_reducible assumption) | (with_reducible refine Kpt.drew ?_) | (with_reducible refine Kpt.drewN ?_) | (with_reducible refine Kpt.alloc ?_) | ((with_reducible refine Kpt.put ?_ ?_ ?_); (· omega); (· omega))))
          have B5 : Blk w5 w.heap.size 25 (mcs ⟨0, 0, 0, 0⟩) := (by repeat (first | (with_reducible assumption) | ((with_reducible refine Blk.new ?_); · first | omega | (simp; done) | (simp; omega)) | (with_reducible apply Blk.set4) | (with_reducible apply Blk.set3) | (with_reducible apply Blk.set2) | ((with_reducible refine Blk.put ?_ ?_); · first | omega | (simp; omega)) | (with_reducible refine Blk.old ?_) | (with_reducible refine Blk.drew ?_) | (with_reducible refine Blk.drewN ?_) | ((with_reducible refine Blk.below hb ?_ ?_); · first | omega | (simp; done) | (simp; omega)) | ((with_reducible refine Blk.below hb4 ?_ ?_); · first | omega | (simp; done) | (simp; omega)) | ((with_reducible refine Blk.below hb5 ?_ ?_); · first | omega | (simp; done) | (simp; omega)) | ((with_reducible refine Blk.keep kk ?_ ?_); · first | omega | (simp; done) | (simp; omega))))
          have R5 : Blk w5 w4.heap.size 25 (mcs r) := (by repeat (first | (with_reducible assumption) | ((with_reducible refine Blk.new ?_); · first | omega | (simp; done) | (simp; omega)) | (with_reducible apply Blk.set4) | (with_reducible apply Blk.set3) | (with_reducible apply Blk.set2) | ((with_reducible refine Blk.put ?_ ?_); · first | omega | (simp; omega)) | (with_reducible refine Blk.old ?_) | (with_reducible refine Blk.drew ?_) | (with_reducible refine Blk.drewN ?_) | ((with_reducible refine Blk.below hb ?_ ?_); · first | omega | (simp; done) | (simp; omega)) | ((with_reducible refine Blk.below hb4 ?_ ?_); · first | omega | (simp; done) | (simp; omega)) | ((with_reducible refine Blk.below hb5 ?_ ?_); · first | omega | (simp; done) | (simp; omega)) | ((with_reducible refine Blk.keep kk ?_ ?_); · first | omega | (simp; done) | (simp; omega))))
          have lB5 := B5.lt
          have s5 := K5.size
          clear hb4 B4 K4 lB4
          have q0 := B5.m
          have q1 := B5.mf
          have q2 := R5.m
          cases hok : r.ok with
          | true =>
            go_wp2
            rw [← HGF.out]
            refine ret_at (v := mv r) (fun w' => Blk w' (w.heap.size) 25 (mcs r)) (by repeat (first | (with_reducible assumption) | ((with_reducible refine Blk.new ?_); · first | omega | (simp; done) | (simp; omega)) | (with_reducible apply Blk.set4) | (with_reducible apply Blk.set3) | (with_reducible apply Blk.set2) | ((with_reducible refine Blk.put ?_ ?_); · first | omega | (simp; omega)) | (with_reducible refine Blk.old ?_) | (with_reducible refine Blk.drew ?_) | (with_reducible refine Blk.drewN ?_) | ((with_reducible refine Blk.below hb ?_ ?_); · first | omega | (simp; done) | (simp; omega)) | ((with_reducible refine Blk.below hb4 ?_ ?_); · first | omega | (simp; done) | (simp; omega)) | ((with_reducible refine Blk.below hb5 ?_ ?_); · first | omega | (simp; done) | (simp; omega)) | ((with_reducible refine Blk.keep kk ?_ ?_); · first | omega | (simp; done) | (simp; omega)))) (fun w' hB => by have q := hB.m; simp [results, Try.results29, go_sem, q]) rfl ?_
            exact ⟨r, rfl, hr, (by repeat (first | (with_reducible assumption) | (with_reducible refine Kpt.drew ?_) | (with_reducible refine Kpt.drewN ?_) | (with_reducible refine Kpt.alloc ?_) | ((with_reducible refine Kpt.put ?_ ?_ ?_); (· omega); (· omega))))⟩
          | false =>
            go_wp2_with fail
            refine (l01Negative_any ⟨1, 0, 0, 1⟩ _ (by decide)).mono ?_
            rintro e w6 ⟨rfl, hb4⟩
            have K6 : Kpt w0 w w6 g code := Kpt.below hb4 (by repeat (first | (with_reducible assumption) | (with_reducible refine Kpt.drew ?_) | (with_reducible refine Kpt.drewN ?_) | (with_reducible refine Kpt.alloc ?_) | ((with_reducible refine Kpt.put ?_ ?_ ?_); (· omega); (· omega))))
            have B6 : Blk w6 w.heap.size 25 (mcs ⟨0, 0, 0, 0⟩) := (by repeat (first | (with_reducible assumption) | ((with_reducible refine Blk.new ?_); · first | omega | (simp; done) | (simp; omega)) | (with_reducible apply Blk.set4) | (with_reducible apply Blk.set3) | (with_reducible apply Blk.set2) | ((with_reducible refine Blk.put ?_ ?_); · first | omega | (simp; omega)) | (with_reducible refine Blk.old ?_) | (with_reducible refine Blk.drew ?_) | (with_reducible refine Blk.drewN ?_) | ((with_reducible refine Blk.below hb ?_ ?_); · first | omega | (simp; done) | (simp; omega)) | ((with_reducible refine Blk.below hb4 ?_ ?_); · first | omega | (simp; done) | (simp; omega)) | ((with_reducible refine Blk.below hb5 ?_ ?_); · first | omega | (simp; done) | (simp; omega)) | ((with_reducible refine Blk.keep kk ?_ ?_); · first | omega | (simp; done) | (simp; omega))))
            have lB6 := B6.lt
            have s6 := K6.size
            clear hb4 B5 R5 K5 q0 q1 q2
            have q0 := B6.m
            have q1 := B6.mf
            go_wp2
            rw [← HGF.out]
            refine ret_at (v := mv ⟨-1, 0, 0, -1⟩) (fun w' => Blk w' (w.heap.size) 25 (mcs ⟨-1, 0, 0, -1⟩)) (by repeat (first | (with_reducible assumption) | ((with_reducible refine Blk.new ?_); · first | omega | (simp; done) | (simp; omega)) | (with_reducible apply Blk.set4) | (with_reducible apply Blk.set3) | (with_reducible apply Blk.set2) | ((with_reducible refine Blk.put ?_ ?_); · first | omega | (simp; omega)) | (with_reducible refine Blk.old ?_) | (with_reducible refine Blk.drew ?_) | (with_reducible refine Blk.drewN ?_) | ((with_reducible refine Blk.below hb ?_ ?_); · first | omega | (simp; done) | (simp; omega)) | ((with_reducible refine Blk.below hb4 ?_ ?_); · first | omega | (simp; done) | (simp; omega)) | ((with_reducible refine Blk.below hb5 ?_ ?_); · first | omega | (simp; done) | (simp; omega)) | ((with_reducible refine Blk.keep kk ?_ ?_); · first | omega | (simp; done) | (simp; omega)))) (fun w' hB => by have q := hB.m; simp [results, Try.results29, go_sem, q]) rfl ?_
            exact ⟨⟨-1, 0, 0, -1⟩, rfl, by decide, (by repeat (first | (with_reducible assumption) | (with_reducible refine Kpt.drew ?_) | (with_reducible refine Kpt.drewN ?_) | (with_reducible refine Kpt.alloc ?_) | ((with_reducible refine Kpt.put ?_ ?_ ?_); (· omega); (· omega))))⟩
        · have e0 : (i == 0) = false := beq_eq_false_iff_ne.2 h0
          have e1 : (i == 1) = false := beq_eq_false_iff_ne.2 h1
          have e2 : (i == 2) = false := beq_eq_false_iff_ne.2 h2
          have e3 : (i == 3) = false := beq_eq_false_iff_ne.2 h3
          clear h0 h1 h2 h3
          go_wp2_with fail
          refine (l01Small_any K1.1 K1.2.1).mono ?_
          rintro e w2 ⟨m, rfl, hm, kp⟩
          have K2 : Kpt w0 w w2 g code := Kpt.step (by repeat (first | (with_reducible assumption) | (with_reducible refine Kpt.drew ?_) | (with_reducible refine Kpt.drewN ?_) | (with_reducible refine Kpt.alloc ?_) | ((with_reducible refine Kpt.put ?_ ?_ ?_); (· omega); (· omega)))) kp
          have kk := kp.2.2
          (try have ks := kp.size)
          (try simp at ks)
          have B2 : Blk w2 w.heap.size 25 (mcs ⟨0, 0, 0, 0⟩) := (by repeat (first | (with_reducible assumption) | ((with_reducible refine Blk.new ?_); · first | omega | (simp; done) | (simp; omega)) | (with_reducible apply Blk.set4) | (with_reducible apply Blk.set3) | (with_reducible apply Blk.set2) | ((with_reducible refine Blk.put ?_ ?_); · first | omega | (simp; omega)) | (with_reducible refine Blk.old ?_) | (with_reducible refine Blk.drew ?_) | (with_reducible refine Blk.drewN ?_) | ((with_reducible refine Blk.below hb ?_ ?_); · first | omega | (simp; done) | (simp; omega)) | ((with_reducible refine Blk.below hb4 ?_ ?_); · first | omega | (simp; done) | (simp; omega)) | ((with_reducible refine Blk.below hb5 ?_ ?_); · first | omega | (simp; done) | (simp; omega)) | ((with_reducible refine Blk.keep kk ?_ ?_); · first | omega | (simp; done) | (simp; omega))))
          have s2 := K2.size
          clear kp kk B0 K1 l0
          have lB2 := B2.lt
          have q0 := B2.m
          have q1 := B2.mf
          go_wp2
          rw [← HGF.out]
          refine ret_at (v := mv m) (fun w' => Blk w' (w.heap.size) 25 (mcs m)) (by repeat (first | (with_reducible assumption) | ((with_reducible refine Blk.new ?_); · first | omega | (simp; done) | (simp; omega)) | (with_reducible apply Blk.set4) | (with_reducible apply Blk.set3) | (with_reducible apply Blk.set2) | ((with_reducible refine Blk.put ?_ ?_); · first | omega | (simp; omega)) | (with_reducible refine Blk.old ?_) | (with_reducible refine Blk.drew ?_) | (with_reducible refine Blk.drewN ?_) | ((with_reducible refine Blk.below hb ?_ ?_); · first | omega | (simp; done) | (simp; omega)) | ((with_reducible refine Blk.below hb4 ?_ ?_); · first | omega | (simp; done) | (simp; omega)) | ((with_reducible refine Blk.below hb5 ?_ ?_); · first | omega | (simp; done) | (simp; omega)) | ((with_reducible refine Blk.keep kk ?_ ?_); · first | omega | (simp; done) | (simp; omega)))) (fun w' hB => by have q := hB.m; simp [results, Try.results29, go_sem, q]) rfl ?_
          exact ⟨m, rfl, hm, (by repeat (first | (with_reducible assumption) | (with_reducible refine Kpt.drew ?_) | (with_reducible refine Kpt.drewN ?_) | (with_reducible refine Kpt.alloc ?_) | ((with_reducible refine Kpt.put ?_ ?_ ?_); (· omega); (· omega))))⟩
  --ENDCASES

end Go.Proofs.Ytcapmljnhflopaa
