/- Triples drawn from a source, walked by hand. -/
import Derived.Test.YtbmkpcenjjdflaaDbl
import Derived.Test.YtbmkpcenjjdflaaLki
import Derived.Test.YtbmkpcenjjdflaaFmp
namespace Go.Proofs.Ytbmkpcenjjdflaa
open Go.RowKit
set_option linter.unusedSimpArgs false
theorem i012L {i : Int} (h : i ∈ [0, 0, 1, 1, 2]) : i = 0 ∨ i = 1 ∨ i = 2 := by
  simp at h
  omega
set_option maxHeartbeats 2000000 in
theorem l09Draw_any {w0 w : World} {g : Nat} {code : List Int} (hS : Src w0 w g code) (hB : Below w0.heap.size w0 w) :
    Calls Try.prog 38 #[.pointer (some ⟨g, 0, none⟩)] w fun e w' => ∃ t : T3, e = .returned (tv t) ∧ t.ok = true ∧ Kpt w0 w w' g code := by
  have hg := hS.lt
  have K0 := Kpt.refl hS hB
  go_enter Try.func38, Try.ntmps38
  go_wp2_with fail
  refine (pick_src (w0 := w0) (wa := w) (code := code) (b := w.heap.size + 1 + 1) [4, 8, 14] #[.int .i64 4, .int .i64 8, .int .i64 14] (by repeat (first | (with_reducible assumption) | (with_reducible refine Kpt.drew ?_) | (with_reducible refine Kpt.drewN ?_) | (with_reducible refine Kpt.alloc ?_) | ((with_reducible refine Kpt.put ?_ ?_ ?_); (· omega); (· omega)))) (by repeat (first | (with_reducible assumption) | ((with_reducible refine Blk.new ?_); · first | omega | (simp; done) | (simp; omega)) | (with_reducible apply Blk.set4) | (with_reducible apply Blk.set3) | (with_reducible apply Blk.set2) | ((with_reducible refine Blk.put ?_ ?_); · first | omega | (simp; omega)) | (with_reducible refine Blk.old ?_) | (with_reducible refine Blk.drew ?_) | (with_reducible refine Blk.drewN ?_) | ((with_reducible refine Blk.below hb ?_ ?_); · first | omega | (simp; done) | (simp; omega)) | ((with_reducible refine Blk.keep kk ?_ ?_); · first | omega | (simp; done) | (simp; omega)))) rfl (by simp) (by simp [maxLen]) 3 rfl).mono ?_
  rintro e w1 ⟨m, rfl, hm, kp⟩
  have K1 : Kpt w0 w w1 g code := Kpt.step (by repeat (first | (with_reducible assumption) | (with_reducible refine Kpt.drew ?_) | (with_reducible refine Kpt.drewN ?_) | (with_reducible refine Kpt.alloc ?_) | ((with_reducible refine Kpt.put ?_ ?_ ?_); (· omega); (· omega)))) kp
  have kk := kp.2.2
  have s1 := kp.size
  simp at s1
  have A0 : Blk w1 w.heap.size 36 (tcs ⟨0, 0, 0⟩) := (by repeat (first | (with_reducible assumption) | ((with_reducible refine Blk.new ?_); · first | omega | (simp; done) | (simp; omega)) | (with_reducible apply Blk.set4) | (with_reducible apply Blk.set3) | (with_reducible apply Blk.set2) | ((with_reducible refine Blk.put ?_ ?_); · first | omega | (simp; omega)) | (with_reducible refine Blk.old ?_) | (with_reducible refine Blk.drew ?_) | (with_reducible refine Blk.drewN ?_) | ((with_reducible refine Blk.below hb ?_ ?_); · first | omega | (simp; done) | (simp; omega)) | ((with_reducible refine Blk.keep kk ?_ ?_); · first | omega | (simp; done) | (simp; omega))))
  have A1 : Blk w1 (w.heap.size + 1) 36 (tcs ⟨1, 1, 1⟩) := (by repeat (first | (with_reducible assumption) | ((with_reducible refine Blk.new ?_); · first | omega | (simp; done) | (simp; omega)) | (with_reducible apply Blk.set4) | (with_reducible apply Blk.set3) | (with_reducible apply Blk.set2) | ((with_reducible refine Blk.put ?_ ?_); · first | omega | (simp; omega)) | (with_reducible refine Blk.old ?_) | (with_reducible refine Blk.drew ?_) | (with_reducible refine Blk.drewN ?_) | ((with_reducible refine Blk.below hb ?_ ?_); · first | omega | (simp; done) | (simp; omega)) | ((with_reducible refine Blk.keep kk ?_ ?_); · first | omega | (simp; done) | (simp; omega))))
  clear kp kk K0 hS hB
  go_wp2_with fail
  refine (next_src (w0 := w0) (wa := w) (code := code) m (by repeat (first | (with_reducible assumption) | (with_reducible refine Kpt.drew ?_) | (with_reducible refine Kpt.drewN ?_) | (with_reducible refine Kpt.alloc ?_) | ((with_reducible refine Kpt.put ?_ ?_ ?_); (· omega); (· omega)))) (by simp at hm; omega)).mono ?_
  rintro e w2 ⟨k, rfl, hk, kp⟩
  have K2 : Kpt w0 w w2 g code := Kpt.step (by repeat (first | (with_reducible assumption) | (with_reducible refine Kpt.drew ?_) | (with_reducible refine Kpt.drewN ?_) | (with_reducible refine Kpt.alloc ?_) | ((with_reducible refine Kpt.put ?_ ?_ ?_); (· omega); (· omega)))) kp
  have kk := kp.2.2
  have s2 := kp.size
  have B0 : Blk w2 w.heap.size 36 (tcs ⟨0, 0, 0⟩) := (by repeat (first | (with_reducible assumption) | ((with_reducible refine Blk.new ?_); · first | omega | (simp; done) | (simp; omega)) | (with_reducible apply Blk.set4) | (with_reducible apply Blk.set3) | (with_reducible apply Blk.set2) | ((with_reducible refine Blk.put ?_ ?_); · first | omega | (simp; omega)) | (with_reducible refine Blk.old ?_) | (with_reducible refine Blk.drew ?_) | (with_reducible refine Blk.drewN ?_) | ((with_reducible refine Blk.below hb ?_ ?_); · first | omega | (simp; done) | (simp; omega)) | ((with_reducible refine Blk.keep kk ?_ ?_); · first | omega | (simp; done) | (simp; omega))))
  have B1 : Blk w2 (w.heap.size + 1) 36 (tcs ⟨1, 1, 1⟩) := (by repeat (first | (with_reducible assumption) | ((with_reducible refine Blk.new ?_); · first | omega | (simp; done) | (simp; omega)) | (with_reducible apply Blk.set4) | (with_reducible apply Blk.set3) | (with_reducible apply Blk.set2) | ((with_reducible refine Blk.put ?_ ?_); · first | omega | (simp; omega)) | (with_reducible refine Blk.old ?_) | (with_reducible refine Blk.drew ?_) | (with_reducible refine Blk.drewN ?_) | ((with_reducible refine Blk.below hb ?_ ?_); · first | omega | (simp; done) | (simp; omega)) | ((with_reducible refine Blk.keep kk ?_ ?_); · first | omega | (simp; done) | (simp; omega))))
  clear kp kk A0 A1 K1 s1
  go_wp2_with fail
  go_loopw [4, 5] (fun vk v5 wr => ∃ (j : Int) (t : T3), vk = .int .i64 j ∧ t.ok = true ∧ Blk wr w.heap.size 36 (tcs ⟨0, 0, 0⟩) ∧ Blk wr (w.heap.size + 1) 36 (tcs t) ∧ Kpt w0 w wr g code ∧ (0 ≤ j ∧ j ≤ 14)) (fun vk _ _ => (intOf vk).toNat)
  case atStart => exact ⟨k, _, rfl, by decide, B0, B1, K2, by simp at hm; omega⟩
  case round =>
    clear B0 B1 K2 hk hm s2
    obtain ⟨j, t, rfl, ht, B0, B1, K2, hj⟩ := hrel
    have s2 := K2.size
    have hs := T3.ok_small ht
    have q1 := B1.t
    have q0 := B0.t
    have f0 := B0.tf
    have l0 := B0.lt
    have l1 := B1.lt
    by_cases hz : 0 < j
    · go_wp2_with fail
      go_cut [5] (fun s5 wx => ∃ (i : Int) (b : Nat), s5 = .pointer (some ⟨b, 0, none⟩) ∧ (i = 0 ∨ i = 1 ∨ i = 2) ∧ Blk wx b 36 (tcs (t.nb i)) ∧ wr.heap.size ≤ b ∧ Blk wx w.heap.size 36 (tcs ⟨0, 0, 0⟩) ∧ Blk wx (w.heap.size + 1) 36 (tcs t) ∧ Kpt w0 w wx g code)
      case first =>
        go_region_held3 (fun w' => w'.cell? ⟨w.heap.size + 1, 0, none⟩ = some (.int .i64 t.x) ∧ w'.cell? ⟨w.heap.size + 1, 1, none⟩ = some (.int .i64 t.y) ∧ w'.cell? ⟨w.heap.size + 1, 2, none⟩ = some (.int .i64 t.z)) (first | go_keep | (refine ⟨?_, ?_, ?_⟩ <;> ((repeat rw [cell_put (by omega)]); go_keep)))
          (first
          | (go_at_call 45; refine (pick_src (w0 := w0) (wa := w) (code := code) [0, 0, 1, 1, 2] #[.int .i64 0, .int .i64 0, .int .i64 1, .int .i64 1, .int .i64 2] (by repeat (first | (with_reducible assumption) | (with_reducible refine Kpt.drew ?_) | (with_reducible refine Kpt.drewN ?_) | (with_reducible refine Kpt.alloc ?_) | ((with_reducible refine Kpt.put ?_ ?_ ?_); (· omega); (· omega)))) (by repeat (first | (with_reducible assumption) | ((with_reducible refine Blk.new ?_); · first | omega | (simp; done) | (simp; omega)) | (with_reducible apply Blk.set4) | (with_reducible apply Blk.set3) | (with_reducible apply Blk.set2) | ((with_reducible refine Blk.put ?_ ?_); · first | omega | (simp; omega)) | (with_reducible refine Blk.old ?_) | (with_reducible refine Blk.drew ?_) | (with_reducible refine Blk.drewN ?_) | ((with_reducible refine Blk.below hb ?_ ?_); · first | omega | (simp; done) | (simp; omega)) | ((with_reducible refine Blk.keep kk ?_ ?_); · first | omega | (simp; done) | (simp; omega)))) rfl (by simp) (by simp [maxLen]) 5 rfl).mono ?_; rintro e w4 ⟨i, rfl, hi, kp⟩; have K4 : Kpt w0 w w4 g code := Kpt.step (by repeat (first | (with_reducible assumption) | (with_reducible refine Kpt.drew ?_) | (with_reducible refine Kpt.drewN ?_) | (with_reducible refine Kpt.alloc ?_) | ((with_reducible refine Kpt.put ?_ ?_ ?_); (· omega); (· omega)))) kp; have kk := kp.2.2; have s4 := kp.size; (try simp at s4); have E0 : Blk w4 w.heap.size 36 (tcs ⟨0, 0, 0⟩) := (by repeat (first | (with_reducible assumption) | ((with_reducible refine Blk.new ?_); · first | omega | (simp; done) | (simp; omega)) | (with_reducible apply Blk.set4) | (with_reducible apply Blk.set3) | (with_reducible apply Blk.set2) | ((with_reducible refine Blk.put ?_ ?_); · first | omega | (simp; omega)) | (with_reducible refine Blk.old ?_) | (with_reducible refine Blk.drew ?_) | (with_reducible refine Blk.drewN ?_) | ((with_reducible refine Blk.below hb ?_ ?_); · first | omega | (simp; done) | (simp; omega)) | ((with_reducible refine Blk.keep kk ?_ ?_); · first | omega | (simp; done) | (simp; omega)))); have E1 : Blk w4 (w.heap.size + 1) 36 (tcs t) := (by repeat (first | (with_reducible assumption) | ((with_reducible refine Blk.new ?_); · first | omega | (simp; done) | (simp; omega)) | (with_reducible apply Blk.set4) | (with_reducible apply Blk.set3) | (with_reducible apply Blk.set2) | ((with_reducible refine Blk.put ?_ ?_); · first | omega | (simp; omega)) | (with_reducible refine Blk.old ?_) | (with_reducible refine Blk.drew ?_) | (with_reducible refine Blk.drewN ?_) | ((with_reducible refine Blk.below hb ?_ ?_); · first | omega | (simp; done) | (simp; omega)) | ((with_reducible refine Blk.keep kk ?_ ?_); · first | omega | (simp; done) | (simp; omega)))); (try have E5 : Blk w4 wr.heap.size 36 (tcs ⟨0, 0, 0⟩) := (by (repeat (first | (with_reducible assumption) | ((with_reducible refine Blk.new ?_); · first | omega | (simp; done) | (simp; omega)) | (with_reducible apply Blk.set4) | (with_reducible apply Blk.set3) | (with_reducible apply Blk.set2) | ((with_reducible refine Blk.put ?_ ?_); · first | omega | (simp; omega)) | (with_reducible refine Blk.old ?_) | (with_reducible refine Blk.drew ?_) | (with_reducible refine Blk.drewN ?_) | ((with_reducible refine Blk.below hb ?_ ?_); · first | omega | (simp; done) | (simp; omega)) | ((with_reducible refine Blk.keep kk ?_ ?_); · first | omega | (simp; done) | (simp; omega)))); first | done | fail)); (try have E6 : Blk w4 (wr.heap.size + 1) 36 (tcs ⟨0, 0, 0⟩) := (by (repeat (first | (with_reducible assumption) | ((with_reducible refine Blk.new ?_); · first | omega | (simp; done) | (simp; omega)) | (with_reducible apply Blk.set4) | (with_reducible apply Blk.set3) | (with_reducible apply Blk.set2) | ((with_reducible refine Blk.put ?_ ?_); · first | omega | (simp; omega)) | (with_reducible refine Blk.old ?_) | (with_reducible refine Blk.drew ?_) | (with_reducible refine Blk.drewN ?_) | ((with_reducible refine Blk.below hb ?_ ?_); · first | omega | (simp; done) | (simp; omega)) | ((with_reducible refine Blk.keep kk ?_ ?_); · first | omega | (simp; done) | (simp; omega)))); first | done | fail)); have hi := i012L hi; clear kp kk; have e1 := E1.t; have m0 := E0.lt; have m1 := E1.lt; (try have m5 := E5.lt); (try have m6 := E6.lt); (try have e5 := E5.tf); (try have e6 := E6.tf); (try have g5 := E5.t); (try have g6 := E6.t))
          | (go_at_call 42; refine (l09Neighbour_any t i _ hs hi).mono ?_; rintro e w5 ⟨rfl, hb⟩; have K5 : Kpt w0 w w5 g code := Kpt.below hb (by repeat (first | (with_reducible assumption) | (with_reducible refine Kpt.drew ?_) | (with_reducible refine Kpt.drewN ?_) | (with_reducible refine Kpt.alloc ?_) | ((with_reducible refine Kpt.put ?_ ?_ ?_); (· omega); (· omega)))); have s5 := hb.size; (try simp at s5); have F0 : Blk w5 w.heap.size 36 (tcs ⟨0, 0, 0⟩) := (by repeat (first | (with_reducible assumption) | ((with_reducible refine Blk.new ?_); · first | omega | (simp; done) | (simp; omega)) | (with_reducible apply Blk.set4) | (with_reducible apply Blk.set3) | (with_reducible apply Blk.set2) | ((with_reducible refine Blk.put ?_ ?_); · first | omega | (simp; omega)) | (with_reducible refine Blk.old ?_) | (with_reducible refine Blk.drew ?_) | (with_reducible refine Blk.drewN ?_) | ((with_reducible refine Blk.below hb ?_ ?_); · first | omega | (simp; done) | (simp; omega)) | ((with_reducible refine Blk.keep kk ?_ ?_); · first | omega | (simp; done) | (simp; omega)))); have F1 : Blk w5 (w.heap.size + 1) 36 (tcs t) := (by repeat (first | (with_reducible assumption) | ((with_reducible refine Blk.new ?_); · first | omega | (simp; done) | (simp; omega)) | (with_reducible apply Blk.set4) | (with_reducible apply Blk.set3) | (with_reducible apply Blk.set2) | ((with_reducible refine Blk.put ?_ ?_); · first | omega | (simp; omega)) | (with_reducible refine Blk.old ?_) | (with_reducible refine Blk.drew ?_) | (with_reducible refine Blk.drewN ?_) | ((with_reducible refine Blk.below hb ?_ ?_); · first | omega | (simp; done) | (simp; omega)) | ((with_reducible refine Blk.keep kk ?_ ?_); · first | omega | (simp; done) | (simp; omega)))); (try have F5 : Blk w5 wr.heap.size 36 (tcs ⟨0, 0, 0⟩) := (by (repeat (first | (with_reducible assumption) | ((with_reducible refine Blk.new ?_); · first | omega | (simp; done) | (simp; omega)) | (with_reducible apply Blk.set4) | (with_reducible apply Blk.set3) | (with_reducible apply Blk.set2) | ((with_reducible refine Blk.put ?_ ?_); · first | omega | (simp; omega)) | (with_reducible refine Blk.old ?_) | (with_reducible refine Blk.drew ?_) | (with_reducible refine Blk.drewN ?_) | ((with_reducible refine Blk.below hb ?_ ?_); · first | omega | (simp; done) | (simp; omega)) | ((with_reducible refine Blk.keep kk ?_ ?_); · first | omega | (simp; done) | (simp; omega)))); first | done | fail)); (try have F6 : Blk w5 (wr.heap.size + 1) 36 (tcs ⟨0, 0, 0⟩) := (by (repeat (first | (with_reducible assumption) | ((with_reducible refine Blk.new ?_); · first | omega | (simp; done) | (simp; omega)) | (with_reducible apply Blk.set4) | (with_reducible apply Blk.set3) | (with_reducible apply Blk.set2) | ((with_reducible refine Blk.put ?_ ?_); · first | omega | (simp; omega)) | (with_reducible refine Blk.old ?_) | (with_reducible refine Blk.drew ?_) | (with_reducible refine Blk.drewN ?_) | ((with_reducible refine Blk.below hb ?_ ?_); · first | omega | (simp; done) | (simp; omega)) | ((with_reducible refine Blk.keep kk ?_ ?_); · first | omega | (simp; done) | (simp; omega)))); first | done | fail)); (try have F7 : Blk w5 w4.heap.size 36 (tcs ⟨0, 0, 0⟩) := (by (repeat (first | (with_reducible assumption) | ((with_reducible refine Blk.new ?_); · first | omega | (simp; done) | (simp; omega)) | (with_reducible apply Blk.set4) | (with_reducible apply Blk.set3) | (with_reducible apply Blk.set2) | ((with_reducible refine Blk.put ?_ ?_); · first | omega | (simp; omega)) | (with_reducible refine Blk.old ?_) | (with_reducible refine Blk.drew ?_) | (with_reducible refine Blk.drewN ?_) | ((with_reducible refine Blk.below hb ?_ ?_); · first | omega | (simp; done) | (simp; omega)) | ((with_reducible refine Blk.keep kk ?_ ?_); · first | omega | (simp; done) | (simp; omega)))); first | done | fail)); clear hb; have r1 := F1.t; have n0 := F0.lt; have n1 := F1.lt; (try have n5 := F5.lt); (try have n6 := F6.lt); (try have n7 := F7.lt); (try have r5 := F5.tf); (try have r6 := F6.tf); (try have r7 := F7.tf); (try have v5 := F5.t); (try have v6 := F6.t); (try have v7 := F7.t)))
        all_goals go_wp2_with fail
        all_goals go_meet
        all_goals exact ⟨i, _, rfl, hi, (by repeat (first | (with_reducible assumption) | ((with_reducible refine Blk.new ?_); · first | omega | (simp; done) | (simp; omega)) | (with_reducible apply Blk.set4) | (with_reducible apply Blk.set3) | (with_reducible apply Blk.set2) | ((with_reducible refine Blk.put ?_ ?_); · first | omega | (simp; omega)) | (with_reducible refine Blk.old ?_) | (with_reducible refine Blk.drew ?_) | (with_reducible refine Blk.drewN ?_) | ((with_reducible refine Blk.below hb ?_ ?_); · first | omega | (simp; done) | (simp; omega)) | ((with_reducible refine Blk.keep kk ?_ ?_); · first | omega | (simp; done) | (simp; omega)))), by omega, (by repeat (first | (with_reducible assumption) | ((with_reducible refine Blk.new ?_); · first | omega | (simp; done) | (simp; omega)) | (with_reducible apply Blk.set4) | (with_reducible apply Blk.set3) | (with_reducible apply Blk.set2) | ((with_reducible refine Blk.put ?_ ?_); · first | omega | (simp; omega)) | (with_reducible refine Blk.old ?_) | (with_reducible refine Blk.drew ?_) | (with_reducible refine Blk.drewN ?_) | ((with_reducible refine Blk.below hb ?_ ?_); · first | omega | (simp; done) | (simp; omega)) | ((with_reducible refine Blk.keep kk ?_ ?_); · first | omega | (simp; done) | (simp; omega)))), (by repeat (first | (with_reducible assumption) | ((with_reducible refine Blk.new ?_); · first | omega | (simp; done) | (simp; omega)) | (with_reducible apply Blk.set4) | (with_reducible apply Blk.set3) | (with_reducible apply Blk.set2) | ((with_reducible refine Blk.put ?_ ?_); · first | omega | (simp; omega)) | (with_reducible refine Blk.old ?_) | (with_reducible refine Blk.drew ?_) | (with_reducible refine Blk.drewN ?_) | ((with_reducible refine Blk.below hb ?_ ?_); · first | omega | (simp; done) | (simp; omega)) | ((with_reducible refine Blk.keep kk ?_ ?_); · first | omega | (simp; done) | (simp; omega)))), (by repeat (first | (with_reducible assumption) | (with_reducible refine Kpt.drew ?_) | (with_reducible refine Kpt.drewN ?_) | (with_reducible refine Kpt.alloc ?_) | ((with_reducible refine Kpt.put ?_ ?_ ?_); (· omega); (· omega))))⟩
      case rest =>
        obtain ⟨i, b, rfl, hi, C5, hb5, C0, C1, K3⟩ := hcut
        have HN := Lib.hid (fun h => nb_okI ht hi h)
        generalize t.nb i = nx at *
        have s3 := K3.size
        clear B0 B1 K2 q0 q1 f0 l0 l1 s2 hs
        have q0 := C0.t
        have f0 := C0.tf
        have q1 := C1.t
        have f1 := C1.tf
        have q5 := C5.t
        have f5 := C5.tf
        have l0 := C0.lt
        have l1 := C1.lt
        have l5 := C5.lt
        by_cases hn : nx.z ≤ 1000000000
        · go_wp2
          exact ⟨⟨j - 1, nx, rfl, HN.out hn, (by repeat (first | (with_reducible assumption) | ((with_reducible refine Blk.new ?_); · first | omega | (simp; done) | (simp; omega)) | (with_reducible apply Blk.set4) | (with_reducible apply Blk.set3) | (with_reducible apply Blk.set2) | ((with_reducible refine Blk.put ?_ ?_); · first | omega | (simp; omega)) | (with_reducible refine Blk.old ?_) | (with_reducible refine Blk.drew ?_) | (with_reducible refine Blk.drewN ?_) | ((with_reducible refine Blk.below hb ?_ ?_); · first | omega | (simp; done) | (simp; omega)) | ((with_reducible refine Blk.keep kk ?_ ?_); · first | omega | (simp; done) | (simp; omega)))), (by repeat (first | (with_reducible assumption) | ((with_reducible refine Blk.new ?_); · first | omega | (simp; done) | (simp; omega)) | (with_reducible apply Blk.set4) | (with_reducible apply Blk.set3) | (with_reducible apply Blk.set2) | ((with_reducible refine Blk.put ?_ ?_); · first | omega | (simp; omega)) | (with_reducible refine Blk.old ?_) | (with_reducible refine Blk.drew ?_) | (with_reducible refine Blk.drewN ?_) | ((with_reducible refine Blk.below hb ?_ ?_); · first | omega | (simp; done) | (simp; omega)) | ((with_reducible refine Blk.keep kk ?_ ?_); · first | omega | (simp; done) | (simp; omega)))), (by repeat (first | (with_reducible assumption) | (with_reducible refine Kpt.drew ?_) | (with_reducible refine Kpt.drewN ?_) | (with_reducible refine Kpt.alloc ?_) | ((with_reducible refine Kpt.put ?_ ?_ ?_); (· omega); (· omega)))), by omega⟩, by simp only [intOf]; omega⟩
        · go_wp2
          refine ret_at (v := tv t) (fun w' => Blk w' (w.heap.size) 36 (tcs t)) (by repeat (first | (with_reducible assumption) | ((with_reducible refine Blk.new ?_); · first | omega | (simp; done) | (simp; omega)) | (with_reducible apply Blk.set4) | (with_reducible apply Blk.set3) | (with_reducible apply Blk.set2) | ((with_reducible refine Blk.put ?_ ?_); · first | omega | (simp; omega)) | (with_reducible refine Blk.old ?_) | (with_reducible refine Blk.drew ?_) | (with_reducible refine Blk.drewN ?_) | ((with_reducible refine Blk.below hb ?_ ?_); · first | omega | (simp; done) | (simp; omega)) | ((with_reducible refine Blk.keep kk ?_ ?_); · first | omega | (simp; done) | (simp; omega)))) (fun w' hB => by have q := hB.t; simp [results, Try.results38, go_sem, q]) rfl ?_
          exact ⟨t, rfl, ht, (by repeat (first | (with_reducible assumption) | (with_reducible refine Kpt.drew ?_) | (with_reducible refine Kpt.drewN ?_) | (with_reducible refine Kpt.alloc ?_) | ((with_reducible refine Kpt.put ?_ ?_ ?_); (· omega); (· omega))))⟩
    · go_wp2
      refine ret_at (v := tv t) (fun w' => Blk w' (w.heap.size) 36 (tcs t)) (by repeat (first | (with_reducible assumption) | ((with_reducible refine Blk.new ?_); · first | omega | (simp; done) | (simp; omega)) | (with_reducible apply Blk.set4) | (with_reducible apply Blk.set3) | (with_reducible apply Blk.set2) | ((with_reducible refine Blk.put ?_ ?_); · first | omega | (simp; omega)) | (with_reducible refine Blk.old ?_) | (with_reducible refine Blk.drew ?_) | (with_reducible refine Blk.drewN ?_) | ((with_reducible refine Blk.below hb ?_ ?_); · first | omega | (simp; done) | (simp; omega)) | ((with_reducible refine Blk.keep kk ?_ ?_); · first | omega | (simp; done) | (simp; omega)))) (fun w' hB => by have q := hB.t; simp [results, Try.results38, go_sem, q]) rfl ?_
      exact ⟨t, rfl, ht, (by repeat (first | (with_reducible assumption) | (with_reducible refine Kpt.drew ?_) | (with_reducible refine Kpt.drewN ?_) | (with_reducible refine Kpt.alloc ?_) | ((with_reducible refine Kpt.put ?_ ?_ ?_); (· omega); (· omega))))⟩

end Go.Proofs.Ytbmkpcenjjdflaa

/- Triples drawn, seldom something else. -/
namespace Go.Proofs.Ytbmkpcenjjdflaa
open Go.RowKit
set_option linter.unusedSimpArgs false
set_option maxHeartbeats 2000000 in
theorem l09Bad_any {w0 w : World} {g : Nat} {code : List Int} (t : T3) (hK : Kpt w0 w w g code) :
    Calls Try.prog 37 #[.pointer (some ⟨g, 0, none⟩), .agg #[.int .i64 t.x, .int .i64 t.y, .int .i64 t.z]] w fun e w' => ∃ u : T3, e = .returned (tv u) ∧ Kpt w0 w w' g code := by
  have hg := hK.1.lt
  go_enter Try.func37, Try.ntmps37
  go_wp2_with fail
  refine (next_src (w0 := w0) (wa := w) (code := code) 24 (by repeat (first | (with_reducible assumption) | (with_reducible refine Kpt.drew ?_) | (with_reducible refine Kpt.drewN ?_) | (with_reducible refine Kpt.alloc ?_) | ((with_reducible refine Kpt.put ?_ ?_ ?_); (· omega); (· omega)))) (by decide)).mono ?_
  rintro e w1 ⟨k, rfl, hk, kp⟩
  have K1 : Kpt w0 w w1 g code := Kpt.step (by repeat (first | (with_reducible assumption) | (with_reducible refine Kpt.drew ?_) | (with_reducible refine Kpt.drewN ?_) | (with_reducible refine Kpt.alloc ?_) | ((with_reducible refine Kpt.put ?_ ?_ ?_); (· omega); (· omega)))) kp
  have kk := kp.2.2
  have s1 := kp.size
  simp at s1
  have A0 : Blk w1 w.heap.size 36 (tcs t) := (by repeat (first | (with_reducible assumption) | ((with_reducible refine Blk.new ?_); · first | omega | (simp; done) | (simp; omega)) | (with_reducible apply Blk.set4) | (with_reducible apply Blk.set3) | (with_reducible apply Blk.set2) | ((with_reducible refine Blk.put ?_ ?_); · first | omega | (simp; omega)) | (with_reducible refine Blk.old ?_) | (with_reducible refine Blk.drew ?_) | (with_reducible refine Blk.drewN ?_) | ((with_reducible refine Blk.below hb ?_ ?_); · first | omega | (simp; done) | (simp; omega)) | ((with_reducible refine Blk.keep kk ?_ ?_); · first | omega | (simp; done) | (simp; omega))))
  have A1 : Blk w1 (w.heap.size + 1) 36 (tcs ⟨0, 0, 0⟩) := (by repeat (first | (with_reducible assumption) | ((with_reducible refine Blk.new ?_); · first | omega | (simp; done) | (simp; omega)) | (with_reducible apply Blk.set4) | (with_reducible apply Blk.set3) | (with_reducible apply Blk.set2) | ((with_reducible refine Blk.put ?_ ?_); · first | omega | (simp; omega)) | (with_reducible refine Blk.old ?_) | (with_reducible refine Blk.drew ?_) | (with_reducible refine Blk.drewN ?_) | ((with_reducible refine Blk.below hb ?_ ?_); · first | omega | (simp; done) | (simp; omega)) | ((with_reducible refine Blk.keep kk ?_ ?_); · first | omega | (simp; done) | (simp; omega))))
  clear kp kk hK
  have q0 := A0.t
  have f0 := A0.tf
  have q1 := A1.t
  have f1 := A1.tf
  have l0 := A0.lt
  have l1 := A1.lt
  by_cases h0 : k = 0
  · subst h0
    go_wp2_with fail
    refine (next_src (w0 := w0) (wa := w) (code := code) 3 (by repeat (first | (with_reducible assumption) | (with_reducible refine Kpt.drew ?_) | (with_reducible refine Kpt.drewN ?_) | (with_reducible refine Kpt.alloc ?_) | ((with_reducible refine Kpt.put ?_ ?_ ?_); (· omega); (· omega)))) (by decide)).mono ?_
    rintro e w2 ⟨r, rfl, hr, kp⟩
    have K2 : Kpt w0 w w2 g code := Kpt.step (by repeat (first | (with_reducible assumption) | (with_reducible refine Kpt.drew ?_) | (with_reducible refine Kpt.drewN ?_) | (with_reducible refine Kpt.alloc ?_) | ((with_reducible refine Kpt.put ?_ ?_ ?_); (· omega); (· omega)))) kp
    have kk := kp.2.2
    have s2 := kp.size
    have B0 : Blk w2 w.heap.size 36 (tcs t) := (by repeat (first | (with_reducible assumption) | ((with_reducible refine Blk.new ?_); · first | omega | (simp; done) | (simp; omega)) | (with_reducible apply Blk.set4) | (with_reducible apply Blk.set3) | (with_reducible apply Blk.set2) | ((with_reducible refine Blk.put ?_ ?_); · first | omega | (simp; omega)) | (with_reducible refine Blk.old ?_) | (with_reducible refine Blk.drew ?_) | (with_reducible refine Blk.drewN ?_) | ((with_reducible refine Blk.below hb ?_ ?_); · first | omega | (simp; done) | (simp; omega)) | ((with_reducible refine Blk.keep kk ?_ ?_); · first | omega | (simp; done) | (simp; omega))))
    have B1 : Blk w2 (w.heap.size + 1) 36 (tcs ⟨0, 0, 0⟩) := (by repeat (first | (with_reducible assumption) | ((with_reducible refine Blk.new ?_); · first | omega | (simp; done) | (simp; omega)) | (with_reducible apply Blk.set4) | (with_reducible apply Blk.set3) | (with_reducible apply Blk.set2) | ((with_reducible refine Blk.put ?_ ?_); · first | omega | (simp; omega)) | (with_reducible refine Blk.old ?_) | (with_reducible refine Blk.drew ?_) | (with_reducible refine Blk.drewN ?_) | ((with_reducible refine Blk.below hb ?_ ?_); · first | omega | (simp; done) | (simp; omega)) | ((with_reducible refine Blk.keep kk ?_ ?_); · first | omega | (simp; done) | (simp; omega))))
    clear kp kk q0 f0 q1 f1 l0 l1 A0 A1 K1
    go_wp2_with fail
    refine (pick_src (w0 := w0) (wa := w) (code := code) [0, 1, 2, -1, 1099511627776, 4611686018427387904] #[.int .i64 0, .int .i64 1, .int .i64 2, .int .i64 (-1), .int .i64 1099511627776, .int .i64 4611686018427387904] (by repeat (first | (with_reducible assumption) | (with_reducible refine Kpt.drew ?_) | (with_reducible refine Kpt.drewN ?_) | (with_reducible refine Kpt.alloc ?_) | ((with_reducible refine Kpt.put ?_ ?_ ?_); (· omega); (· omega)))) (by repeat (first | (with_reducible assumption) | ((with_reducible refine Blk.new ?_); · first | omega | (simp; done) | (simp; omega)) | (with_reducible apply Blk.set4) | (with_reducible apply Blk.set3) | (with_reducible apply Blk.set2) | ((with_reducible refine Blk.put ?_ ?_); · first | omega | (simp; omega)) | (with_reducible refine Blk.old ?_) | (with_reducible refine Blk.drew ?_) | (with_reducible refine Blk.drewN ?_) | ((with_reducible refine Blk.below hb ?_ ?_); · first | omega | (simp; done) | (simp; omega)) | ((with_reducible refine Blk.keep kk ?_ ?_); · first | omega | (simp; done) | (simp; omega)))) rfl (by simp) (by simp [maxLen]) 6 rfl).mono ?_
    rintro e w3 ⟨x, rfl, -, kp⟩
    have K3 : Kpt w0 w w3 g code := Kpt.step (by repeat (first | (with_reducible assumption) | (with_reducible refine Kpt.drew ?_) | (with_reducible refine Kpt.drewN ?_) | (with_reducible refine Kpt.alloc ?_) | ((with_reducible refine Kpt.put ?_ ?_ ?_); (· omega); (· omega)))) kp
    have kk := kp.2.2
    have s3 := kp.size
    simp at s3
    have C0 : Blk w3 w.heap.size 36 (tcs t) := (by repeat (first | (with_reducible assumption) | ((with_reducible refine Blk.new ?_); · first | omega | (simp; done) | (simp; omega)) | (with_reducible apply Blk.set4) | (with_reducible apply Blk.set3) | (with_reducible apply Blk.set2) | ((with_reducible refine Blk.put ?_ ?_); · first | omega | (simp; omega)) | (with_reducible refine Blk.old ?_) | (with_reducible refine Blk.drew ?_) | (with_reducible refine Blk.drewN ?_) | ((with_reducible refine Blk.below hb ?_ ?_); · first | omega | (simp; done) | (simp; omega)) | ((with_reducible refine Blk.keep kk ?_ ?_); · first | omega | (simp; done) | (simp; omega))))
    have C1 : Blk w3 (w.heap.size + 1) 36 (tcs ⟨0, 0, 0⟩) := (by repeat (first | (with_reducible assumption) | ((with_reducible refine Blk.new ?_); · first | omega | (simp; done) | (simp; omega)) | (with_reducible apply Blk.set4) | (with_reducible apply Blk.set3) | (with_reducible apply Blk.set2) | ((with_reducible refine Blk.put ?_ ?_); · first | omega | (simp; omega)) | (with_reducible refine Blk.old ?_) | (with_reducible refine Blk.drew ?_) | (with_reducible refine Blk.drewN ?_) | ((with_reducible refine Blk.below hb ?_ ?_); · first | omega | (simp; done) | (simp; omega)) | ((with_reducible refine Blk.keep kk ?_ ?_); · first | omega | (simp; done) | (simp; omega))))
    clear kp kk B0 B1 K2
    have q0 := C0.t
    have f0 := C0.tf
    have q1 := C1.t
    have f1 := C1.tf
    have l0 := C0.lt
    have l1 := C1.lt
    rcases (show r = 0 ∨ r = 1 ∨ r = 2 by omega) with rfl | rfl | rfl
    · have D0 : Blk (w3.setCell ⟨w.heap.size, 0, none⟩ (.int .i64 x)) w.heap.size 36 (tcs ⟨x, t.y, t.z⟩) := C0.set
      go_wp2
      refine ret_at (v := tv ⟨x, t.y, t.z⟩) (fun w' => Blk w' (w.heap.size + 1) 36 (tcs ⟨x, t.y, t.z⟩)) (by repeat (first | (with_reducible assumption) | ((with_reducible refine Blk.new ?_); · first | omega | (simp; done) | (simp; omega)) | (with_reducible apply Blk.set4) | (with_reducible apply Blk.set3) | (with_reducible apply Blk.set2) | ((with_reducible refine Blk.put ?_ ?_); · first | omega | (simp; omega)) | (with_reducible refine Blk.old ?_) | (with_reducible refine Blk.drew ?_) | (with_reducible refine Blk.drewN ?_) | ((with_reducible refine Blk.below hb ?_ ?_); · first | omega | (simp; done) | (simp; omega)) | ((with_reducible refine Blk.keep kk ?_ ?_); · first | omega | (simp; done) | (simp; omega)))) (fun w' hB => by have q := hB.t; simp [results, Try.results37, go_sem, q]) rfl ?_
      exact ⟨_, rfl, (by repeat (first | (with_reducible assumption) | (with_reducible refine Kpt.drew ?_) | (with_reducible refine Kpt.drewN ?_) | (with_reducible refine Kpt.alloc ?_) | ((with_reducible refine Kpt.put ?_ ?_ ?_); (· omega); (· omega))))⟩
    · have D0 : Blk (w3.setCell ⟨w.heap.size, 1, none⟩ (.int .i64 x)) w.heap.size 36 (tcs ⟨t.x, x, t.z⟩) := C0.set
      go_wp2
      refine ret_at (v := tv ⟨t.x, x, t.z⟩) (fun w' => Blk w' (w.heap.size + 1) 36 (tcs ⟨t.x, x, t.z⟩)) (by repeat (first | (with_reducible assumption) | ((with_reducible refine Blk.new ?_); · first | omega | (simp; done) | (simp; omega)) | (with_reducible apply Blk.set4) | (with_reducible apply Blk.set3) | (with_reducible apply Blk.set2) | ((with_reducible refine Blk.put ?_ ?_); · first | omega | (simp; omega)) | (with_reducible refine Blk.old ?_) | (with_reducible refine Blk.drew ?_) | (with_reducible refine Blk.drewN ?_) | ((with_reducible refine Blk.below hb ?_ ?_); · first | omega | (simp; done) | (simp; omega)) | ((with_reducible refine Blk.keep kk ?_ ?_); · first | omega | (simp; done) | (simp; omega)))) (fun w' hB => by have q := hB.t; simp [results, Try.results37, go_sem, q]) rfl ?_
      exact ⟨_, rfl, (by repeat (first | (with_reducible assumption) | (with_reducible refine Kpt.drew ?_) | (with_reducible refine Kpt.drewN ?_) | (with_reducible refine Kpt.alloc ?_) | ((with_reducible refine Kpt.put ?_ ?_ ?_); (· omega); (· omega))))⟩
    · have D0 : Blk (w3.setCell ⟨w.heap.size, 2, none⟩ (.int .i64 x)) w.heap.size 36 (tcs ⟨t.x, t.y, x⟩) := C0.set
      go_wp2
      refine ret_at (v := tv ⟨t.x, t.y, x⟩) (fun w' => Blk w' (w.heap.size + 1) 36 (tcs ⟨t.x, t.y, x⟩)) (by repeat (first | (with_reducible assumption) | ((with_reducible refine Blk.new ?_); · first | omega | (simp; done) | (simp; omega)) | (with_reducible apply Blk.set4) | (with_reducible apply Blk.set3) | (with_reducible apply Blk.set2) | ((with_reducible refine Blk.put ?_ ?_); · first | omega | (simp; omega)) | (with_reducible refine Blk.old ?_) | (with_reducible refine Blk.drew ?_) | (with_reducible refine Blk.drewN ?_) | ((with_reducible refine Blk.below hb ?_ ?_); · first | omega | (simp; done) | (simp; omega)) | ((with_reducible refine Blk.keep kk ?_ ?_); · first | omega | (simp; done) | (simp; omega)))) (fun w' hB => by have q := hB.t; simp [results, Try.results37, go_sem, q]) rfl ?_
      exact ⟨_, rfl, (by repeat (first | (with_reducible assumption) | (with_reducible refine Kpt.drew ?_) | (with_reducible refine Kpt.drewN ?_) | (with_reducible refine Kpt.alloc ?_) | ((with_reducible refine Kpt.put ?_ ?_ ?_); (· omega); (· omega))))⟩
  · by_cases h1 : k = 1
    · subst h1
      go_wp2
      refine ret_at (v := tv ⟨t.y, t.x, t.z⟩) (fun w' => Blk w' (w.heap.size + 1) 36 (tcs ⟨t.y, t.x, t.z⟩)) (by repeat (first | (with_reducible assumption) | ((with_reducible refine Blk.new ?_); · first | omega | (simp; done) | (simp; omega)) | (with_reducible apply Blk.set4) | (with_reducible apply Blk.set3) | (with_reducible apply Blk.set2) | ((with_reducible refine Blk.put ?_ ?_); · first | omega | (simp; omega)) | (with_reducible refine Blk.old ?_) | (with_reducible refine Blk.drew ?_) | (with_reducible refine Blk.drewN ?_) | ((with_reducible refine Blk.below hb ?_ ?_); · first | omega | (simp; done) | (simp; omega)) | ((with_reducible refine Blk.keep kk ?_ ?_); · first | omega | (simp; done) | (simp; omega)))) (fun w' hB => by have q := hB.t; simp [results, Try.results37, go_sem, q]) rfl ?_
      exact ⟨_, rfl, (by repeat (first | (with_reducible assumption) | (with_reducible refine Kpt.drew ?_) | (with_reducible refine Kpt.drewN ?_) | (with_reducible refine Kpt.alloc ?_) | ((with_reducible refine Kpt.put ?_ ?_ ?_); (· omega); (· omega))))⟩
    · go_wp2
      refine ret_at (v := tv t) (fun w' => Blk w' (w.heap.size + 1) 36 (tcs t)) (by repeat (first | (with_reducible assumption) | ((with_reducible refine Blk.new ?_); · first | omega | (simp; done) | (simp; omega)) | (with_reducible apply Blk.set4) | (with_reducible apply Blk.set3) | (with_reducible apply Blk.set2) | ((with_reducible refine Blk.put ?_ ?_); · first | omega | (simp; omega)) | (with_reducible refine Blk.old ?_) | (with_reducible refine Blk.drew ?_) | (with_reducible refine Blk.drewN ?_) | ((with_reducible refine Blk.below hb ?_ ?_); · first | omega | (simp; done) | (simp; omega)) | ((with_reducible refine Blk.keep kk ?_ ?_); · first | omega | (simp; done) | (simp; omega)))) (fun w' hB => by have q := hB.t; simp [results, Try.results37, go_sem, q]) rfl ?_
      exact ⟨_, rfl, (by repeat (first | (with_reducible assumption) | (with_reducible refine Kpt.drew ?_) | (with_reducible refine Kpt.drewN ?_) | (with_reducible refine Kpt.alloc ?_) | ((with_reducible refine Kpt.put ?_ ?_ ?_); (· omega); (· omega))))⟩

/-- A triple or something else, out of a code. -/
theorem l09Spoil_any {w : World} {v : Value} {code : List Int} (hc : CodeOk code) (hv : SlIn w .u8 v code) :
    Calls Try.prog 43 #[v] w fun e w' => ∃ u : T3, e = .returned (tv u) ∧ Below w.heap.size w w' := by
  go_enter Try.func43, Try.ntmps43
  go_wp2_with fail
  refine (from_src hc hv.alloc).mono ?_
  rintro e w1 ⟨g, rfl, hS, kB⟩
  have K0 := Kpt.refl hS kB
  have hg := hS.lt
  clear kB hS
  go_wp2_with fail
  refine (l09Draw_any K0.1 K0.2.1).mono ?_
  rintro e w2 ⟨t, rfl, -, kp⟩
  have K2 := Kpt.refl kp.1 kp.2.1
  clear kp K0
  go_wp2_with fail
  refine (l09Bad_any t K2).mono ?_
  rintro e w3 ⟨u, rfl, kp⟩
  have hb := kp.2.1
  have hbs := hb.size
  simp at hbs
  have B0 : Blk w3 w.heap.size 36 (tcs ⟨0, 0, 0⟩) := (by repeat (first | (with_reducible assumption) | ((with_reducible refine Blk.new ?_); · first | omega | (simp; done) | (simp; omega)) | (with_reducible apply Blk.set4) | (with_reducible apply Blk.set3) | (with_reducible apply Blk.set2) | ((with_reducible refine Blk.put ?_ ?_); · first | omega | (simp; omega)) | (with_reducible refine Blk.old ?_) | (with_reducible refine Blk.drew ?_) | (with_reducible refine Blk.drewN ?_) | ((with_reducible refine Blk.below hb ?_ ?_); · first | omega | (simp; done) | (simp; omega)) | ((with_reducible refine Blk.keep kk ?_ ?_); · first | omega | (simp; done) | (simp; omega))))
  have k3 : Below w.heap.size w w3 := (by repeat (first | (with_reducible exact Below.refl _ _) | (with_reducible assumption) | (with_reducible refine Below.drew ?_) | (with_reducible refine Below.drewN ?_) | ((with_reducible refine Below.al ?_ ?_); · first | omega | (simp; done) | (simp; omega)) | ((with_reducible refine Below.sc ?_ ?_); · first | omega | (simp; done) | (simp; omega)) | ((with_reducible refine Below.thru hb ?_ ?_); · first | omega | (simp; done) | (simp; omega))))
  clear kp K2 hb
  have q0 := B0.t
  have f0 := B0.tf
  go_wp2
  refine ret_at (v := tv u) (fun w' => Blk w' (w.heap.size) 36 (tcs u)) (by repeat (first | (with_reducible assumption) | ((with_reducible refine Blk.new ?_); · first | omega | (simp; done) | (simp; omega)) | (with_reducible apply Blk.set4) | (with_reducible apply Blk.set3) | (with_reducible apply Blk.set2) | ((with_reducible refine Blk.put ?_ ?_); · first | omega | (simp; omega)) | (with_reducible refine Blk.old ?_) | (with_reducible refine Blk.drew ?_) | (with_reducible refine Blk.drewN ?_) | ((with_reducible refine Blk.below hb ?_ ?_); · first | omega | (simp; done) | (simp; omega)) | ((with_reducible refine Blk.keep kk ?_ ?_); · first | omega | (simp; done) | (simp; omega)))) (fun w' hB => by have q := hB.t; simp [results, Try.results43, go_sem, q]) rfl ?_
  exact ⟨_, rfl, (by repeat (first | (with_reducible exact Below.refl _ _) | (with_reducible assumption) | (with_reducible refine Below.drew ?_) | (with_reducible refine Below.drewN ?_) | ((with_reducible refine Below.al ?_ ?_); · first | omega | (simp; done) | (simp; omega)) | ((with_reducible refine Below.sc ?_ ?_); · first | omega | (simp; done) | (simp; omega)) | ((with_reducible refine Below.thru hb ?_ ?_); · first | omega | (simp; done) | (simp; omega))))⟩
/-- The triple that the way down starts from. -/
theorem drawDown_any {w : World} {v : Value} {code : List Int} (hc : CodeOk code) (hv : SlIn w .u8 v code) :
    Calls Try.prog 22 #[v] w fun e w' => ∃ u : T3, e = .returned (tv u) ∧ Below w.heap.size w w' := by
  go_enter Try.func22, Try.ntmps22
  go_wp2_with fail
  refine (l09Spoil_any hc hv.alloc).mono ?_
  rintro e w1 ⟨u, rfl, hb⟩
  have hbs := hb.size
  simp at hbs
  have B0 : Blk w1 w.heap.size 36 (tcs ⟨0, 0, 0⟩) := (by repeat (first | (with_reducible assumption) | ((with_reducible refine Blk.new ?_); · first | omega | (simp; done) | (simp; omega)) | (with_reducible apply Blk.set4) | (with_reducible apply Blk.set3) | (with_reducible apply Blk.set2) | ((with_reducible refine Blk.put ?_ ?_); · first | omega | (simp; omega)) | (with_reducible refine Blk.old ?_) | (with_reducible refine Blk.drew ?_) | (with_reducible refine Blk.drewN ?_) | ((with_reducible refine Blk.below hb ?_ ?_); · first | omega | (simp; done) | (simp; omega)) | ((with_reducible refine Blk.keep kk ?_ ?_); · first | omega | (simp; done) | (simp; omega))))
  have k3 : Below w.heap.size w w1 := (by repeat (first | (with_reducible exact Below.refl _ _) | (with_reducible assumption) | (with_reducible refine Below.drew ?_) | (with_reducible refine Below.drewN ?_) | ((with_reducible refine Below.al ?_ ?_); · first | omega | (simp; done) | (simp; omega)) | ((with_reducible refine Below.sc ?_ ?_); · first | omega | (simp; done) | (simp; omega)) | ((with_reducible refine Below.thru hb ?_ ?_); · first | omega | (simp; done) | (simp; omega))))
  clear hb
  have q0 := B0.t
  have f0 := B0.tf
  go_wp2
  refine ret_at (v := tv u) (fun w' => Blk w' (w.heap.size) 36 (tcs u)) (by repeat (first | (with_reducible assumption) | ((with_reducible refine Blk.new ?_); · first | omega | (simp; done) | (simp; omega)) | (with_reducible apply Blk.set4) | (with_reducible apply Blk.set3) | (with_reducible apply Blk.set2) | ((with_reducible refine Blk.put ?_ ?_); · first | omega | (simp; omega)) | (with_reducible refine Blk.old ?_) | (with_reducible refine Blk.drew ?_) | (with_reducible refine Blk.drewN ?_) | ((with_reducible refine Blk.below hb ?_ ?_); · first | omega | (simp; done) | (simp; omega)) | ((with_reducible refine Blk.keep kk ?_ ?_); · first | omega | (simp; done) | (simp; omega)))) (fun w' hB => by have q := hB.t; simp [results, Try.results22, go_sem, q]) rfl ?_
  exact ⟨_, rfl, (by repeat (first | (with_reducible exact Below.refl _ _) | (with_reducible assumption) | (with_reducible refine Below.drew ?_) | (with_reducible refine Below.drewN ?_) | ((with_reducible refine Below.al ?_ ?_); · first | omega | (simp; done) | (simp; omega)) | ((with_reducible refine Below.sc ?_ ?_); · first | omega | (simp; done) | (simp; omega)) | ((with_reducible refine Below.thru hb ?_ ?_); · first | omega | (simp; done) | (simp; omega))))⟩
/-- The triple and the number that a neighbour is asked by. -/
theorem drawNeighbour_any {w : World} {v : Value} {code : List Int} (hc : CodeOk code) (hv : SlIn w .u8 v code) :
    Calls Try.prog 17 #[v] w fun e w' => ∃ (u : T3) (i : Int), e = .returned (.tuple #[tv u, .int .i64 i]) ∧ Below w.heap.size w w' := by
  go_enter Try.func17, Try.ntmps17
  go_wp2_with fail
  refine (from_src hc hv.alloc).mono ?_
  rintro e w1 ⟨g, rfl, hS, kB⟩
  have Bb : Blk (w.alloc (.cells #[.int .i64 0, .int .i64 0, .int .i64 0] 36)) w.heap.size 36 (tcs ⟨0, 0, 0⟩) := Blk.new rfl
  have kb : Below w.heap.size w (w.alloc (.cells #[.int .i64 0, .int .i64 0, .int .i64 0] 36)) := (by repeat (first | (with_reducible exact Below.refl _ _) | (with_reducible assumption) | (with_reducible refine Below.drew ?_) | (with_reducible refine Below.drewN ?_) | ((with_reducible refine Below.al ?_ ?_); · first | omega | (simp; done) | (simp; omega)) | ((with_reducible refine Below.sc ?_ ?_); · first | omega | (simp; done) | (simp; omega)) | ((with_reducible refine Below.thru hb ?_ ?_); · first | omega | (simp; done) | (simp; omega))))
  generalize w.alloc (.cells #[.int .i64 0, .int .i64 0, .int .i64 0] 36) = wb at *
  have lb := Bb.lt
  have K0 := Kpt.refl hS kB
  have hg := hS.lt
  clear kB hS
  go_wp2_with fail
  refine (l09Draw_any K0.1 K0.2.1).mono ?_
  rintro e w2 ⟨t, rfl, -, kp⟩
  have K2 := Kpt.refl kp.1 kp.2.1
  clear kp K0
  go_wp2_with fail
  refine (l09Bad_any t K2).mono ?_
  rintro e w3 ⟨u, rfl, kp⟩
  have K3 := Kpt.refl kp.1 kp.2.1
  have hb := kp.2.1
  have s3 := hb.size
  have B3 : Blk w3 w.heap.size 36 (tcs ⟨0, 0, 0⟩) := (by repeat (first | (with_reducible assumption) | ((with_reducible refine Blk.new ?_); · first | omega | (simp; done) | (simp; omega)) | (with_reducible apply Blk.set4) | (with_reducible apply Blk.set3) | (with_reducible apply Blk.set2) | ((with_reducible refine Blk.put ?_ ?_); · first | omega | (simp; omega)) | (with_reducible refine Blk.old ?_) | (with_reducible refine Blk.drew ?_) | (with_reducible refine Blk.drewN ?_) | ((with_reducible refine Blk.below hb ?_ ?_); · first | omega | (simp; done) | (simp; omega)) | ((with_reducible refine Blk.keep kk ?_ ?_); · first | omega | (simp; done) | (simp; omega))))
  have k3 : Below w.heap.size w w3 := Below.trans kb (hb.mono (by omega))
  have hg3 := K3.1.lt
  clear kp K2 hb
  go_wp2_with fail
  refine forget (fun W_ => Below w.heap.size w W_ ∧ Blk W_ (w.heap.size) 36 (tcs ⟨0, 0, 0⟩) ∧ Blk W_ (w3.heap.size) 36 (tcs u) ∧ Kpt wb w3 W_ g code) ⟨(by repeat (first | (with_reducible exact Below.refl _ _) | (with_reducible assumption) | (with_reducible refine Below.drew ?_) | (with_reducible refine Below.drewN ?_) | ((with_reducible refine Below.al ?_ ?_); · first | omega | (simp; done) | (simp; omega)) | ((with_reducible refine Below.sc ?_ ?_); · first | omega | (simp; done) | (simp; omega)) | ((with_reducible refine Below.thru hb ?_ ?_); · first | omega | (simp; done) | (simp; omega)))), (by repeat (first | (with_reducible assumption) | ((with_reducible refine Blk.new ?_); · first | omega | (simp; done) | (simp; omega)) | (with_reducible apply Blk.set4) | (with_reducible apply Blk.set3) | (with_reducible apply Blk.set2) | ((with_reducible refine Blk.put ?_ ?_); · first | omega | (simp; omega)) | (with_reducible refine Blk.old ?_) | (with_reducible refine Blk.drew ?_) | (with_reducible refine Blk.drewN ?_) | ((with_reducible refine Blk.below hb ?_ ?_); · first | omega | (simp; done) | (simp; omega)) | ((with_reducible refine Blk.keep kk ?_ ?_); · first | omega | (simp; done) | (simp; omega)))), (by repeat (first | (with_reducible assumption) | ((with_reducible refine Blk.new ?_); · first | omega | (simp; done) | (simp; omega)) | (with_reducible apply Blk.set4) | (with_reducible apply Blk.set3) | (with_reducible apply Blk.set2) | ((with_reducible refine Blk.put ?_ ?_); · first | omega | (simp; omega)) | (with_reducible refine Blk.old ?_) | (with_reducible refine Blk.drew ?_) | (with_reducible refine Blk.drewN ?_) | ((with_reducible refine Blk.below hb ?_ ?_); · first | omega | (simp; done) | (simp; omega)) | ((with_reducible refine Blk.keep kk ?_ ?_); · first | omega | (simp; done) | (simp; omega)))), (by repeat (first | (with_reducible assumption) | (with_reducible refine Kpt.drew ?_) | (with_reducible refine Kpt.drewN ?_) | (with_reducible refine Kpt.alloc ?_) | ((with_reducible refine Kpt.put ?_ ?_ ?_); (· omega); (· omega))))⟩ ?_
  rintro w4 ⟨kw4, B0, B5, K4⟩
  have sw4 := kw4.size
  have lB0 := B0.lt
  have lB5 := B5.lt
  have q5 := B5.t
  go_cut [3] (fun s_ wx => ∃ i : Int, s_ = .int .i64 i ∧ Blk wx w.heap.size 36 (tcs u) ∧ Below w.heap.size w wx)
  case first =>
    go_region_held3 (fun w' => w'.cell? ⟨w3.heap.size, 0, none⟩ = some (.int .i64 u.x) ∧ w'.cell? ⟨w3.heap.size, 1, none⟩ = some (.int .i64 u.y) ∧ w'.cell? ⟨w3.heap.size, 2, none⟩ = some (.int .i64 u.z)) (first | go_keep | (refine ⟨?_, ?_, ?_⟩ <;> ((repeat rw [cell_put (by omega)]); go_keep)))
      (first
      | (go_at_call 39; refine (near_src (w0 := wb) (wa := w3) (code := code) 2 (by repeat (first | (with_reducible assumption) | (with_reducible refine Kpt.drew ?_) | (with_reducible refine Kpt.drewN ?_) | (with_reducible refine Kpt.alloc ?_) | ((with_reducible refine Kpt.put ?_ ?_ ?_); (· omega); (· omega)))) (by decide)).mono ?_; rintro e w5 ⟨i, rfl, kp⟩; have kk := kp.2.2; have hb := kp.2.1; have D0 : Blk w5 w.heap.size 36 (tcs ⟨0, 0, 0⟩) := (by repeat (first | (with_reducible assumption) | ((with_reducible refine Blk.new ?_); · first | omega | (simp; done) | (simp; omega)) | (with_reducible apply Blk.set4) | (with_reducible apply Blk.set3) | (with_reducible apply Blk.set2) | ((with_reducible refine Blk.put ?_ ?_); · first | omega | (simp; omega)) | (with_reducible refine Blk.old ?_) | (with_reducible refine Blk.drew ?_) | (with_reducible refine Blk.drewN ?_) | ((with_reducible refine Blk.below hb ?_ ?_); · first | omega | (simp; done) | (simp; omega)) | ((with_reducible refine Blk.keep kk ?_ ?_); · first | omega | (simp; done) | (simp; omega)))); have D5 : Blk w5 w3.heap.size 36 (tcs u) := (by repeat (first | (with_reducible assumption) | ((with_reducible refine Blk.new ?_); · first | omega | (simp; done) | (simp; omega)) | (with_reducible apply Blk.set4) | (with_reducible apply Blk.set3) | (with_reducible apply Blk.set2) | ((with_reducible refine Blk.put ?_ ?_); · first | omega | (simp; omega)) | (with_reducible refine Blk.old ?_) | (with_reducible refine Blk.drew ?_) | (with_reducible refine Blk.drewN ?_) | ((with_reducible refine Blk.below hb ?_ ?_); · first | omega | (simp; done) | (simp; omega)) | ((with_reducible refine Blk.keep kk ?_ ?_); · first | omega | (simp; done) | (simp; omega)))); have k5 : Below w.heap.size w w5 := Below.trans kb (hb.mono (by omega)); clear kk kp hb; have e0 := D0.t; have e1 := D0.tf; have e5 := D5.t; have m0 := D0.lt; have m5 := D5.lt))
    all_goals go_wp2_with fail
    all_goals go_meet
    all_goals exact ⟨i, rfl, (by repeat (first | (with_reducible assumption) | ((with_reducible refine Blk.new ?_); · first | omega | (simp; done) | (simp; omega)) | (with_reducible apply Blk.set4) | (with_reducible apply Blk.set3) | (with_reducible apply Blk.set2) | ((with_reducible refine Blk.put ?_ ?_); · first | omega | (simp; omega)) | (with_reducible refine Blk.old ?_) | (with_reducible refine Blk.drew ?_) | (with_reducible refine Blk.drewN ?_) | ((with_reducible refine Blk.below hb ?_ ?_); · first | omega | (simp; done) | (simp; omega)) | ((with_reducible refine Blk.keep kk ?_ ?_); · first | omega | (simp; done) | (simp; omega)))), (by repeat (first | (with_reducible exact Below.refl _ _) | (with_reducible assumption) | (with_reducible refine Below.drew ?_) | (with_reducible refine Below.drewN ?_) | ((with_reducible refine Below.al ?_ ?_); · first | omega | (simp; done) | (simp; omega)) | ((with_reducible refine Below.sc ?_ ?_); · first | omega | (simp; done) | (simp; omega)) | ((with_reducible refine Below.thru hb ?_ ?_); · first | omega | (simp; done) | (simp; omega))))⟩
  case rest =>
    obtain ⟨i, rfl, C0, kc⟩ := hcut
    have q0 := C0.t
    go_wp2
    refine ret_at (v := .tuple #[tv u, .int .i64 i]) (fun w' => Blk w' (w.heap.size) 36 (tcs u)) (by repeat (first | (with_reducible assumption) | ((with_reducible refine Blk.new ?_); · first | omega | (simp; done) | (simp; omega)) | (with_reducible apply Blk.set4) | (with_reducible apply Blk.set3) | (with_reducible apply Blk.set2) | ((with_reducible refine Blk.put ?_ ?_); · first | omega | (simp; omega)) | (with_reducible refine Blk.old ?_) | (with_reducible refine Blk.drew ?_) | (with_reducible refine Blk.drewN ?_) | ((with_reducible refine Blk.below hb ?_ ?_); · first | omega | (simp; done) | (simp; omega)) | ((with_reducible refine Blk.keep kk ?_ ?_); · first | omega | (simp; done) | (simp; omega)))) (fun w' hB => by have q := hB.t; simp [results, Try.results17, go_sem, q]) rfl ?_
    exact ⟨_, _, rfl, kc⟩

end Go.Proofs.Ytbmkpcenjjdflaa

/- The law's comparison of two lists of triples that are the same. -/
namespace Go.Proofs.Ytbmkpcenjjdflaa
open Go.RowKit
set_option linter.unusedSimpArgs false

theorem run_neqT_same (t : T3) (w : World) : (binOp .neq 36 (.agg #[.int .i64 t.x, .int .i64 t.y, .int .i64 t.z]) (.agg #[.int .i64 t.x, .int .i64 t.y, .int .i64 t.z])).run Try.prog w = .ok (.bool false) w := by
  have := run_neqT t t w
  rwa [decide_eq_true rfl] at this

set_option maxHeartbeats 1000000 in
theorem triples5_same (v u : Value) (xs : List T3) (B B2 : Nat) (w : World) (hv : OwnT w B v xs) (hu : OwnT w B2 u xs) (hl : xs.length ≤ 1000000000000000000) :
    Calls Try.prog 25 #[v, u] w fun e w' => e = .returned (.bool true) ∧ Below w.heap.size w w' := by
  by_cases h0 : xs.length = 0
  · obtain ⟨ao, c, rfl⟩ := hv.len
    obtain ⟨bo, c', rfl⟩ := hu.len
    obtain rfl : xs = [] := List.eq_nil_of_length_eq_zero h0
    clear h0 hv hu
    go_enter Try.func25, Try.ntmps25
    go_wp2
    refine wp_loop_rounds 1 ?_
    rw [rounds_succ]
    go_wp2
    go_ret
    exact ⟨rfl, (by repeat (first | (with_reducible exact Below.refl _ _) | (with_reducible assumption) | (with_reducible refine Below.drew ?_) | (with_reducible refine Below.drewN ?_) | ((with_reducible refine Below.al ?_ ?_); · first | omega | (simp; done) | (simp; omega)) | ((with_reducible refine Below.sc ?_ ?_); · first | omega | (simp; done) | (simp; omega)) | ((with_reducible refine Below.thru hb ?_ ?_); · first | omega | (simp; done) | (simp; omega))))⟩
  · rcases hv.form with ⟨rfl, e⟩ | ⟨g, c, rfl, hgB, hg, _, _, _⟩
    · exact absurd (by rw [e]; rfl) h0
    rcases hu.form with ⟨rfl, e⟩ | ⟨g', c', rfl, hgB', hg', _, _, _⟩
    · exact absurd (by rw [e]; rfl) h0
    have HV := Lib.hid hv
    have HU := Lib.hid hu
    clear hv hu
    go_enter Try.func25, Try.ntmps25
    go_wp2
    go_loopw [5] (fun i wr => ∃ k : Nat, k ≤ xs.length ∧ i = .int .i64 k ∧ Below w.heap.size w wr) (fun i _ => xs.length - (intOf i).toNat)
    case atStart => exact ⟨0, Nat.zero_le _, rfl, (by repeat (first | (with_reducible exact Below.refl _ _) | (with_reducible assumption) | (with_reducible refine Below.drew ?_) | (with_reducible refine Below.drewN ?_) | ((with_reducible refine Below.al ?_ ?_); · first | omega | (simp; done) | (simp; omega)) | ((with_reducible refine Below.sc ?_ ?_); · first | omega | (simp; done) | (simp; omega)) | ((with_reducible refine Below.thru hb ?_ ?_); · first | omega | (simp; done) | (simp; omega))))⟩
    case round =>
      obtain ⟨k, hk, rfl, kwr⟩ := hrel
      by_cases hlt : k < xs.length
      · have hnq := run_neqT_same xs[k]
        have q0 := OwnT.cells (HV.out.below kwr) rfl hlt
        have q1 := OwnT.cells (HU.out.below kwr) rfl hlt
        have i0 : (0 : Int) ≤ (k : Int) := by omega
        have i1 : (k : Int) < (xs.length : Int) := by omega
        have swr := kwr.size
        go_wp2_with fail
        go_quiet (fail)
        go_wp2
        go_roundw
        case rel => exact ⟨k + 1, by omega, by go_num, (by repeat (first | (with_reducible exact Below.refl _ _) | (with_reducible assumption) | (with_reducible refine Below.drew ?_) | (with_reducible refine Below.drewN ?_) | ((with_reducible refine Below.al ?_ ?_); · first | omega | (simp; done) | (simp; omega)) | ((with_reducible refine Below.sc ?_ ?_); · first | omega | (simp; done) | (simp; omega)) | ((with_reducible refine Below.thru hb ?_ ?_); · first | omega | (simp; done) | (simp; omega))))⟩
        case measure => simp [intOf]; omega
      · go_wp2
        go_ret
        exact ⟨rfl, kwr⟩

end Go.Proofs.Ytbmkpcenjjdflaa
