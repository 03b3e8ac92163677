/- Contracts of DownPath: the way down from a triple. -/
import Derived.Test.YtcijbgfiefmdkaaDn
import Derived.Test.YtcijbgfiefmdkaaTrS
namespace Go.Proofs.Ytcijbgfiefmdkaa
open Go.RowKit
set_option linter.unusedSimpArgs false

theorem infoT : (Try.prog.info? 23).map (fun i => (i.zero, i.size, i.bytes)) = some (some (.agg #[.int .i64 0, .int .i64 0, .int .i64 0]), 3, 24) := by kernel_rfl
theorem dn_len {t : T3} (h : t.ok = true) {k : Nat} (hk : ∀ j, j < k → 1 < (dn t j).z) : k + 1 ≤ 1000000000 ∧ k + 1 ≤ t.z.toNat := by
  have h1 := dn_inv h k hk
  have h2 := T3.ok_spec h1.1
  have h3 := T3.ok_spec h
  omega
/-- What down gives: the triples on the way down, in a slice of the call's own. -/
def GivesDown (t : T3) (w : World) (e : Ending) (w' : World) : Prop := ∃ v k, e = .returned v ∧ Ends t k ∧ OwnT w' w.heap.size v (dns t k) ∧ Below w.heap.size w w'

set_option maxHeartbeats 2000000 in
theorem down_any (t : T3) (w : World) (h : t.ok = true) :
    Calls Try.prog 42 #[.agg #[.int .i64 t.x, .int .i64 t.y, .int .i64 t.z]] w (GivesDown t w) := by
  obtain ⟨i0, hi, hz0, hz1, hz2⟩ := info_parts infoT
  go_enter Try.func42, Try.ntmps42
  go_wp2
  go_loopw [3] (fun v wr => ∃ k : Nat, Hid (∀ j, j < k → 1 < (dn t j).z) ∧ Blk wr w.heap.size 23 (tcs (dn t k)) ∧ OwnT wr (w.heap.size + 1) v (dns t k) ∧ Below w.heap.size w wr) (fun v _ => t.z.toNat + 1 - lenOf v)
  case atStart => exact ⟨0, Lib.hid (fun j hj => absurd hj (by omega)), (show Blk _ _ _ (tcs t) from (by repeat (first | (with_reducible assumption) | ((with_reducible refine Blk.new ?_); · first | omega | (simp; done) | (simp; omega)) | (with_reducible apply Blk.set4) | (with_reducible apply Blk.set3) | (with_reducible apply Blk.set2) | ((with_reducible refine Blk.put ?_ ?_); · first | omega | (simp; omega)) | (with_reducible refine Blk.old ?_) | (with_reducible refine Blk.drew ?_) | (with_reducible refine Blk.drewN ?_) | ((with_reducible refine Blk.below hb ?_ ?_); · first | omega | (simp; done) | (simp; omega))))), OwnK.of_blk (xs := dns t 0) (Blk.new (by simp)) (by omega) rfl (by simp [dns, maxLen]), (by repeat (first | (with_reducible exact Below.refl _ _) | (with_reducible assumption) | (with_reducible refine Below.drew ?_) | (with_reducible refine Below.drewN ?_) | ((with_reducible refine Below.al ?_ ?_); · first | omega | (simp; done) | (simp; omega)) | ((with_reducible refine Below.sc ?_ ?_); · first | omega | (simp; done) | (simp; omega)) | ((with_reducible refine Below.thru hb ?_ ?_); · first | omega | (simp; done) | (simp; omega))))⟩
  case round =>
    obtain ⟨k, hk, B, O, kwr⟩ := hrel
    have h1 := (dn_inv h k hk.out).1
    have hlen := dn_len h hk.out
    have q := B.t
    have lB := B.lt
    have swr := kwr.size
    by_cases hz : 1 < (dn t k).z
    · have hs := T3.ok_small h1
      go_wp2_with fail
      refine (neighbour_any (dn t k) 2 _ hs (.inr (.inr rfl))).mono ?_
      rw [show (dn t k).nb 2 = dn t (k + 1) from rfl]
      rintro e w1 ⟨rfl, hb⟩
      have B1 : Blk w1 w.heap.size 23 (tcs (dn t k)) := (by repeat (first | (with_reducible assumption) | ((with_reducible refine Blk.new ?_); · first | omega | (simp; done) | (simp; omega)) | (with_reducible apply Blk.set4) | (with_reducible apply Blk.set3) | (with_reducible apply Blk.set2) | ((with_reducible refine Blk.put ?_ ?_); · first | omega | (simp; omega)) | (with_reducible refine Blk.old ?_) | (with_reducible refine Blk.drew ?_) | (with_reducible refine Blk.drewN ?_) | ((with_reducible refine Blk.below hb ?_ ?_); · first | omega | (simp; done) | (simp; omega))))
      have O1 : OwnT w1 (w.heap.size + 1) u3 (dns t k) := O.below hb
      have kw1 : Below w.heap.size w w1 := (by repeat (first | (with_reducible exact Below.refl _ _) | (with_reducible assumption) | (with_reducible refine Below.drew ?_) | (with_reducible refine Below.drewN ?_) | ((with_reducible refine Below.al ?_ ?_); · first | omega | (simp; done) | (simp; omega)) | ((with_reducible refine Below.sc ?_ ?_); · first | omega | (simp; done) | (simp; omega)) | ((with_reducible refine Below.thru hb ?_ ?_); · first | omega | (simp; done) | (simp; omega))))
      have sw1 := kw1.size
      have lB1 := B1.lt
      have q1 := B1.t
      have f1 := B1.tf
      have H := Lib.hid (And.intro B1 (And.intro O1 kw1))
      clear hb B O kwr lB swr q hs B1 O1 kw1
      go_wp2_with (at_builtin; refine wpList_app encT rfl _ _ 32 23 24 rfl Try.underlying32 i0 _ hi hz0 hz1 hz2 rfl u3 (dns t k) (w.heap.size + 1) w1.heap.size 1 (tcs (dn t (k + 1))) [dn t (k + 1)] rfl ?o1 rfl ?b1 rfl ?l1 ?l2 ?l3 ?_)
      case o1 =>
        have O1 := H.out.2.1
        exact (by repeat (first | (with_reducible assumption) | (with_reducible refine Own.drew ?_) | (with_reducible refine Own.drewN ?_) | (with_reducible refine Own.alloc ?_) | (with_reducible refine OwnK.drew ?_) | (with_reducible refine OwnK.drewN ?_) | (with_reducible refine OwnK.alloc ?_) | ((with_reducible refine OwnK.put ?_ ?_); · first | omega | (simp; done) | (simp; omega)) | ((with_reducible refine Own.below hb ?_)) | ((with_reducible refine OwnK.below hb ?_))))
      case b1 => exact Blk.new (by simp)
      case l1 => rw [dns_length]; simp only [List.length_cons, List.length_nil, maxLen]; omega
      case l2 => rw [dns_length]; simp only [List.length_cons, List.length_nil]; omega
      case l3 => simp; omega
      intro v' w2 O2 hg
      have B1 := H.out.1
      have O1 := H.out.2.1
      have kw1 := H.out.2.2
      have B2 : Blk w2 w.heap.size 23 (tcs (dn t (k + 1))) := Blk.grownK hg (e := encT) (E := 23) (B := w.heap.size + 1) (xs := dns t k) (by repeat (first | (with_reducible assumption) | (with_reducible refine Own.drew ?_) | (with_reducible refine Own.drewN ?_) | (with_reducible refine Own.alloc ?_) | (with_reducible refine OwnK.drew ?_) | (with_reducible refine OwnK.drewN ?_) | (with_reducible refine OwnK.alloc ?_) | ((with_reducible refine OwnK.put ?_ ?_); · first | omega | (simp; done) | (simp; omega)) | ((with_reducible refine Own.below hb ?_)) | ((with_reducible refine OwnK.below hb ?_)))) (by omega) (by repeat (first | (with_reducible assumption) | ((with_reducible refine Blk.new ?_); · first | omega | (simp; done) | (simp; omega)) | (with_reducible apply Blk.set4) | (with_reducible apply Blk.set3) | (with_reducible apply Blk.set2) | ((with_reducible refine Blk.put ?_ ?_); · first | omega | (simp; omega)) | (with_reducible refine Blk.old ?_) | (with_reducible refine Blk.drew ?_) | (with_reducible refine Blk.drewN ?_) | ((with_reducible refine Blk.below hb ?_ ?_); · first | omega | (simp; done) | (simp; omega))))
      have kw2 : Below w.heap.size w w2 := Below.grownK hg (e := encT) (E := 23) (B := w.heap.size + 1) (xs := dns t k) (by repeat (first | (with_reducible assumption) | (with_reducible refine Own.drew ?_) | (with_reducible refine Own.drewN ?_) | (with_reducible refine Own.alloc ?_) | (with_reducible refine OwnK.drew ?_) | (with_reducible refine OwnK.drewN ?_) | (with_reducible refine OwnK.alloc ?_) | ((with_reducible refine OwnK.put ?_ ?_); · first | omega | (simp; done) | (simp; omega)) | ((with_reducible refine Own.below hb ?_)) | ((with_reducible refine OwnK.below hb ?_)))) (by omega) (by simp; omega) (by repeat (first | (with_reducible exact Below.refl _ _) | (with_reducible assumption) | (with_reducible refine Below.drew ?_) | (with_reducible refine Below.drewN ?_) | ((with_reducible refine Below.al ?_ ?_); · first | omega | (simp; done) | (simp; omega)) | ((with_reducible refine Below.sc ?_ ?_); · first | omega | (simp; done) | (simp; omega)) | ((with_reducible refine Below.thru hb ?_ ?_); · first | omega | (simp; done) | (simp; omega))))
      have len1 := O1.lenOf
      have len2 := O2.lenOf
      rw [← dns_succ] at O2 len2
      rw [dns_length] at len1 len2
      clear hg B1 O1 kw1 H
      go_wp2
      go_roundw
      case rel => exact ⟨k + 1, Lib.hid (fun j hj => if e : j < k then hk.out j e else (show j = k by omega) ▸ hz), B2, O2, kw2⟩
      case measure => rw [len1, len2]; omega
    · go_wp2
      refine bodyPost_ret (v := u3) (by simp [results, Try.results42, go_sem]) rfl ?_
      exact ⟨u3, k, rfl, ⟨hk.out, by omega⟩, O.mono (by omega), kwr⟩

/-- What DownPath gives. -/
def GivesPath (t : T3) (w : World) (e : Ending) (w' : World) : Prop :=
  ∃ v xs c, e = .returned (.tuple #[v, .int .i64 c]) ∧ (if t.ok then c = 0 ∧ ∃ k, Ends t k ∧ xs = dns t k else c = 1 ∧ xs = []) ∧ OwnT w' w.heap.size v xs ∧ Below w.heap.size w w'

set_option maxHeartbeats 2000000 in
theorem DownPath_any (t : T3) (w : World) :
    Calls Try.prog 16 #[.agg #[.int .i64 t.x, .int .i64 t.y, .int .i64 t.z]] w (GivesPath t w) := by
  cases h1 : t.ok with
  | false =>
    go_enter Try.func16, Try.ntmps16
    go_wp2_with fail
    refine (IsTriple_t t _).mono ?_
    rintro e w1 ⟨rfl, hb⟩
    have kw1 : Below w.heap.size w w1 := (by repeat (first | (with_reducible exact Below.refl _ _) | (with_reducible assumption) | (with_reducible refine Below.drew ?_) | (with_reducible refine Below.drewN ?_) | ((with_reducible refine Below.al ?_ ?_); · first | omega | (simp; done) | (simp; omega)) | ((with_reducible refine Below.sc ?_ ?_); · first | omega | (simp; done) | (simp; omega)) | ((with_reducible refine Below.thru hb ?_ ?_); · first | omega | (simp; done) | (simp; omega))))
    have sw1 := kw1.size
    clear hb
    go_wp2
    go_ret2
    exact ⟨_, [], 1, rfl, by rw [h1]; exact ⟨rfl, rfl⟩, OwnK.nil _ _, kw1⟩
  | true =>
    go_enter Try.func16, Try.ntmps16
    go_wp2_with fail
    refine (IsTriple_t t _).mono ?_
    rintro e w1 ⟨rfl, hb⟩
    have B1 : Blk w1 (w.heap.size) 23 (tcs t) := (by repeat (first | (with_reducible assumption) | ((with_reducible refine Blk.new ?_); · first | omega | (simp; done) | (simp; omega)) | (with_reducible apply Blk.set4) | (with_reducible apply Blk.set3) | (with_reducible apply Blk.set2) | ((with_reducible refine Blk.put ?_ ?_); · first | omega | (simp; omega)) | (with_reducible refine Blk.old ?_) | (with_reducible refine Blk.drew ?_) | (with_reducible refine Blk.drewN ?_) | ((with_reducible refine Blk.below hb ?_ ?_); · first | omega | (simp; done) | (simp; omega))))
    have lB1 := B1.lt
    have kw1 : Below w.heap.size w w1 := (by repeat (first | (with_reducible exact Below.refl _ _) | (with_reducible assumption) | (with_reducible refine Below.drew ?_) | (with_reducible refine Below.drewN ?_) | ((with_reducible refine Below.al ?_ ?_); · first | omega | (simp; done) | (simp; omega)) | ((with_reducible refine Below.sc ?_ ?_); · first | omega | (simp; done) | (simp; omega)) | ((with_reducible refine Below.thru hb ?_ ?_); · first | omega | (simp; done) | (simp; omega))))
    have sw1 := kw1.size
    clear hb
    have q1 := B1.t
    go_wp2_with fail
    refine (down_any t _ h1).mono ?_
    rintro e w2 ⟨v, k, rfl, hk, O, hb⟩
    have kw2 : Below w.heap.size w w2 := (by repeat (first | (with_reducible exact Below.refl _ _) | (with_reducible assumption) | (with_reducible refine Below.drew ?_) | (with_reducible refine Below.drewN ?_) | ((with_reducible refine Below.al ?_ ?_); · first | omega | (simp; done) | (simp; omega)) | ((with_reducible refine Below.sc ?_ ?_); · first | omega | (simp; done) | (simp; omega)) | ((with_reducible refine Below.thru hb ?_ ?_); · first | omega | (simp; done) | (simp; omega))))
    clear hb
    go_wp2
    go_ret2
    exact ⟨_, dns t k, 0, rfl, by rw [h1]; exact ⟨rfl, k, hk, rfl⟩, O.mono (by omega), kw2⟩

set_option maxHeartbeats 2000000 in
theorem specDownPath_any (t : T3) (w : World) :
    Calls Try.prog 15 #[.agg #[.int .i64 t.x, .int .i64 t.y, .int .i64 t.z]] w (GivesPath t w) := by
  cases h1 : t.ok with
  | false =>
    go_enter Try.func15, Try.ntmps15
    go_wp2_with fail
    refine (l09Is_t t _).mono ?_
    rintro e w1 ⟨rfl, hb⟩
    have kw1 : Below w.heap.size w w1 := (by repeat (first | (with_reducible exact Below.refl _ _) | (with_reducible assumption) | (with_reducible refine Below.drew ?_) | (with_reducible refine Below.drewN ?_) | ((with_reducible refine Below.al ?_ ?_); · first | omega | (simp; done) | (simp; omega)) | ((with_reducible refine Below.sc ?_ ?_); · first | omega | (simp; done) | (simp; omega)) | ((with_reducible refine Below.thru hb ?_ ?_); · first | omega | (simp; done) | (simp; omega))))
    have sw1 := kw1.size
    clear hb
    go_wp2
    go_ret2
    exact ⟨_, [], 1, rfl, by rw [h1]; exact ⟨rfl, rfl⟩, OwnK.nil _ _, kw1⟩
  | true =>
    obtain ⟨i0, hi, hz0, hz1, hz2⟩ := info_parts infoT
    go_enter Try.func15, Try.ntmps15
    go_wp2_with fail
    refine (l09Is_t t _).mono ?_
    rintro e w1 ⟨rfl, hb⟩
    have B1 : Blk w1 (w.heap.size) 23 (tcs t) := (by repeat (first | (with_reducible assumption) | ((with_reducible refine Blk.new ?_); · first | omega | (simp; done) | (simp; omega)) | (with_reducible apply Blk.set4) | (with_reducible apply Blk.set3) | (with_reducible apply Blk.set2) | ((with_reducible refine Blk.put ?_ ?_); · first | omega | (simp; omega)) | (with_reducible refine Blk.old ?_) | (with_reducible refine Blk.drew ?_) | (with_reducible refine Blk.drewN ?_) | ((with_reducible refine Blk.below hb ?_ ?_); · first | omega | (simp; done) | (simp; omega))))
    have lB1 := B1.lt
    have kw1 : Below w.heap.size w w1 := (by repeat (first | (with_reducible exact Below.refl _ _) | (with_reducible assumption) | (with_reducible refine Below.drew ?_) | (with_reducible refine Below.drewN ?_) | ((with_reducible refine Below.al ?_ ?_); · first | omega | (simp; done) | (simp; omega)) | ((with_reducible refine Below.sc ?_ ?_); · first | omega | (simp; done) | (simp; omega)) | ((with_reducible refine Below.thru hb ?_ ?_); · first | omega | (simp; done) | (simp; omega))))
    have sw1 := kw1.size
    clear hb
    have q1 := B1.t
    have H1 := Lib.hid h1
    go_wp2
    refine forget (fun W_ => Below w.heap.size w W_ ∧ Blk W_ (w.heap.size) 23 (tcs t) ∧ Blk W_ (w1.heap.size) 23 (tcs t)) ⟨(by repeat (first | (with_reducible exact Below.refl _ _) | (with_reducible assumption) | (with_reducible refine Below.drew ?_) | (with_reducible refine Below.drewN ?_) | ((with_reducible refine Below.al ?_ ?_); · first | omega | (simp; done) | (simp; omega)) | ((with_reducible refine Below.sc ?_ ?_); · first | omega | (simp; done) | (simp; omega)) | ((with_reducible refine Below.thru hb ?_ ?_); · first | omega | (simp; done) | (simp; omega)))), (by repeat (first | (with_reducible assumption) | ((with_reducible refine Blk.new ?_); · first | omega | (simp; done) | (simp; omega)) | (with_reducible apply Blk.set4) | (with_reducible apply Blk.set3) | (with_reducible apply Blk.set2) | ((with_reducible refine Blk.put ?_ ?_); · first | omega | (simp; omega)) | (with_reducible refine Blk.old ?_) | (with_reducible refine Blk.drew ?_) | (with_reducible refine Blk.drewN ?_) | ((with_reducible refine Blk.below hb ?_ ?_); · first | omega | (simp; done) | (simp; omega)))), (by repeat (first | (with_reducible assumption) | ((with_reducible refine Blk.new ?_); · first | omega | (simp; done) | (simp; omega)) | (with_reducible apply Blk.set4) | (with_reducible apply Blk.set3) | (with_reducible apply Blk.set2) | ((with_reducible refine Blk.put ?_ ?_); · first | omega | (simp; omega)) | (with_reducible refine Blk.old ?_) | (with_reducible refine Blk.drew ?_) | (with_reducible refine Blk.drewN ?_) | ((with_reducible refine Blk.below hb ?_ ?_); · first | omega | (simp; done) | (simp; omega))))⟩ ?_
    rintro w2 ⟨kw2, B2, B3⟩
    have sw2 := kw2.size
    have lB2 := B2.lt
    have lB3 := B3.lt
    have O2 : OwnT w2 (w.heap.size + 1) (.slice (some ⟨w1.heap.size, 0, none⟩) 1 1) (dns t 0) := OwnK.of_blk (xs := dns t 0) B3 (by omega) rfl (by simp [dns, maxLen])
    clear B1 B3 lB1 kw1 sw1 q1
    go_loopw [4] (fun v wr => ∃ k : Nat, Hid (∀ j, j < k → 1 < (dn t j).z) ∧ Blk wr w.heap.size 23 (tcs (dn t k)) ∧ OwnT wr (w.heap.size + 1) v (dns t k) ∧ Below w.heap.size w wr) (fun v _ => t.z.toNat + 1 - lenOf v)
    case atStart => exact ⟨0, Lib.hid (fun j hj => absurd hj (by omega)), B2, O2, kw2⟩
    case round =>
      clear B2 O2 kw2 sw2 lB2 lB3
      obtain ⟨k, hk, B, O, kwr⟩ := hrel
      have h2 := (dn_inv H1.out k hk.out).1
      have hlen := dn_len H1.out hk.out
      have q := B.t
      have lB := B.lt
      have swr := kwr.size
      have hE := run_equalInT (dn t k) ⟨1, 1, 1⟩
      have hone := ok_one h2
      by_cases hz : 1 < (dn t k).z
      · have hs := T3.ok_small h2
        rw [decide_eq_false (fun e => hone.1 e hz)] at hE
        clear hone
        go_wp2_with fail
        clear hE
        refine (l09Neighbour_any (dn t k) 2 _ hs (.inr (.inr rfl))).mono ?_
        rw [show (dn t k).nb 2 = dn t (k + 1) from rfl]
        rintro e w3 ⟨rfl, hb⟩
        have B1 : Blk w3 w.heap.size 23 (tcs (dn t k)) := (by repeat (first | (with_reducible assumption) | ((with_reducible refine Blk.new ?_); · first | omega | (simp; done) | (simp; omega)) | (with_reducible apply Blk.set4) | (with_reducible apply Blk.set3) | (with_reducible apply Blk.set2) | ((with_reducible refine Blk.put ?_ ?_); · first | omega | (simp; omega)) | (with_reducible refine Blk.old ?_) | (with_reducible refine Blk.drew ?_) | (with_reducible refine Blk.drewN ?_) | ((with_reducible refine Blk.below hb ?_ ?_); · first | omega | (simp; done) | (simp; omega))))
        have O1 : OwnT w3 (w.heap.size + 1) u4 (dns t k) := O.below hb
        have kw3 : Below w.heap.size w w3 := (by repeat (first | (with_reducible exact Below.refl _ _) | (with_reducible assumption) | (with_reducible refine Below.drew ?_) | (with_reducible refine Below.drewN ?_) | ((with_reducible refine Below.al ?_ ?_); · first | omega | (simp; done) | (simp; omega)) | ((with_reducible refine Below.sc ?_ ?_); · first | omega | (simp; done) | (simp; omega)) | ((with_reducible refine Below.thru hb ?_ ?_); · first | omega | (simp; done) | (simp; omega))))
        have sw3 := kw3.size
        have lB1 := B1.lt
        have q1 := B1.t
        have f1 := B1.tf
        have H := Lib.hid (And.intro B1 (And.intro O1 kw3))
        clear hb B O kwr lB swr q hs B1 O1 kw3
        go_wp2_with (at_builtin; refine wpList_app encT rfl _ _ 32 23 24 rfl Try.underlying32 i0 _ hi hz0 hz1 hz2 rfl u4 (dns t k) (w.heap.size + 1) w3.heap.size 1 (tcs (dn t (k + 1))) [dn t (k + 1)] rfl ?o1 rfl ?b1 rfl ?l1 ?l2 ?l3 ?_)
        case o1 =>
          have O1 := H.out.2.1
          exact (by repeat (first | (with_reducible assumption) | (with_reducible refine Own.drew ?_) | (with_reducible refine Own.drewN ?_) | (with_reducible refine Own.alloc ?_) | (with_reducible refine OwnK.drew ?_) | (with_reducible refine OwnK.drewN ?_) | (with_reducible refine OwnK.alloc ?_) | ((with_reducible refine OwnK.put ?_ ?_); · first | omega | (simp; done) | (simp; omega)) | ((with_reducible refine Own.below hb ?_)) | ((with_reducible refine OwnK.below hb ?_))))
        case b1 => exact Blk.new (by simp)
        case l1 => rw [dns_length]; simp only [List.length_cons, List.length_nil, maxLen]; omega
        case l2 => rw [dns_length]; simp only [List.length_cons, List.length_nil]; omega
        case l3 => simp; omega
        intro v' w4 O2 hg
        have B1 := H.out.1
        have O1 := H.out.2.1
        have kw3 := H.out.2.2
        have B2 : Blk w4 w.heap.size 23 (tcs (dn t (k + 1))) := Blk.grownK hg (e := encT) (E := 23) (B := w.heap.size + 1) (xs := dns t k) (by repeat (first | (with_reducible assumption) | (with_reducible refine Own.drew ?_) | (with_reducible refine Own.drewN ?_) | (with_reducible refine Own.alloc ?_) | (with_reducible refine OwnK.drew ?_) | (with_reducible refine OwnK.drewN ?_) | (with_reducible refine OwnK.alloc ?_) | ((with_reducible refine OwnK.put ?_ ?_); · first | omega | (simp; done) | (simp; omega)) | ((with_reducible refine Own.below hb ?_)) | ((with_reducible refine OwnK.below hb ?_)))) (by omega) (by repeat (first | (with_reducible assumption) | ((with_reducible refine Blk.new ?_); · first | omega | (simp; done) | (simp; omega)) | (with_reducible apply Blk.set4) | (with_reducible apply Blk.set3) | (with_reducible apply Blk.set2) | ((with_reducible refine Blk.put ?_ ?_); · first | omega | (simp; omega)) | (with_reducible refine Blk.old ?_) | (with_reducible refine Blk.drew ?_) | (with_reducible refine Blk.drewN ?_) | ((with_reducible refine Blk.below hb ?_ ?_); · first | omega | (simp; done) | (simp; omega))))
        have kw4 : Below w.heap.size w w4 := Below.grownK hg (e := encT) (E := 23) (B := w.heap.size + 1) (xs := dns t k) (by repeat (first | (with_reducible assumption) | (with_reducible refine Own.drew ?_) | (with_reducible refine Own.drewN ?_) | (with_reducible refine Own.alloc ?_) | (with_reducible refine OwnK.drew ?_) | (with_reducible refine OwnK.drewN ?_) | (with_reducible refine OwnK.alloc ?_) | ((with_reducible refine OwnK.put ?_ ?_); · first | omega | (simp; done) | (simp; omega)) | ((with_reducible refine Own.below hb ?_)) | ((with_reducible refine OwnK.below hb ?_)))) (by omega) (by simp; omega) (by repeat (first | (with_reducible exact Below.refl _ _) | (with_reducible assumption) | (with_reducible refine Below.drew ?_) | (with_reducible refine Below.drewN ?_) | ((with_reducible refine Below.al ?_ ?_); · first | omega | (simp; done) | (simp; omega)) | ((with_reducible refine Below.sc ?_ ?_); · first | omega | (simp; done) | (simp; omega)) | ((with_reducible refine Below.thru hb ?_ ?_); · first | omega | (simp; done) | (simp; omega))))
        have len1 := O1.lenOf
        have len2 := O2.lenOf
        rw [← dns_succ] at O2 len2
        rw [dns_length] at len1 len2
        clear hg B1 O1 kw3 H
        go_wp2
        go_roundw
        case rel => exact ⟨k + 1, Lib.hid (fun j hj => if e : j < k then hk.out j e else (show j = k by omega) ▸ hz), B2, O2, kw4⟩
        case measure => rw [len1, len2]; omega
      · rw [decide_eq_true (hone.2 hz)] at hE
        clear hone
        go_wp2
        go_ret2
        exact ⟨_, dns t k, 0, rfl, by rw [h1]; exact ⟨rfl, k, ⟨hk.out, by omega⟩, rfl⟩, O.mono (by omega), kwr⟩

end Go.Proofs.Ytcijbgfiefmdkaa
