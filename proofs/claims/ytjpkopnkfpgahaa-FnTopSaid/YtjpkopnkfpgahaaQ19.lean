import Derived.Test.YtjpkopnkfpgahaaQ9
import Derived.Test.YtjpkopnkfpgahaaQ17
import Derived.Test.YtjpkopnkfpgahaaQ13
import Derived.Test.YtjpkopnkfpgahaaQ18
/- Small functions that the law FnTop calls: ChainOf, CosetOf, LeadFraction. -/
namespace Go.Proofs.Ytjpkopnkfpgahaa
open Go.RowKit
set_option linter.unusedSimpArgs false

def GivesCo (m : M) (w : World) (e : Ending) (w' : World) : Prop := ∃ v k, e = .returned (.tuple #[.int .i64 (chM m k).a, v, .int .i64 0]) ∧ ChEnds m k ∧ Own w' w.heap.size v (chQs m k ++ [(chM m k).a * (chM m k).b]) ∧ Below w.heap.size w w'
set_option maxRecDepth 8000 in
set_option maxHeartbeats 1000000 in
theorem ChainOf_any (m : M) (w : World) (h : m.ok = true) :
    Calls Try.prog 10 #[mv m] w (GivesCo m w) := by
  have HI := Lib.hid (fun w' => IsMatrix_any m w')
  rw [h] at HI
  have HC := Lib.hid (fun w' => chain_any m w' (M.ok_ch h))
  obtain ⟨GF, hGF⟩ : ∃ GF, GivesCo m w = GF := ⟨_, rfl⟩
  rw [hGF]
  have HGF := Lib.hid hGF
  clear hGF h
  go_enter Try.func10, Try.ntmps10
  go_wp2_with fail
  refine (HI.out _).mono ?_
  rintro e w1 ⟨rfl, hb⟩
  have B1 : Blk w1 (w.heap.size) 30 (mcs m) := (by repeat (first | (with_reducible assumption) | ((with_reducible refine Blk.new ?_); · first | omega | (simp; done) | (simp; omega)) | (with_reducible apply Blk.set4) | (with_reducible apply Blk.set3) | (with_reducible apply Blk.set2) | ((with_reducible refine Blk.put ?_ ?_); · first | omega | (simp; omega)) | (with_reducible refine Blk.old ?_) | (with_reducible refine Blk.drew ?_) | (with_reducible refine Blk.drewN ?_) | ((with_reducible refine Blk.below hb ?_ ?_); · first | omega | (simp; done) | (simp; omega)) | ((with_reducible refine Blk.below hb4 ?_ ?_); · first | omega | (simp; done) | (simp; omega)) | ((with_reducible refine Blk.below hb5 ?_ ?_); · first | omega | (simp; done) | (simp; omega))))
  have lB1 := B1.lt
  have kw1 : Below w.heap.size w w1 := (by repeat (first | (with_reducible exact Below.refl _ _) | (with_reducible assumption) | (with_reducible refine Below.drew ?_) | (with_reducible refine Below.drewN ?_) | ((with_reducible refine Below.al ?_ ?_); · first | omega | (simp; done) | (simp; omega)) | ((with_reducible refine Below.sc ?_ ?_); · first | omega | (simp; done) | (simp; omega)) | ((with_reducible refine Below.thru hb ?_ ?_); · first | omega | (simp; done) | (simp; omega)) | ((with_reducible refine Below.thru hb4 ?_ ?_); · first | omega | (simp; done) | (simp; omega)) | ((with_reducible refine Below.thru hb5 ?_ ?_); · first | omega | (simp; done) | (simp; omega))))
  have sw1 := kw1.size
  clear hb
  have q1 := B1.m
  go_wp2_with fail
  refine (HC.out _).mono ?_
  rintro e w2 ⟨v, k, rfl, hk, O, hb⟩
  have k2 : Below w.heap.size w w2 := kw1.trans (hb.mono sw1)
  go_wp2
  rw [← HGF.out]
  refine bodyPost_ret (v := .tuple #[.int .i64 (chM m k).a, v, .int .i64 0]) (by simp [results, Try.results10, go_sem]) rfl ?_
  exact ⟨v, k, rfl, hk, O.mono sw1, k2⟩
set_option maxRecDepth 8000 in
set_option maxHeartbeats 1000000 in
theorem CosetOf_any (n : Nat) (m : M) (w : World) (h : m.ok = true) (hn : 1 ≤ n ∧ n ≤ 60) :
    Calls Try.prog 14 #[.int .i64 (n : Int), mv m] w fun e w' => e = .returned (.tuple #[.int .i64 (idxP (lineL n) (nrmC n m.c m.d)), .int .i64 0]) ∧ Below w.heap.size w w' := by
  have HI := Lib.hid (fun w' => IsMatrix_any m w')
  rw [h] at HI
  have HLV := Lib.hid (fun w' => isLevel_any (n : Int) w')
  rw [inB_mk (by omega)] at HLV
  have HLN := Lib.hid (fun w' => line_any n w' hn)
  have HCO := Lib.hid (fun v B w' O => coset_any n m.c m.d (lineL n) v B w' O (by
    have := lnTo_len n n
    have h2 : n * n ≤ 60 * 60 := Nat.mul_le_mul hn.2 hn.2
    unfold lineL
    omega) hn)
  clear h hn
  generalize lineL n = L at *
  generalize idxP L (nrmC n m.c m.d) = r at *
  go_enter Try.func14, Try.ntmps14
  go_wp2_with fail
  refine (HI.out _).mono ?_
  rintro e w1 ⟨rfl, hb⟩
  have B1 : Blk w1 (w.heap.size) 30 (mcs m) := (by repeat (first | (with_reducible assumption) | ((with_reducible refine Blk.new ?_); · first | omega | (simp; done) | (simp; omega)) | (with_reducible apply Blk.set4) | (with_reducible apply Blk.set3) | (with_reducible apply Blk.set2) | ((with_reducible refine Blk.put ?_ ?_); · first | omega | (simp; omega)) | (with_reducible refine Blk.old ?_) | (with_reducible refine Blk.drew ?_) | (with_reducible refine Blk.drewN ?_) | ((with_reducible refine Blk.below hb ?_ ?_); · first | omega | (simp; done) | (simp; omega)) | ((with_reducible refine Blk.below hb4 ?_ ?_); · first | omega | (simp; done) | (simp; omega)) | ((with_reducible refine Blk.below hb5 ?_ ?_); · first | omega | (simp; done) | (simp; omega))))
  have lB1 := B1.lt
  have kw1 : Below w.heap.size w w1 := (by repeat (first | (with_reducible exact Below.refl _ _) | (with_reducible assumption) | (with_reducible refine Below.drew ?_) | (with_reducible refine Below.drewN ?_) | ((with_reducible refine Below.al ?_ ?_); · first | omega | (simp; done) | (simp; omega)) | ((with_reducible refine Below.sc ?_ ?_); · first | omega | (simp; done) | (simp; omega)) | ((with_reducible refine Below.thru hb ?_ ?_); · first | omega | (simp; done) | (simp; omega)) | ((with_reducible refine Below.thru hb4 ?_ ?_); · first | omega | (simp; done) | (simp; omega)) | ((with_reducible refine Below.thru hb5 ?_ ?_); · first | omega | (simp; done) | (simp; omega))))
  have sw1 := kw1.size
  clear hb
  go_wp2_with fail
  refine (HLV.out _).mono ?_
  rintro e w2 ⟨rfl, rfl⟩
  have q1 := B1.m
  go_wp2_with fail
  go_region_held3 (fun w' => w'.cell? ⟨w.heap.size, 2, none⟩ = some (.int .i64 m.c) ∧ w'.cell? ⟨w.heap.size, 3, none⟩ = some (.int .i64 m.d)) (first | go_keep | exact ⟨e0, e1⟩ | exact ⟨f0, f1⟩) (first | (go_at_call 34; refine (HLN.out _).mono ?_; rintro e w4 ⟨v4, rfl, O4, hb4⟩; have E0 : Blk w4 w.heap.size 30 (mcs m) := (by repeat (first | (with_reducible assumption) | ((with_reducible refine Blk.new ?_); · first | omega | (simp; done) | (simp; omega)) | (with_reducible apply Blk.set4) | (with_reducible apply Blk.set3) | (with_reducible apply Blk.set2) | ((with_reducible refine Blk.put ?_ ?_); · first | omega | (simp; omega)) | (with_reducible refine Blk.old ?_) | (with_reducible refine Blk.drew ?_) | (with_reducible refine Blk.drewN ?_) | ((with_reducible refine Blk.below hb ?_ ?_); · first | omega | (simp; done) | (simp; omega)) | ((with_reducible refine Blk.below hb4 ?_ ?_); · first | omega | (simp; done) | (simp; omega)) | ((with_reducible refine Blk.below hb5 ?_ ?_); · first | omega | (simp; done) | (simp; omega)))); have l0 := E0.lt; have kw4 : Below w.heap.size w w4 := (by repeat (first | (with_reducible exact Below.refl _ _) | (with_reducible assumption) | (with_reducible refine Below.drew ?_) | (with_reducible refine Below.drewN ?_) | ((with_reducible refine Below.al ?_ ?_); · first | omega | (simp; done) | (simp; omega)) | ((with_reducible refine Below.sc ?_ ?_); · first | omega | (simp; done) | (simp; omega)) | ((with_reducible refine Below.thru hb ?_ ?_); · first | omega | (simp; done) | (simp; omega)) | ((with_reducible refine Below.thru hb4 ?_ ?_); · first | omega | (simp; done) | (simp; omega)) | ((with_reducible refine Below.thru hb5 ?_ ?_); · first | omega | (simp; done) | (simp; omega)))); have e0 := E0.m.2.2.1; have e1 := E0.m.2.2.2) | (go_at_call 36; refine (HCO.out v4 _ _ O4).mono ?_; rintro e w5 ⟨rfl, hb5⟩; have G0 : Blk w5 w.heap.size 30 (mcs m) := (by repeat (first | (with_reducible assumption) | ((with_reducible refine Blk.new ?_); · first | omega | (simp; done) | (simp; omega)) | (with_reducible apply Blk.set4) | (with_reducible apply Blk.set3) | (with_reducible apply Blk.set2) | ((with_reducible refine Blk.put ?_ ?_); · first | omega | (simp; omega)) | (with_reducible refine Blk.old ?_) | (with_reducible refine Blk.drew ?_) | (with_reducible refine Blk.drewN ?_) | ((with_reducible refine Blk.below hb ?_ ?_); · first | omega | (simp; done) | (simp; omega)) | ((with_reducible refine Blk.below hb4 ?_ ?_); · first | omega | (simp; done) | (simp; omega)) | ((with_reducible refine Blk.below hb5 ?_ ?_); · first | omega | (simp; done) | (simp; omega)))); have s4 := kw4.size; have kw5 : Below w.heap.size w w5 := (by repeat (first | (with_reducible exact Below.refl _ _) | (with_reducible assumption) | (with_reducible refine Below.drew ?_) | (with_reducible refine Below.drewN ?_) | ((with_reducible refine Below.al ?_ ?_); · first | omega | (simp; done) | (simp; omega)) | ((with_reducible refine Below.sc ?_ ?_); · first | omega | (simp; done) | (simp; omega)) | ((with_reducible refine Below.thru hb ?_ ?_); · first | omega | (simp; done) | (simp; omega)) | ((with_reducible refine Below.thru hb4 ?_ ?_); · first | omega | (simp; done) | (simp; omega)) | ((with_reducible refine Below.thru hb5 ?_ ?_); · first | omega | (simp; done) | (simp; omega)))); have f0 := G0.m.2.2.1; have f1 := G0.m.2.2.2))
  all_goals go_wp2
  all_goals go_ret2
  all_goals exact ⟨rfl, (by repeat (first | (with_reducible exact Below.refl _ _) | (with_reducible assumption) | (with_reducible refine Below.drew ?_) | (with_reducible refine Below.drewN ?_) | ((with_reducible refine Below.al ?_ ?_); · first | omega | (simp; done) | (simp; omega)) | ((with_reducible refine Below.sc ?_ ?_); · first | omega | (simp; done) | (simp; omega)) | ((with_reducible refine Below.thru hb ?_ ?_); · first | omega | (simp; done) | (simp; omega)) | ((with_reducible refine Below.thru hb4 ?_ ?_); · first | omega | (simp; done) | (simp; omega)) | ((with_reducible refine Below.thru hb5 ?_ ?_); · first | omega | (simp; done) | (simp; omega))))⟩
theorem beq_dec (a b : Nat) : Nat.beq a b = decide (a = b) := by
  cases h : Nat.beq a b with
  | true => simp [Nat.eq_of_beq_eq_true h]
  | false => simp [Nat.ne_of_beq_eq_false h]
/-- The fraction with a denominator of at least 0. -/
def nfF (p : Int) (q : Nat) : Int := bif Nat.beq q 0 then 1 else p
theorem nf_unit {p : Int} (h : Int.gcd p 0 = 1) : p = 1 ∨ p = -1 := by
  rw [Int.gcd_zero_right] at h
  omega
set_option maxRecDepth 8000 in
set_option maxHeartbeats 2000000 in
theorem fraction_any (p : Int) (q : Nat) (hg : Int.gcd p (q : Int) = 1) (hp : -1000000 ≤ p ∧ p ≤ 1000000) (hq : q ≤ 1000000) (w : World) :
    Calls Try.prog 32 #[.int .i64 p, .int .i64 (q : Int)] w fun e w' => e = .returned (.tuple #[.agg #[.int .i64 (nfF p q), .int .i64 (q : Int)], .int .i64 0]) ∧ Below w.heap.size w w' := by
  have HD := Lib.hid (fun W : World => divisor_any p (q : Int) W (by omega) (by omega) (by omega) (by omega))
  rw [hg] at HD
  go_enter Try.func32, Try.ntmps32
  go_wp2_with fail
  refine (HD.out _).mono ?_
  rintro e w1 ⟨rfl, hb⟩
  have k1 : Below w.heap.size w w1 := (by repeat (first | (with_reducible exact Below.refl _ _) | (with_reducible assumption) | (with_reducible refine Below.drew ?_) | (with_reducible refine Below.drewN ?_) | ((with_reducible refine Below.al ?_ ?_); · first | omega | (simp; done) | (simp; omega)) | ((with_reducible refine Below.sc ?_ ?_); · first | omega | (simp; done) | (simp; omega)) | ((with_reducible refine Below.thru hb ?_ ?_); · first | omega | (simp; done) | (simp; omega)) | ((with_reducible refine Below.thru hb4 ?_ ?_); · first | omega | (simp; done) | (simp; omega)) | ((with_reducible refine Below.thru hb5 ?_ ?_); · first | omega | (simp; done) | (simp; omega))))
  have B1 : Blk w1 w.heap.size 40 #[.int .i64 0, .int .i64 0] := (by repeat (first | (with_reducible assumption) | ((with_reducible refine Blk.new ?_); · first | omega | (simp; done) | (simp; omega)) | (with_reducible apply Blk.set4) | (with_reducible apply Blk.set3) | (with_reducible apply Blk.set2) | ((with_reducible refine Blk.put ?_ ?_); · first | omega | (simp; omega)) | (with_reducible refine Blk.old ?_) | (with_reducible refine Blk.drew ?_) | (with_reducible refine Blk.drewN ?_) | ((with_reducible refine Blk.below hb ?_ ?_); · first | omega | (simp; done) | (simp; omega)) | ((with_reducible refine Blk.below hb4 ?_ ?_); · first | omega | (simp; done) | (simp; omega)) | ((with_reducible refine Blk.below hb5 ?_ ?_); · first | omega | (simp; done) | (simp; omega))))
  have lB1 := B1.lt
  have s1 := k1.size
  clear hb HD
  by_cases h0 : q = 0
  · subst h0
    have HF := Lib.hid (show nfF p 0 = 1 from rfl)
    rcases nf_unit hg with rfl | rfl
    · clear hg hp hq
      have HE := Lib.hid (fun W hx => areEntries_any ⟨w1.heap.size, 0, none⟩ 2 [1, 0] W (by simp) hx)
      go_wp2_with fail
      go_region_held3 (fun _ => True) (trivial) (fail)
      refine forget (fun W_ => Below w.heap.size w W_ ∧ Blk W_ (w.heap.size) 40 (#[.int .i64 0, .int .i64 0]) ∧ Blk W_ (w1.heap.size) 40 (#[.int .i64 (IntKind.i64.wrap (1)), .int .i64 (IntKind.i64.wrap (0))])) ⟨(by repeat (first | (with_reducible exact Below.refl _ _) | (with_reducible assumption) | (with_reducible refine Below.drew ?_) | (with_reducible refine Below.drewN ?_) | ((with_reducible refine Below.al ?_ ?_); · first | omega | (simp; done) | (simp; omega)) | ((with_reducible refine Below.sc ?_ ?_); · first | omega | (simp; done) | (simp; omega)) | ((with_reducible refine Below.thru hb ?_ ?_); · first | omega | (simp; done) | (simp; omega)) | ((with_reducible refine Below.thru hb4 ?_ ?_); · first | omega | (simp; done) | (simp; omega)) | ((with_reducible refine Below.thru hb5 ?_ ?_); · first | omega | (simp; done) | (simp; omega)))), (by repeat (first | (with_reducible assumption) | ((with_reducible refine Blk.new ?_); · first | omega | (simp; done) | (simp; omega)) | (with_reducible apply Blk.set4) | (with_reducible apply Blk.set3) | (with_reducible apply Blk.set2) | ((with_reducible refine Blk.put ?_ ?_); · first | omega | (simp; omega)) | (with_reducible refine Blk.old ?_) | (with_reducible refine Blk.drew ?_) | (with_reducible refine Blk.drewN ?_) | ((with_reducible refine Blk.below hb ?_ ?_); · first | omega | (simp; done) | (simp; omega)) | ((with_reducible refine Blk.below hb4 ?_ ?_); · first | omega | (simp; done) | (simp; omega)) | ((with_reducible refine Blk.below hb5 ?_ ?_); · first | omega | (simp; done) | (simp; omega)))), (by repeat (first | (with_reducible assumption) | ((with_reducible refine Blk.new ?_); · first | omega | (simp; done) | (simp; omega)) | (with_reducible apply Blk.set4) | (with_reducible apply Blk.set3) | (with_reducible apply Blk.set2) | ((with_reducible refine Blk.put ?_ ?_); · first | omega | (simp; omega)) | (with_reducible refine Blk.old ?_) | (with_reducible refine Blk.drew ?_) | (with_reducible refine Blk.drewN ?_) | ((with_reducible refine Blk.below hb ?_ ?_); · first | omega | (simp; done) | (simp; omega)) | ((with_reducible refine Blk.below hb4 ?_ ?_); · first | omega | (simp; done) | (simp; omega)) | ((with_reducible refine Blk.below hb5 ?_ ?_); · first | omega | (simp; done) | (simp; omega))))⟩ ?_
      rintro w3 ⟨kw3, B3, C3⟩
      have sw3 := kw3.size
      have lB3 := B3.lt
      have lC3 := C3.lt
      rw [show IntKind.i64.wrap (1) = 1 by rw [IntKind.wrap_i64]; omega, show IntKind.i64.wrap (0) = 0 by rw [IntKind.wrap_i64]; omega] at C3
      go_wp2_with fail
      refine (HE.out _ (fun j hj => by match j, hj with | 0, _ => exact C3.at rfl | 1, _ => exact C3.at rfl)).mono ?_
      rintro e w4 ⟨rfl, rfl⟩
      have hea : ([1, 0] : List Int).all entB = true := by decide
      rw [hea]
      clear hea
      have c3 := C3.p2
      have b3 := B3.p2
      have f30 := B3.free 0
      have f31 := B3.free 1
      go_wp2
      refine ret_at (v := .tuple #[.agg #[.int .i64 (1), .int .i64 (0)], .int .i64 0]) (fun w' => Blk w' (w.heap.size) 40 (#[.int .i64 (1), .int .i64 (0)])) (by repeat (first | (with_reducible assumption) | ((with_reducible refine Blk.new ?_); · first | omega | (simp; done) | (simp; omega)) | (with_reducible apply Blk.set4) | (with_reducible apply Blk.set3) | (with_reducible apply Blk.set2) | ((with_reducible refine Blk.put ?_ ?_); · first | omega | (simp; omega)) | (with_reducible refine Blk.old ?_) | (with_reducible refine Blk.drew ?_) | (with_reducible refine Blk.drewN ?_) | ((with_reducible refine Blk.below hb ?_ ?_); · first | omega | (simp; done) | (simp; omega)) | ((with_reducible refine Blk.below hb4 ?_ ?_); · first | omega | (simp; done) | (simp; omega)) | ((with_reducible refine Blk.below hb5 ?_ ?_); · first | omega | (simp; done) | (simp; omega)))) (fun w' hB => by have q := hB.p2; simp [results, Try.results32, go_sem, q]) rfl ?_
      exact ⟨by rw [HF.out]; rfl, (by repeat (first | (with_reducible exact Below.refl _ _) | (with_reducible assumption) | (with_reducible refine Below.drew ?_) | (with_reducible refine Below.drewN ?_) | ((with_reducible refine Below.al ?_ ?_); · first | omega | (simp; done) | (simp; omega)) | ((with_reducible refine Below.sc ?_ ?_); · first | omega | (simp; done) | (simp; omega)) | ((with_reducible refine Below.thru hb ?_ ?_); · first | omega | (simp; done) | (simp; omega)) | ((with_reducible refine Below.thru hb4 ?_ ?_); · first | omega | (simp; done) | (simp; omega)) | ((with_reducible refine Below.thru hb5 ?_ ?_); · first | omega | (simp; done) | (simp; omega))))⟩
    · clear hg hp hq
      have HE := Lib.hid (fun W hx => areEntries_any ⟨w1.heap.size, 0, none⟩ 2 [1, 0] W (by simp) hx)
      go_wp2_with fail
      go_region_held3 (fun _ => True) (trivial) (fail)
      refine forget (fun W_ => Below w.heap.size w W_ ∧ Blk W_ (w.heap.size) 40 (#[.int .i64 0, .int .i64 0]) ∧ Blk W_ (w1.heap.size) 40 (#[.int .i64 (IntKind.i64.wrap (1)), .int .i64 (IntKind.i64.wrap (0))])) ⟨(by repeat (first | (with_reducible exact Below.refl _ _) | (with_reducible assumption) | (with_reducible refine Below.drew ?_) | (with_reducible refine Below.drewN ?_) | ((with_reducible refine Below.al ?_ ?_); · first | omega | (simp; done) | (simp; omega)) | ((with_reducible refine Below.sc ?_ ?_); · first | omega | (simp; done) | (simp; omega)) | ((with_reducible refine Below.thru hb ?_ ?_); · first | omega | (simp; done) | (simp; omega)) | ((with_reducible refine Below.thru hb4 ?_ ?_); · first | omega | (simp; done) | (simp; omega)) | ((with_reducible refine Below.thru hb5 ?_ ?_); · first | omega | (simp; done) | (simp; omega)))), (by repeat (first | (with_reducible assumption) | ((with_reducible refine Blk.new ?_); · first | omega | (simp; done) | (simp; omega)) | (with_reducible apply Blk.set4) | (with_reducible apply Blk.set3) | (with_reducible apply Blk.set2) | ((with_reducible refine Blk.put ?_ ?_); · first | omega | (simp; omega)) | (with_reducible refine Blk.old ?_) | (with_reducible refine Blk.drew ?_) | (with_reducible refine Blk.drewN ?_) | ((with_reducible refine Blk.below hb ?_ ?_); · first | omega | (simp; done) | (simp; omega)) | ((with_reducible refine Blk.below hb4 ?_ ?_); · first | omega | (simp; done) | (simp; omega)) | ((with_reducible refine Blk.below hb5 ?_ ?_); · first | omega | (simp; done) | (simp; omega)))), (by repeat (first | (with_reducible assumption) | ((with_reducible refine Blk.new ?_); · first | omega | (simp; done) | (simp; omega)) | (with_reducible apply Blk.set4) | (with_reducible apply Blk.set3) | (with_reducible apply Blk.set2) | ((with_reducible refine Blk.put ?_ ?_); · first | omega | (simp; omega)) | (with_reducible refine Blk.old ?_) | (with_reducible refine Blk.drew ?_) | (with_reducible refine Blk.drewN ?_) | ((with_reducible refine Blk.below hb ?_ ?_); · first | omega | (simp; done) | (simp; omega)) | ((with_reducible refine Blk.below hb4 ?_ ?_); · first | omega | (simp; done) | (simp; omega)) | ((with_reducible refine Blk.below hb5 ?_ ?_); · first | omega | (simp; done) | (simp; omega))))⟩ ?_
      rintro w3 ⟨kw3, B3, C3⟩
      have sw3 := kw3.size
      have lB3 := B3.lt
      have lC3 := C3.lt
      rw [show IntKind.i64.wrap (1) = 1 by rw [IntKind.wrap_i64]; omega, show IntKind.i64.wrap (0) = 0 by rw [IntKind.wrap_i64]; omega] at C3
      go_wp2_with fail
      refine (HE.out _ (fun j hj => by match j, hj with | 0, _ => exact C3.at rfl | 1, _ => exact C3.at rfl)).mono ?_
      rintro e w4 ⟨rfl, rfl⟩
      have hea : ([1, 0] : List Int).all entB = true := by decide
      rw [hea]
      clear hea
      have c3 := C3.p2
      have b3 := B3.p2
      have f30 := B3.free 0
      have f31 := B3.free 1
      go_wp2
      refine ret_at (v := .tuple #[.agg #[.int .i64 (1), .int .i64 (0)], .int .i64 0]) (fun w' => Blk w' (w.heap.size) 40 (#[.int .i64 (1), .int .i64 (0)])) (by repeat (first | (with_reducible assumption) | ((with_reducible refine Blk.new ?_); · first | omega | (simp; done) | (simp; omega)) | (with_reducible apply Blk.set4) | (with_reducible apply Blk.set3) | (with_reducible apply Blk.set2) | ((with_reducible refine Blk.put ?_ ?_); · first | omega | (simp; omega)) | (with_reducible refine Blk.old ?_) | (with_reducible refine Blk.drew ?_) | (with_reducible refine Blk.drewN ?_) | ((with_reducible refine Blk.below hb ?_ ?_); · first | omega | (simp; done) | (simp; omega)) | ((with_reducible refine Blk.below hb4 ?_ ?_); · first | omega | (simp; done) | (simp; omega)) | ((with_reducible refine Blk.below hb5 ?_ ?_); · first | omega | (simp; done) | (simp; omega)))) (fun w' hB => by have q := hB.p2; simp [results, Try.results32, go_sem, q]) rfl ?_
      exact ⟨by rw [HF.out]; rfl, (by repeat (first | (with_reducible exact Below.refl _ _) | (with_reducible assumption) | (with_reducible refine Below.drew ?_) | (with_reducible refine Below.drewN ?_) | ((with_reducible refine Below.al ?_ ?_); · first | omega | (simp; done) | (simp; omega)) | ((with_reducible refine Below.sc ?_ ?_); · first | omega | (simp; done) | (simp; omega)) | ((with_reducible refine Below.thru hb ?_ ?_); · first | omega | (simp; done) | (simp; omega)) | ((with_reducible refine Below.thru hb4 ?_ ?_); · first | omega | (simp; done) | (simp; omega)) | ((with_reducible refine Below.thru hb5 ?_ ?_); · first | omega | (simp; done) | (simp; omega))))⟩
  · have HF := Lib.hid (show nfF p q = p by unfold nfF; rw [beq_dec, decide_eq_false h0]; rfl)
    have hq1 : 1 ≤ q := by omega
    clear hg
    have HE := Lib.hid (fun W hx => areEntries_any ⟨w1.heap.size, 0, none⟩ 2 [p, (q : Int)] W (by simp) hx)
    go_wp2_with fail
    go_region_held3 (fun _ => True) (trivial) (fail)
    refine forget (fun W_ => Below w.heap.size w W_ ∧ Blk W_ (w.heap.size) 40 (#[.int .i64 0, .int .i64 0]) ∧ Blk W_ (w1.heap.size) 40 (#[.int .i64 (IntKind.i64.wrap (p)), .int .i64 (IntKind.i64.wrap ((q : Int)))])) ⟨(by repeat (first | (with_reducible exact Below.refl _ _) | (with_reducible assumption) | (with_reducible refine Below.drew ?_) | (with_reducible refine Below.drewN ?_) | ((with_reducible refine Below.al ?_ ?_); · first | omega | (simp; done) | (simp; omega)) | ((with_reducible refine Below.sc ?_ ?_); · first | omega | (simp; done) | (simp; omega)) | ((with_reducible refine Below.thru hb ?_ ?_); · first | omega | (simp; done) | (simp; omega)) | ((with_reducible refine Below.thru hb4 ?_ ?_); · first | omega | (simp; done) | (simp; omega)) | ((with_reducible refine Below.thru hb5 ?_ ?_); · first | omega | (simp; done) | (simp; omega)))), (by repeat (first | (with_reducible assumption) | ((with_reducible refine Blk.new ?_); · first | omega | (simp; done) | (simp; omega)) | (with_reducible apply Blk.set4) | (with_reducible apply Blk.set3) | (with_reducible apply Blk.set2) | ((with_reducible refine Blk.put ?_ ?_); · first | omega | (simp; omega)) | (with_reducible refine Blk.old ?_) | (with_reducible refine Blk.drew ?_) | (with_reducible refine Blk.drewN ?_) | ((with_reducible refine Blk.below hb ?_ ?_); · first | omega | (simp; done) | (simp; omega)) | ((with_reducible refine Blk.below hb4 ?_ ?_); · first | omega | (simp; done) | (simp; omega)) | ((with_reducible refine Blk.below hb5 ?_ ?_); · first | omega | (simp; done) | (simp; omega)))), (by repeat (first | (with_reducible assumption) | ((with_reducible refine Blk.new ?_); · first | omega | (simp; done) | (simp; omega)) | (with_reducible apply Blk.set4) | (with_reducible apply Blk.set3) | (with_reducible apply Blk.set2) | ((with_reducible refine Blk.put ?_ ?_); · first | omega | (simp; omega)) | (with_reducible refine Blk.old ?_) | (with_reducible refine Blk.drew ?_) | (with_reducible refine Blk.drewN ?_) | ((with_reducible refine Blk.below hb ?_ ?_); · first | omega | (simp; done) | (simp; omega)) | ((with_reducible refine Blk.below hb4 ?_ ?_); · first | omega | (simp; done) | (simp; omega)) | ((with_reducible refine Blk.below hb5 ?_ ?_); · first | omega | (simp; done) | (simp; omega))))⟩ ?_
    rintro w3 ⟨kw3, B3, C3⟩
    have sw3 := kw3.size
    have lB3 := B3.lt
    have lC3 := C3.lt
    rw [show IntKind.i64.wrap (p) = p by rw [IntKind.wrap_i64]; omega, show IntKind.i64.wrap ((q : Int)) = (q : Int) by rw [IntKind.wrap_i64]; omega] at C3
    go_wp2_with fail
    refine (HE.out _ (fun j hj => by match j, hj with | 0, _ => exact C3.at rfl | 1, _ => exact C3.at rfl)).mono ?_
    rintro e w4 ⟨rfl, rfl⟩
    have hea : ([p, (q : Int)] : List Int).all entB = true := by simp only [List.all_cons, List.all_nil, entB_mk (show -1000000000 ≤ p ∧ p ≤ 1000000000 by omega), entB_mk (show -1000000000 ≤ (q : Int) ∧ (q : Int) ≤ 1000000000 by omega), Bool.and_self]
    rw [hea]
    clear hea
    have c3 := C3.p2
    have b3 := B3.p2
    have f30 := B3.free 0
    have f31 := B3.free 1
    go_wp2
    refine ret_at (v := .tuple #[.agg #[.int .i64 (p), .int .i64 ((q : Int))], .int .i64 0]) (fun w' => Blk w' (w.heap.size) 40 (#[.int .i64 (p), .int .i64 ((q : Int))])) (by repeat (first | (with_reducible assumption) | ((with_reducible refine Blk.new ?_); · first | omega | (simp; done) | (simp; omega)) | (with_reducible apply Blk.set4) | (with_reducible apply Blk.set3) | (with_reducible apply Blk.set2) | ((with_reducible refine Blk.put ?_ ?_); · first | omega | (simp; omega)) | (with_reducible refine Blk.old ?_) | (with_reducible refine Blk.drew ?_) | (with_reducible refine Blk.drewN ?_) | ((with_reducible refine Blk.below hb ?_ ?_); · first | omega | (simp; done) | (simp; omega)) | ((with_reducible refine Blk.below hb4 ?_ ?_); · first | omega | (simp; done) | (simp; omega)) | ((with_reducible refine Blk.below hb5 ?_ ?_); · first | omega | (simp; done) | (simp; omega)))) (fun w' hB => by have q := hB.p2; simp [results, Try.results32, go_sem, q]) rfl ?_
    exact ⟨by rw [HF.out], (by repeat (first | (with_reducible exact Below.refl _ _) | (with_reducible assumption) | (with_reducible refine Below.drew ?_) | (with_reducible refine Below.drewN ?_) | ((with_reducible refine Below.al ?_ ?_); · first | omega | (simp; done) | (simp; omega)) | ((with_reducible refine Below.sc ?_ ?_); · first | omega | (simp; done) | (simp; omega)) | ((with_reducible refine Below.thru hb ?_ ?_); · first | omega | (simp; done) | (simp; omega)) | ((with_reducible refine Below.thru hb4 ?_ ?_); · first | omega | (simp; done) | (simp; omega)) | ((with_reducible refine Below.thru hb5 ?_ ?_); · first | omega | (simp; done) | (simp; omega))))⟩


set_option maxRecDepth 8000 in
set_option maxHeartbeats 1000000 in
theorem LeadFraction_any (m : M) (p q x : Int) (y : Nat) (w : World) (h : m.ok = true) (hf : fracB p q = true) (hx : m.a * p + m.b * q = x) (hy : m.c * p + m.d * q = (y : Int)) (hg : Int.gcd x (y : Int) = 1) (hxb : -1000000 ≤ x ∧ x ≤ 1000000) (hyb : y ≤ 1000000) (hpq : (p = 1 ∧ q = 0) ∨ (p = 0 ∧ q = 1)) :
    Calls Try.prog 12 #[mv m, .agg #[.int .i64 p, .int .i64 q]] w fun e w' => e = .returned (.tuple #[.agg #[.int .i64 (nfF x y), .int .i64 (y : Int)], .int .i64 0]) ∧ Below w.heap.size w w' := by
  have HI := Lib.hid (fun w' => IsMatrix_any m w')
  rw [h] at HI
  have HF := Lib.hid (fun w' => IsFraction_any p q w')
  rw [hf] at HF
  have HR := Lib.hid (fun w' => fraction_any x y hg hxb hyb w')
  have hb := M.ents_bd (M.ok_ents h)
  have h1 : wrap64 (wrap64 (m.a * p) + wrap64 (m.b * q)) = x := by
    rcases hpq with ⟨rfl, rfl⟩ | ⟨rfl, rfl⟩
    · rw [Int.mul_one, Int.mul_zero] at hx ⊢; unfold wrap64; omega
    · rw [Int.mul_zero, Int.mul_one] at hx ⊢; unfold wrap64; omega
  have h2 : wrap64 (wrap64 (m.c * p) + wrap64 (m.d * q)) = (y : Int) := by
    rcases hpq with ⟨rfl, rfl⟩ | ⟨rfl, rfl⟩
    · rw [Int.mul_one, Int.mul_zero] at hy ⊢; unfold wrap64; omega
    · rw [Int.mul_zero, Int.mul_one] at hy ⊢; unfold wrap64; omega
  clear h hf hg hx hy hpq hb
  go_enter Try.func12, Try.ntmps12
  go_wp2_with fail
  refine (HI.out _).mono ?_
  rintro e w1 ⟨rfl, hb⟩
  have B1 : Blk w1 (w.heap.size) 30 (mcs m) := (by repeat (first | (with_reducible assumption) | ((with_reducible refine Blk.new ?_); · first | omega | (simp; done) | (simp; omega)) | (with_reducible apply Blk.set4) | (with_reducible apply Blk.set3) | (with_reducible apply Blk.set2) | ((with_reducible refine Blk.put ?_ ?_); · first | omega | (simp; omega)) | (with_reducible refine Blk.old ?_) | (with_reducible refine Blk.drew ?_) | (with_reducible refine Blk.drewN ?_) | ((with_reducible refine Blk.below hb ?_ ?_); · first | omega | (simp; done) | (simp; omega)) | ((with_reducible refine Blk.below hb4 ?_ ?_); · first | omega | (simp; done) | (simp; omega)) | ((with_reducible refine Blk.below hb5 ?_ ?_); · first | omega | (simp; done) | (simp; omega))))
  have lB1 := B1.lt
  have F1 : Blk w1 (w.heap.size + 1) 40 (#[.int .i64 p, .int .i64 q]) := (by repeat (first | (with_reducible assumption) | ((with_reducible refine Blk.new ?_); · first | omega | (simp; done) | (simp; omega)) | (with_reducible apply Blk.set4) | (with_reducible apply Blk.set3) | (with_reducible apply Blk.set2) | ((with_reducible refine Blk.put ?_ ?_); · first | omega | (simp; omega)) | (with_reducible refine Blk.old ?_) | (with_reducible refine Blk.drew ?_) | (with_reducible refine Blk.drewN ?_) | ((with_reducible refine Blk.below hb ?_ ?_); · first | omega | (simp; done) | (simp; omega)) | ((with_reducible refine Blk.below hb4 ?_ ?_); · first | omega | (simp; done) | (simp; omega)) | ((with_reducible refine Blk.below hb5 ?_ ?_); · first | omega | (simp; done) | (simp; omega))))
  have lF1 := F1.lt
  have R1 : Blk w1 (w.heap.size + 1 + 1) 40 (#[.int .i64 0, .int .i64 0]) := (by repeat (first | (with_reducible assumption) | ((with_reducible refine Blk.new ?_); · first | omega | (simp; done) | (simp; omega)) | (with_reducible apply Blk.set4) | (with_reducible apply Blk.set3) | (with_reducible apply Blk.set2) | ((with_reducible refine Blk.put ?_ ?_); · first | omega | (simp; omega)) | (with_reducible refine Blk.old ?_) | (with_reducible refine Blk.drew ?_) | (with_reducible refine Blk.drewN ?_) | ((with_reducible refine Blk.below hb ?_ ?_); · first | omega | (simp; done) | (simp; omega)) | ((with_reducible refine Blk.below hb4 ?_ ?_); · first | omega | (simp; done) | (simp; omega)) | ((with_reducible refine Blk.below hb5 ?_ ?_); · first | omega | (simp; done) | (simp; omega))))
  have lR1 := R1.lt
  have kw1 : Below w.heap.size w w1 := (by repeat (first | (with_reducible exact Below.refl _ _) | (with_reducible assumption) | (with_reducible refine Below.drew ?_) | (with_reducible refine Below.drewN ?_) | ((with_reducible refine Below.al ?_ ?_); · first | omega | (simp; done) | (simp; omega)) | ((with_reducible refine Below.sc ?_ ?_); · first | omega | (simp; done) | (simp; omega)) | ((with_reducible refine Below.thru hb ?_ ?_); · first | omega | (simp; done) | (simp; omega)) | ((with_reducible refine Below.thru hb4 ?_ ?_); · first | omega | (simp; done) | (simp; omega)) | ((with_reducible refine Below.thru hb5 ?_ ?_); · first | omega | (simp; done) | (simp; omega))))
  have sw1 := kw1.size
  clear hb
  have q0 := F1.at (i := 0) rfl
  have q1 := F1.at (i := 1) rfl
  go_wp2_with fail
  refine (HF.out _).mono ?_
  rintro e w2 ⟨rfl, hb⟩
  have B2 : Blk w2 (w.heap.size) 30 (mcs m) := (by repeat (first | (with_reducible assumption) | ((with_reducible refine Blk.new ?_); · first | omega | (simp; done) | (simp; omega)) | (with_reducible apply Blk.set4) | (with_reducible apply Blk.set3) | (with_reducible apply Blk.set2) | ((with_reducible refine Blk.put ?_ ?_); · first | omega | (simp; omega)) | (with_reducible refine Blk.old ?_) | (with_reducible refine Blk.drew ?_) | (with_reducible refine Blk.drewN ?_) | ((with_reducible refine Blk.below hb ?_ ?_); · first | omega | (simp; done) | (simp; omega)) | ((with_reducible refine Blk.below hb4 ?_ ?_); · first | omega | (simp; done) | (simp; omega)) | ((with_reducible refine Blk.below hb5 ?_ ?_); · first | omega | (simp; done) | (simp; omega))))
  have lB2 := B2.lt
  have F2 : Blk w2 (w.heap.size + 1) 40 (#[.int .i64 p, .int .i64 q]) := (by repeat (first | (with_reducible assumption) | ((with_reducible refine Blk.new ?_); · first | omega | (simp; done) | (simp; omega)) | (with_reducible apply Blk.set4) | (with_reducible apply Blk.set3) | (with_reducible apply Blk.set2) | ((with_reducible refine Blk.put ?_ ?_); · first | omega | (simp; omega)) | (with_reducible refine Blk.old ?_) | (with_reducible refine Blk.drew ?_) | (with_reducible refine Blk.drewN ?_) | ((with_reducible refine Blk.below hb ?_ ?_); · first | omega | (simp; done) | (simp; omega)) | ((with_reducible refine Blk.below hb4 ?_ ?_); · first | omega | (simp; done) | (simp; omega)) | ((with_reducible refine Blk.below hb5 ?_ ?_); · first | omega | (simp; done) | (simp; omega))))
  have lF2 := F2.lt
  have R2 : Blk w2 (w.heap.size + 1 + 1) 40 (#[.int .i64 0, .int .i64 0]) := (by repeat (first | (with_reducible assumption) | ((with_reducible refine Blk.new ?_); · first | omega | (simp; done) | (simp; omega)) | (with_reducible apply Blk.set4) | (with_reducible apply Blk.set3) | (with_reducible apply Blk.set2) | ((with_reducible refine Blk.put ?_ ?_); · first | omega | (simp; omega)) | (with_reducible refine Blk.old ?_) | (with_reducible refine Blk.drew ?_) | (with_reducible refine Blk.drewN ?_) | ((with_reducible refine Blk.below hb ?_ ?_); · first | omega | (simp; done) | (simp; omega)) | ((with_reducible refine Blk.below hb4 ?_ ?_); · first | omega | (simp; done) | (simp; omega)) | ((with_reducible refine Blk.below hb5 ?_ ?_); · first | omega | (simp; done) | (simp; omega))))
  have lR2 := R2.lt
  have kw2 : Below w.heap.size w w2 := (by repeat (first | (with_reducible exact Below.refl _ _) | (with_reducible assumption) | (with_reducible refine Below.drew ?_) | (with_reducible refine Below.drewN ?_) | ((with_reducible refine Below.al ?_ ?_); · first | omega | (simp; done) | (simp; omega)) | ((with_reducible refine Below.sc ?_ ?_); · first | omega | (simp; done) | (simp; omega)) | ((with_reducible refine Below.thru hb ?_ ?_); · first | omega | (simp; done) | (simp; omega)) | ((with_reducible refine Below.thru hb4 ?_ ?_); · first | omega | (simp; done) | (simp; omega)) | ((with_reducible refine Below.thru hb5 ?_ ?_); · first | omega | (simp; done) | (simp; omega))))
  have sw2 := kw2.size
  clear hb
  clear q0 q1
  have q0 := F2.at (i := 0) rfl
  have q1 := F2.at (i := 1) rfl
  have q2 := B2.m
  have q3 := R2.at (i := 0) rfl
  have q4 := R2.at (i := 1) rfl
  have q5 := R2.free 0
  have q6 := R2.free 1
  go_wp2_with fail
  rw [h1, h2]
  refine (HR.out _).mono ?_
  rintro e w3 ⟨rfl, hb⟩
  have R3 : Blk w3 (w.heap.size + 1 + 1) 40 #[.int .i64 0, .int .i64 0] := (by repeat (first | (with_reducible assumption) | ((with_reducible refine Blk.new ?_); · first | omega | (simp; done) | (simp; omega)) | (with_reducible apply Blk.set4) | (with_reducible apply Blk.set3) | (with_reducible apply Blk.set2) | ((with_reducible refine Blk.put ?_ ?_); · first | omega | (simp; omega)) | (with_reducible refine Blk.old ?_) | (with_reducible refine Blk.drew ?_) | (with_reducible refine Blk.drewN ?_) | ((with_reducible refine Blk.below hb ?_ ?_); · first | omega | (simp; done) | (simp; omega)) | ((with_reducible refine Blk.below hb4 ?_ ?_); · first | omega | (simp; done) | (simp; omega)) | ((with_reducible refine Blk.below hb5 ?_ ?_); · first | omega | (simp; done) | (simp; omega))))
  have kw3 : Below w.heap.size w w3 := (by repeat (first | (with_reducible exact Below.refl _ _) | (with_reducible assumption) | (with_reducible refine Below.drew ?_) | (with_reducible refine Below.drewN ?_) | ((with_reducible refine Below.al ?_ ?_); · first | omega | (simp; done) | (simp; omega)) | ((with_reducible refine Below.sc ?_ ?_); · first | omega | (simp; done) | (simp; omega)) | ((with_reducible refine Below.thru hb ?_ ?_); · first | omega | (simp; done) | (simp; omega)) | ((with_reducible refine Below.thru hb4 ?_ ?_); · first | omega | (simp; done) | (simp; omega)) | ((with_reducible refine Below.thru hb5 ?_ ?_); · first | omega | (simp; done) | (simp; omega))))
  have lR3 := R3.lt
  clear hb q0 q1 q2 q3 q4 q5 q6
  have q3 := R3.at (i := 0) rfl
  have q4 := R3.at (i := 1) rfl
  have q5 := R3.free 0
  have q6 := R3.free 1
  go_wp2
  refine ret_at (v := .tuple #[.agg #[.int .i64 (nfF x y), .int .i64 (y : Int)], .int .i64 0]) (fun w' => Blk w' (w.heap.size + 1 + 1) 40 (#[.int .i64 (nfF x y), .int .i64 (y : Int)])) (by repeat (first | (with_reducible assumption) | ((with_reducible refine Blk.new ?_); · first | omega | (simp; done) | (simp; omega)) | (with_reducible apply Blk.set4) | (with_reducible apply Blk.set3) | (with_reducible apply Blk.set2) | ((with_reducible refine Blk.put ?_ ?_); · first | omega | (simp; omega)) | (with_reducible refine Blk.old ?_) | (with_reducible refine Blk.drew ?_) | (with_reducible refine Blk.drewN ?_) | ((with_reducible refine Blk.below hb ?_ ?_); · first | omega | (simp; done) | (simp; omega)) | ((with_reducible refine Blk.below hb4 ?_ ?_); · first | omega | (simp; done) | (simp; omega)) | ((with_reducible refine Blk.below hb5 ?_ ?_); · first | omega | (simp; done) | (simp; omega)))) (fun w' hB => by have q := hB.p2; simp [results, Try.results12, go_sem, q]) rfl ?_
  exact ⟨rfl, (by repeat (first | (with_reducible exact Below.refl _ _) | (with_reducible assumption) | (with_reducible refine Below.drew ?_) | (with_reducible refine Below.drewN ?_) | ((with_reducible refine Below.al ?_ ?_); · first | omega | (simp; done) | (simp; omega)) | ((with_reducible refine Below.sc ?_ ?_); · first | omega | (simp; done) | (simp; omega)) | ((with_reducible refine Below.thru hb ?_ ?_); · first | omega | (simp; done) | (simp; omega)) | ((with_reducible refine Below.thru hb4 ?_ ?_); · first | omega | (simp; done) | (simp; omega)) | ((with_reducible refine Below.thru hb5 ?_ ?_); · first | omega | (simp; done) | (simp; omega))))⟩

end Go.Proofs.Ytjpkopnkfpgahaa
