/- The walk of the law FnMarkov. -/
import Derived.Test.YtbmkpcenjjdflaaFmkB
namespace Go.Proofs.Ytbmkpcenjjdflaa
open Go.RowKit
set_option linter.unusedSimpArgs false

set_option maxRecDepth 8000 in
set_option maxHeartbeats 4000000 in
theorem FnMarkov_walk (v : Value) (code : List Int) (w : World) (hv : SlIn w .u8 v code) (hw : ∀ n ∈ code, (Lit.int .u8 n).wf = true) (_ : code.length * 1 ≤ 140737488351232) :
    Calls Try.prog 5 #[v] w fun e w' => e = .returned (.bool true) ∧ Below w.heap.size w w' := by
  have HV := Lib.hid hv
  have HW := Lib.hid (show ∀ x ∈ code, 0 ≤ x ∧ x ≤ 255 from fun x hx => by
    have := hw x hx
    simp [Lit.wf] at this
    have e1 : IntKind.u8.min = 0 := rfl
    have e2 : IntKind.u8.max = 255 := rfl
    omega)
  by_cases hbig : (code.length : Int) > 4096
  · have hb1 := big_any hv
    rw [decide_eq_true hbig] at hb1
    clear hv hw
    go_enter Try.func5, Try.ntmps5
    go_wp2_with fail
    refine hb1.mono ?_
    rintro e w1 ⟨rfl, hb⟩
    go_wp2
    go_ret
    exact ⟨rfl, hb⟩
  have HC := Lib.hid (show CodeOk code from ⟨by omega, HW.out⟩)
  have hb1 := big_any hv
  rw [decide_eq_false hbig] at hb1
  clear hv hw hbig HW
  go_enter Try.func5, Try.ntmps5
  go_wp2_with fail
  refine (hb1).mono ?_
  rintro e w1 ⟨rfl, hb⟩
  have kw1 : Below w.heap.size w w1 := (by repeat (first | (with_reducible exact Below.refl _ _) | (with_reducible assumption) | (with_reducible refine Below.drew ?_) | (with_reducible refine Below.drewN ?_) | ((with_reducible refine Below.al ?_ ?_); · first | omega | (simp; done) | (simp; omega)) | ((with_reducible refine Below.sc ?_ ?_); · first | omega | (simp; done) | (simp; omega)) | ((with_reducible refine Below.thru hb ?_ ?_); · first | omega | (simp; done) | (simp; omega))))
  have sw1 := kw1.size
  clear hb
  clear hb1
  go_wp2_with fail
  refine (drawNeighbour_any HC.out (HV.out.below kw1)).mono ?_
  rintro e w2 ⟨t, i, rfl, hb⟩
  have kw2 : Below w.heap.size w w2 := (by repeat (first | (with_reducible exact Below.refl _ _) | (with_reducible assumption) | (with_reducible refine Below.drew ?_) | (with_reducible refine Below.drewN ?_) | ((with_reducible refine Below.al ?_ ?_); · first | omega | (simp; done) | (simp; omega)) | ((with_reducible refine Below.sc ?_ ?_); · first | omega | (simp; done) | (simp; omega)) | ((with_reducible refine Below.thru hb ?_ ?_); · first | omega | (simp; done) | (simp; omega))))
  have sw2 := kw2.size
  clear hb kw1 sw1
  have HQ := Lib.hid (nbR_cases t i)
  have HN1 := Lib.hid (fun w' => NeighbourOf_any t i w')
  have HN2 := Lib.hid (fun w' => specNeighbourOf_any t i w')
  generalize nbR t i = rr at *
  obtain ⟨nx, c⟩ := rr
  go_wp2_with fail
  refine (HN1.out _).mono ?_
  rintro e w3 ⟨rfl, hb⟩
  have B3 : Blk w3 w2.heap.size 36 (tcs t) := (by repeat (first | (with_reducible assumption) | ((with_reducible refine Blk.new ?_); · first | omega | (simp; done) | (simp; omega)) | (with_reducible apply Blk.set4) | (with_reducible apply Blk.set3) | (with_reducible apply Blk.set2) | ((with_reducible refine Blk.put ?_ ?_); · first | omega | (simp; omega)) | (with_reducible refine Blk.old ?_) | (with_reducible refine Blk.drew ?_) | (with_reducible refine Blk.drewN ?_) | ((with_reducible refine Blk.below hb ?_ ?_); · first | omega | (simp; done) | (simp; omega))))
  have kw3 : Below w.heap.size w w3 := (by repeat (first | (with_reducible exact Below.refl _ _) | (with_reducible assumption) | (with_reducible refine Below.drew ?_) | (with_reducible refine Below.drewN ?_) | ((with_reducible refine Below.al ?_ ?_); · first | omega | (simp; done) | (simp; omega)) | ((with_reducible refine Below.sc ?_ ?_); · first | omega | (simp; done) | (simp; omega)) | ((with_reducible refine Below.thru hb ?_ ?_); · first | omega | (simp; done) | (simp; omega))))
  have sw3 := kw3.size
  have lB3 := B3.lt
  have q3 := B3.t
  clear hb
  go_wp2_with fail
  refine (HN2.out _).mono ?_
  rintro e w4 ⟨rfl, hb⟩
  have B4 : Blk w4 w2.heap.size 36 (tcs t) := (by repeat (first | (with_reducible assumption) | ((with_reducible refine Blk.new ?_); · first | omega | (simp; done) | (simp; omega)) | (with_reducible apply Blk.set4) | (with_reducible apply Blk.set3) | (with_reducible apply Blk.set2) | ((with_reducible refine Blk.put ?_ ?_); · first | omega | (simp; omega)) | (with_reducible refine Blk.old ?_) | (with_reducible refine Blk.drew ?_) | (with_reducible refine Blk.drewN ?_) | ((with_reducible refine Blk.below hb ?_ ?_); · first | omega | (simp; done) | (simp; omega))))
  have C4 : Blk w4 w3.heap.size 36 (tcs nx) := (by repeat (first | (with_reducible assumption) | ((with_reducible refine Blk.new ?_); · first | omega | (simp; done) | (simp; omega)) | (with_reducible apply Blk.set4) | (with_reducible apply Blk.set3) | (with_reducible apply Blk.set2) | ((with_reducible refine Blk.put ?_ ?_); · first | omega | (simp; omega)) | (with_reducible refine Blk.old ?_) | (with_reducible refine Blk.drew ?_) | (with_reducible refine Blk.drewN ?_) | ((with_reducible refine Blk.below hb ?_ ?_); · first | omega | (simp; done) | (simp; omega))))
  have kw4 : Below w.heap.size w w4 := (by repeat (first | (with_reducible exact Below.refl _ _) | (with_reducible assumption) | (with_reducible refine Below.drew ?_) | (with_reducible refine Below.drewN ?_) | ((with_reducible refine Below.al ?_ ?_); · first | omega | (simp; done) | (simp; omega)) | ((with_reducible refine Below.sc ?_ ?_); · first | omega | (simp; done) | (simp; omega)) | ((with_reducible refine Below.thru hb ?_ ?_); · first | omega | (simp; done) | (simp; omega))))
  have sw4 := kw4.size
  have lB4 := B4.lt
  have lC4 := C4.lt
  have h24 := Nat.lt_of_lt_of_le lB3 (Nat.le_of_lt lC4)
  clear hb HN1 HN2 q3 B3 kw3
  go_wp2_with fail
  refine forget (fun W_ => Below w.heap.size w W_ ∧ Blk W_ (w2.heap.size) 36 (tcs t) ∧ Blk W_ (w3.heap.size) 36 (tcs nx) ∧ Blk W_ (w4.heap.size) 36 (tcs nx)) ⟨(by repeat (first | (with_reducible exact Below.refl _ _) | (with_reducible assumption) | (with_reducible refine Below.drew ?_) | (with_reducible refine Below.drewN ?_) | ((with_reducible refine Below.al ?_ ?_); · first | omega | (simp; done) | (simp; omega)) | ((with_reducible refine Below.sc ?_ ?_); · first | omega | (simp; done) | (simp; omega)) | ((with_reducible refine Below.thru hb ?_ ?_); · first | omega | (simp; done) | (simp; omega)))), (by repeat (first | (with_reducible assumption) | ((with_reducible refine Blk.new ?_); · first | omega | (simp; done) | (simp; omega)) | (with_reducible apply Blk.set4) | (with_reducible apply Blk.set3) | (with_reducible apply Blk.set2) | ((with_reducible refine Blk.put ?_ ?_); · first | omega | (simp; omega)) | (with_reducible refine Blk.old ?_) | (with_reducible refine Blk.drew ?_) | (with_reducible refine Blk.drewN ?_) | ((with_reducible refine Blk.below hb ?_ ?_); · first | omega | (simp; done) | (simp; omega)))), (by repeat (first | (with_reducible assumption) | ((with_reducible refine Blk.new ?_); · first | omega | (simp; done) | (simp; omega)) | (with_reducible apply Blk.set4) | (with_reducible apply Blk.set3) | (with_reducible apply Blk.set2) | ((with_reducible refine Blk.put ?_ ?_); · first | omega | (simp; omega)) | (with_reducible refine Blk.old ?_) | (with_reducible refine Blk.drew ?_) | (with_reducible refine Blk.drewN ?_) | ((with_reducible refine Blk.below hb ?_ ?_); · first | omega | (simp; done) | (simp; omega)))), (by repeat (first | (with_reducible assumption) | ((with_reducible refine Blk.new ?_); · first | omega | (simp; done) | (simp; omega)) | (with_reducible apply Blk.set4) | (with_reducible apply Blk.set3) | (with_reducible apply Blk.set2) | ((with_reducible refine Blk.put ?_ ?_); · first | omega | (simp; omega)) | (with_reducible refine Blk.old ?_) | (with_reducible refine Blk.drew ?_) | (with_reducible refine Blk.drewN ?_) | ((with_reducible refine Blk.below hb ?_ ?_); · first | omega | (simp; done) | (simp; omega))))⟩ ?_
  rintro w5 ⟨kw5, B5, C5, D5⟩
  have sw5 := kw5.size
  have lB5 := B5.lt
  have lC5 := C5.lt
  have lD5 := D5.lt
  clear B4 C4 kw4
  have p5 := fun x : Later w5 => Blk.t (B5.below x.h lB5)
  have p5' := fun x : Later w5 => Blk.t (C5.below x.h lC5)
  have p5'' := fun x : Later w5 => Blk.t (D5.below x.h lD5)
  have b1 := fun x => (p5 x).1
  have b2 := fun x => (p5 x).2.1
  have b3 := fun x => (p5 x).2.2
  have c1 := fun x => (p5' x).1
  have c2 := fun x => (p5' x).2.1
  have c3 := fun x => (p5' x).2.2
  have d1 := fun x => (p5'' x).1
  have d2 := fun x => (p5'' x).2.1
  have d3 := fun x => (p5'' x).2.2
  clear p5 p5' p5''
  have hnq := run_neqT_same nx
  have HI1 := Lib.hid (fun w' => IsTriple_t t w')
  have HI2 := Lib.hid (fun w' => specIsTriple_t t w')
  go_cut [62] (fun s_ wx => s_ = .bool false ∧ Blk wx w2.heap.size 36 (tcs t) ∧ Blk wx w3.heap.size 36 (tcs nx) ∧ Below w.heap.size w wx)
  case first =>
    refine wp_region_calm (by kernel_rfl) (by kernel_rfl) ?_
    repeat (go_big_quiet_step (first | (go_at_call 20; with_reducible exact Calls.calm (HI1.out _)) | (go_at_call 21; with_reducible exact Calls.calm (HI2.out _))))
    refine wpQuiet_nil ?_
    rintro w6 ⟨⟨_, hb⟩, rfl⟩
    have B6 : Blk w6 (w2.heap.size) 36 (tcs t) := (by repeat (first | (with_reducible assumption) | ((with_reducible refine Blk.new ?_); · first | omega | (simp; done) | (simp; omega)) | (with_reducible apply Blk.set4) | (with_reducible apply Blk.set3) | (with_reducible apply Blk.set2) | ((with_reducible refine Blk.put ?_ ?_); · first | omega | (simp; omega)) | (with_reducible refine Blk.old ?_) | (with_reducible refine Blk.drew ?_) | (with_reducible refine Blk.drewN ?_) | ((with_reducible refine Blk.below hb ?_ ?_); · first | omega | (simp; done) | (simp; omega))))
    have lB6 := B6.lt
    have C6 : Blk w6 (w3.heap.size) 36 (tcs nx) := (by repeat (first | (with_reducible assumption) | ((with_reducible refine Blk.new ?_); · first | omega | (simp; done) | (simp; omega)) | (with_reducible apply Blk.set4) | (with_reducible apply Blk.set3) | (with_reducible apply Blk.set2) | ((with_reducible refine Blk.put ?_ ?_); · first | omega | (simp; omega)) | (with_reducible refine Blk.old ?_) | (with_reducible refine Blk.drew ?_) | (with_reducible refine Blk.drewN ?_) | ((with_reducible refine Blk.below hb ?_ ?_); · first | omega | (simp; done) | (simp; omega))))
    have lC6 := C6.lt
    have kw6 : Below w.heap.size w w6 := (by repeat (first | (with_reducible exact Below.refl _ _) | (with_reducible assumption) | (with_reducible refine Below.drew ?_) | (with_reducible refine Below.drewN ?_) | ((with_reducible refine Below.al ?_ ?_); · first | omega | (simp; done) | (simp; omega)) | ((with_reducible refine Below.sc ?_ ?_); · first | omega | (simp; done) | (simp; omega)) | ((with_reducible refine Below.thru hb ?_ ?_); · first | omega | (simp; done) | (simp; omega))))
    have sw6 := kw6.size
    clear hb
    go_wp2_with fail
    go_meet
    exact ⟨rfl, B6, C6, kw6⟩
  case rest =>
    obtain ⟨rfl, B6, C6, kw6⟩ := hcut
    clear B5 C5 D5 b1 b2 b3 c1 c2 c3 d1 d2 d3 hnq
    have q6 := B6.t
    have q6' := C6.t
    go_upto_if 64 with fail
    go_cut [] (fun wx => Below w.heap.size w wx)
    case first =>
      by_cases hc : c = 0
      · obtain ⟨-, ht, hnx, hf3⟩ := HQ.out.resolve_right (fun h => h hc)
        have HF3 := Lib.hid hf3
        have HNX := Lib.hid hnx
        have e64 : (c == 0) = true := by simp [hc]
        rw [e64]
        clear HQ ht hnx hf3 q6 q6' hc e64
        go_wp2_with fail
        go_loopw [9, 10] (fun s9 s10 wr => ∃ k : Nat, k ≤ 3 ∧ s10 = .int .i64 k ∧ s9 = .bool (fnd nx t k) ∧ Blk wr w2.heap.size 36 (tcs t) ∧ Blk wr w3.heap.size 36 (tcs nx) ∧ Below w.heap.size w wr) (fun _ s10 _ => 3 - (intOf s10).toNat)
        case atStart => exact ⟨0, by omega, rfl, rfl, B6, C6, kw6⟩
        case round =>
          clear B6 C6 kw6
          obtain ⟨k, hk, rfl, rfl, B6, C6, kw6⟩ := hrel
          have q6' := C6.t
          have lB6 := B6.lt
          have lC6 := C6.lt
          by_cases hlt : k < 3
          · have HK := Lib.hid (show fnd nx t (k + 1) = (fnd nx t k || (decide ((nbR nx k).2 = 0) && decide ((nbR nx k).1 = t))) from rfl)
            have HN := Lib.hid (fun w' => NeighbourOf_any nx k w')
            generalize fnd nx t k = fb at *
            generalize nbR nx k = rr at *
            obtain ⟨bk, ck⟩ := rr
            have heq := run_eqlT bk t
            generalize hdb : decide (bk = t) = db at *
            have HDB := Lib.hid hdb
            clear hdb
            go_wp2_with fail
            refine (HN.out _).mono ?_
            rintro e w7 ⟨rfl, hb⟩
            have B7 : Blk w7 w2.heap.size 36 (tcs t) := (by repeat (first | (with_reducible assumption) | ((with_reducible refine Blk.new ?_); · first | omega | (simp; done) | (simp; omega)) | (with_reducible apply Blk.set4) | (with_reducible apply Blk.set3) | (with_reducible apply Blk.set2) | ((with_reducible refine Blk.put ?_ ?_); · first | omega | (simp; omega)) | (with_reducible refine Blk.old ?_) | (with_reducible refine Blk.drew ?_) | (with_reducible refine Blk.drewN ?_) | ((with_reducible refine Blk.below hb ?_ ?_); · first | omega | (simp; done) | (simp; omega))))
            have C7 : Blk w7 w3.heap.size 36 (tcs nx) := (by repeat (first | (with_reducible assumption) | ((with_reducible refine Blk.new ?_); · first | omega | (simp; done) | (simp; omega)) | (with_reducible apply Blk.set4) | (with_reducible apply Blk.set3) | (with_reducible apply Blk.set2) | ((with_reducible refine Blk.put ?_ ?_); · first | omega | (simp; omega)) | (with_reducible refine Blk.old ?_) | (with_reducible refine Blk.drew ?_) | (with_reducible refine Blk.drewN ?_) | ((with_reducible refine Blk.below hb ?_ ?_); · first | omega | (simp; done) | (simp; omega))))
            have kw7 : Below w.heap.size w w7 := (by repeat (first | (with_reducible exact Below.refl _ _) | (with_reducible assumption) | (with_reducible refine Below.drew ?_) | (with_reducible refine Below.drewN ?_) | ((with_reducible refine Below.al ?_ ?_); · first | omega | (simp; done) | (simp; omega)) | ((with_reducible refine Below.sc ?_ ?_); · first | omega | (simp; done) | (simp; omega)) | ((with_reducible refine Below.thru hb ?_ ?_); · first | omega | (simp; done) | (simp; omega))))
            have q7 := B7.t
            have lB7 := B7.lt
            clear hb HN q6' B6 C6
            cases fb <;> cases db
            all_goals by_cases hc : ck = 0
            all_goals go_wp2
            all_goals go_roundw
            case rel => exact ⟨k + 1, by omega, by go_num, by rw [HK.out]; have hd := HDB.out; simp at hd; simp [hc, hd], (by repeat (first | (with_reducible assumption) | ((with_reducible refine Blk.new ?_); · first | omega | (simp; done) | (simp; omega)) | (with_reducible apply Blk.set4) | (with_reducible apply Blk.set3) | (with_reducible apply Blk.set2) | ((with_reducible refine Blk.put ?_ ?_); · first | omega | (simp; omega)) | (with_reducible refine Blk.old ?_) | (with_reducible refine Blk.drew ?_) | (with_reducible refine Blk.drewN ?_) | ((with_reducible refine Blk.below hb ?_ ?_); · first | omega | (simp; done) | (simp; omega)))), (by repeat (first | (with_reducible assumption) | ((with_reducible refine Blk.new ?_); · first | omega | (simp; done) | (simp; omega)) | (with_reducible apply Blk.set4) | (with_reducible apply Blk.set3) | (with_reducible apply Blk.set2) | ((with_reducible refine Blk.put ?_ ?_); · first | omega | (simp; omega)) | (with_reducible refine Blk.old ?_) | (with_reducible refine Blk.drew ?_) | (with_reducible refine Blk.drewN ?_) | ((with_reducible refine Blk.below hb ?_ ?_); · first | omega | (simp; done) | (simp; omega)))), (by repeat (first | (with_reducible exact Below.refl _ _) | (with_reducible assumption) | (with_reducible refine Below.drew ?_) | (with_reducible refine Below.drewN ?_) | ((with_reducible refine Below.al ?_ ?_); · first | omega | (simp; done) | (simp; omega)) | ((with_reducible refine Below.sc ?_ ?_); · first | omega | (simp; done) | (simp; omega)) | ((with_reducible refine Below.thru hb ?_ ?_); · first | omega | (simp; done) | (simp; omega))))⟩
            case measure => simp [intOf]; omega
            iterate 7
              case rel => exact ⟨k + 1, by omega, by go_num, by rw [HK.out]; have hd := HDB.out; simp at hd; simp [hc, hd], (by repeat (first | (with_reducible assumption) | ((with_reducible refine Blk.new ?_); · first | omega | (simp; done) | (simp; omega)) | (with_reducible apply Blk.set4) | (with_reducible apply Blk.set3) | (with_reducible apply Blk.set2) | ((with_reducible refine Blk.put ?_ ?_); · first | omega | (simp; omega)) | (with_reducible refine Blk.old ?_) | (with_reducible refine Blk.drew ?_) | (with_reducible refine Blk.drewN ?_) | ((with_reducible refine Blk.below hb ?_ ?_); · first | omega | (simp; done) | (simp; omega)))), (by repeat (first | (with_reducible assumption) | ((with_reducible refine Blk.new ?_); · first | omega | (simp; done) | (simp; omega)) | (with_reducible apply Blk.set4) | (with_reducible apply Blk.set3) | (with_reducible apply Blk.set2) | ((with_reducible refine Blk.put ?_ ?_); · first | omega | (simp; omega)) | (with_reducible refine Blk.old ?_) | (with_reducible refine Blk.drew ?_) | (with_reducible refine Blk.drewN ?_) | ((with_reducible refine Blk.below hb ?_ ?_); · first | omega | (simp; done) | (simp; omega)))), (by repeat (first | (with_reducible exact Below.refl _ _) | (with_reducible assumption) | (with_reducible refine Below.drew ?_) | (with_reducible refine Below.drewN ?_) | ((with_reducible refine Below.al ?_ ?_); · first | omega | (simp; done) | (simp; omega)) | ((with_reducible refine Below.sc ?_ ?_); · first | omega | (simp; done) | (simp; omega)) | ((with_reducible refine Below.thru hb ?_ ?_); · first | omega | (simp; done) | (simp; omega))))⟩
              case measure => simp [intOf]; omega
          · obtain rfl : k = 3 := by omega
            rw [HF3.out]
            go_wp2_with fail
            refine (IsTriple_t nx _).mono ?_
            rw [HNX.out]
            rintro e w7 ⟨rfl, hb⟩
            have kw7 : Below w.heap.size w w7 := (by repeat (first | (with_reducible exact Below.refl _ _) | (with_reducible assumption) | (with_reducible refine Below.drew ?_) | (with_reducible refine Below.drewN ?_) | ((with_reducible refine Below.al ?_ ?_); · first | omega | (simp; done) | (simp; omega)) | ((with_reducible refine Below.sc ?_ ?_); · first | omega | (simp; done) | (simp; omega)) | ((with_reducible refine Below.thru hb ?_ ?_); · first | omega | (simp; done) | (simp; omega))))
            clear hb
            go_wp2
            go_meet
            exact kw7
      · go_wp2
        go_meet
        exact kw6
    case rest =>
      clear q6 q6' B6 C6 HI1 HI2 HQ
      apply_assumption
      exact FnMarkov_tailB v code w _ HV HC hcut

end Go.Proofs.Ytbmkpcenjjdflaa
