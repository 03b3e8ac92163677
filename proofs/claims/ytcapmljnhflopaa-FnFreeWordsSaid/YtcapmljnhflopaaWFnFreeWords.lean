/- The walk of the law FnFreeWords. -/
import Derived.Test.YtcapmljnhflopaaDmf
import Derived.Test.YtcapmljnhflopaaFpl
import Derived.Test.YtcapmljnhflopaaFdp
namespace Go.Proofs.Ytcapmljnhflopaa
open Go.RowKit
set_option linter.unusedSimpArgs false

set_option maxRecDepth 8000 in
set_option maxHeartbeats 4000000 in
theorem FnFreeWords_walk (v : Value) (code : List Int) (w : World) (hv : SlIn w .u8 v code) (hw : ∀ n ∈ code, (Lit.int .u8 n).wf = true) (_ : code.length * 1 ≤ 140737488351232) :
    Calls Try.prog 3 #[v] w fun e w' => e = .returned (.bool true) ∧ Below w.heap.size w w' := by
  have HV := Lib.hid hv
  have HW := Lib.hid (show ∀ x ∈ code, 0 ≤ x ∧ x ≤ 255 from fun x hx => by
    have := hw x hx
    simp [Lit.wf] at this
    have e1 : IntKind.u8.min = 0 := rfl
    have e2 : IntKind.u8.max = 255 := rfl
    omega)
  by_cases hbig : (code.length : Int) > 4096
  · have hb1 := big_any hv
    rw [decide_eq_true hbig] at hb1
    clear hv hw
    go_enter Try.func3, Try.ntmps3
    go_wp2_with fail
    refine hb1.mono ?_
    rintro e w1 ⟨rfl, hb⟩
    go_wp2
    go_ret
    exact ⟨rfl, hb⟩
  have HC := Lib.hid (show CodeOk code from ⟨by omega, HW.out⟩)
  have hb1 := big_any hv
  rw [decide_eq_false hbig] at hb1
  clear hv hw hbig HW
  obtain ⟨GF, hGF⟩ : ∃ GF : Ending → World → Prop, (fun e w' => e = .returned (.bool true) ∧ Below w.heap.size w w') = GF := ⟨_, rfl⟩
  rw [hGF]
  have HGF := Lib.hid hGF
  clear hGF
  go_enter Try.func3, Try.ntmps3
  go_wp2_with fail
  refine (hb1).mono ?_
  rintro e w1 ⟨rfl, hb⟩
  have kw1 : Below w.heap.size w w1 := (by repeat (first | (with_reducible exact Below.refl _ _) | (with_reducible assumption) | (with_reducible refine Below.drew ?_) | (with_reducible refine Below.drewN ?_) | ((with_reducible refine Below.al ?_ ?_); · first | omega | (simp; done) | (simp; omega)) | ((with_reducible refine Below.sc ?_ ?_); · first | omega | (simp; done) | (simp; omega)) | ((with_reducible refine Below.thru hb ?_ ?_); · first | omega | (simp; done) | (simp; omega))))
  have sw1 := kw1.size
  clear hb
  clear hb1
  go_wp2_with fail
  refine (drawWord_any HC.out (HV.out.below kw1)).mono ?_
  rintro e w2 ⟨m, rfl, hb⟩
  have kw2 : Below w.heap.size w w2 := (by repeat (first | (with_reducible exact Below.refl _ _) | (with_reducible assumption) | (with_reducible refine Below.drew ?_) | (with_reducible refine Below.drewN ?_) | ((with_reducible refine Below.al ?_ ?_); · first | omega | (simp; done) | (simp; omega)) | ((with_reducible refine Below.sc ?_ ?_); · first | omega | (simp; done) | (simp; omega)) | ((with_reducible refine Below.thru hb ?_ ?_); · first | omega | (simp; done) | (simp; omega))))
  have sw2 := kw2.size
  clear hb kw1 sw1
  go_wp2_with fail
  refine (FreeWord_fw m _).mono ?_
  rintro e w3 ⟨s, c, hfw, rfl, hb⟩
  have HFW := Lib.hid hfw
  have B3 : Blk w3 w2.heap.size 25 (mcs m) := (by repeat (first | (with_reducible assumption) | ((with_reducible refine Blk.new ?_); · first | omega | (simp; done) | (simp; omega)) | (with_reducible apply Blk.set4) | (with_reducible apply Blk.set3) | (with_reducible apply Blk.set2) | ((with_reducible refine Blk.put ?_ ?_); · first | omega | (simp; omega)) | (with_reducible refine Blk.old ?_) | (with_reducible refine Blk.drew ?_) | (with_reducible refine Blk.drewN ?_) | ((with_reducible refine Blk.below hb ?_ ?_); · first | omega | (simp; done) | (simp; omega))))
  have kw3 : Below w.heap.size w w3 := (by repeat (first | (with_reducible exact Below.refl _ _) | (with_reducible assumption) | (with_reducible refine Below.drew ?_) | (with_reducible refine Below.drewN ?_) | ((with_reducible refine Below.al ?_ ?_); · first | omega | (simp; done) | (simp; omega)) | ((with_reducible refine Below.sc ?_ ?_); · first | omega | (simp; done) | (simp; omega)) | ((with_reducible refine Below.thru hb ?_ ?_); · first | omega | (simp; done) | (simp; omega))))
  have sw3 := kw3.size
  have l3 := B3.lt
  have q3 := B3.m
  clear hb kw2 hfw
  go_wp2_with fail
  refine (specFreeWord_fw m _).mono ?_
  rintro e w4 ⟨s', c', hfw', rfl, hb⟩
  obtain ⟨rfl, rfl⟩ := Prod.mk.inj (hfw'.unique HFW.out)
  have B4 : Blk w4 w2.heap.size 25 (mcs m) := (by repeat (first | (with_reducible assumption) | ((with_reducible refine Blk.new ?_); · first | omega | (simp; done) | (simp; omega)) | (with_reducible apply Blk.set4) | (with_reducible apply Blk.set3) | (with_reducible apply Blk.set2) | ((with_reducible refine Blk.put ?_ ?_); · first | omega | (simp; omega)) | (with_reducible refine Blk.old ?_) | (with_reducible refine Blk.drew ?_) | (with_reducible refine Blk.drewN ?_) | ((with_reducible refine Blk.below hb ?_ ?_); · first | omega | (simp; done) | (simp; omega))))
  have kw4 : Below w.heap.size w w4 := (by repeat (first | (with_reducible exact Below.refl _ _) | (with_reducible assumption) | (with_reducible refine Below.drew ?_) | (with_reducible refine Below.drewN ?_) | ((with_reducible refine Below.al ?_ ?_); · first | omega | (simp; done) | (simp; omega)) | ((with_reducible refine Below.sc ?_ ?_); · first | omega | (simp; done) | (simp; omega)) | ((with_reducible refine Below.thru hb ?_ ?_); · first | omega | (simp; done) | (simp; omega))))
  have sw4 := kw4.size
  have l4 := B4.lt
  clear hb kw3 hfw' B3 l3 q3 sw3
  go_wp2_with fail
  refine (drawFree_any HC.out (HV.out.below kw4)).mono ?_
  rintro e w5 ⟨tx, rfl, htx, hb⟩
  have B5 : Blk w5 w2.heap.size 25 (mcs m) := (by repeat (first | (with_reducible assumption) | ((with_reducible refine Blk.new ?_); · first | omega | (simp; done) | (simp; omega)) | (with_reducible apply Blk.set4) | (with_reducible apply Blk.set3) | (with_reducible apply Blk.set2) | ((with_reducible refine Blk.put ?_ ?_); · first | omega | (simp; omega)) | (with_reducible refine Blk.old ?_) | (with_reducible refine Blk.drew ?_) | (with_reducible refine Blk.drewN ?_) | ((with_reducible refine Blk.below hb ?_ ?_); · first | omega | (simp; done) | (simp; omega))))
  have kw5 : Below w.heap.size w w5 := (by repeat (first | (with_reducible exact Below.refl _ _) | (with_reducible assumption) | (with_reducible refine Below.drew ?_) | (with_reducible refine Below.drewN ?_) | ((with_reducible refine Below.al ?_ ?_); · first | omega | (simp; done) | (simp; omega)) | ((with_reducible refine Below.sc ?_ ?_); · first | omega | (simp; done) | (simp; omega)) | ((with_reducible refine Below.thru hb ?_ ?_); · first | omega | (simp; done) | (simp; omega))))
  have sw5 := kw5.size
  have l5 := B5.lt
  clear hb kw4 B4 l4 sw4
  go_wp2_with fail
  refine (MatrixOfFree_any tx _ (by omega)).mono ?_
  rintro e w6 h6
  obtain ⟨mm, c2, hmf, rfl, hb⟩ := mf_of h6
  have HMF := Lib.hid hmf
  have B6 : Blk w6 w2.heap.size 25 (mcs m) := (by repeat (first | (with_reducible assumption) | ((with_reducible refine Blk.new ?_); · first | omega | (simp; done) | (simp; omega)) | (with_reducible apply Blk.set4) | (with_reducible apply Blk.set3) | (with_reducible apply Blk.set2) | ((with_reducible refine Blk.put ?_ ?_); · first | omega | (simp; omega)) | (with_reducible refine Blk.old ?_) | (with_reducible refine Blk.drew ?_) | (with_reducible refine Blk.drewN ?_) | ((with_reducible refine Blk.below hb ?_ ?_); · first | omega | (simp; done) | (simp; omega))))
  have kw6 : Below w.heap.size w w6 := (by repeat (first | (with_reducible exact Below.refl _ _) | (with_reducible assumption) | (with_reducible refine Below.drew ?_) | (with_reducible refine Below.drewN ?_) | ((with_reducible refine Below.al ?_ ?_); · first | omega | (simp; done) | (simp; omega)) | ((with_reducible refine Below.sc ?_ ?_); · first | omega | (simp; done) | (simp; omega)) | ((with_reducible refine Below.thru hb ?_ ?_); · first | omega | (simp; done) | (simp; omega))))
  have sw6 := kw6.size
  have l6 := B6.lt
  clear hb kw5 B5 l5 sw5 h6 hmf
  have HE1 := fun w' : World => run_equalInM mm mm w'
  have hde : decide (mm = mm) = true := decide_eq_true rfl
  rw [hde] at HE1
  clear hde
  go_wp2_with fail
  refine (specMatrixOfFree_any tx _ (by omega)).mono ?_
  rintro e w7 h7
  obtain ⟨mm', c3, hmf2, rfl, hb⟩ := mf_of h7
  obtain ⟨rfl, rfl⟩ := hmf2.unique HMF.out
  have B7 : Blk w7 w2.heap.size 25 (mcs m) := (by repeat (first | (with_reducible assumption) | ((with_reducible refine Blk.new ?_); · first | omega | (simp; done) | (simp; omega)) | (with_reducible apply Blk.set4) | (with_reducible apply Blk.set3) | (with_reducible apply Blk.set2) | ((with_reducible refine Blk.put ?_ ?_); · first | omega | (simp; omega)) | (with_reducible refine Blk.old ?_) | (with_reducible refine Blk.drew ?_) | (with_reducible refine Blk.drewN ?_) | ((with_reducible refine Blk.below hb ?_ ?_); · first | omega | (simp; done) | (simp; omega))))
  have C7 : Blk w7 w6.heap.size 25 (mcs mm') := (by repeat (first | (with_reducible assumption) | ((with_reducible refine Blk.new ?_); · first | omega | (simp; done) | (simp; omega)) | (with_reducible apply Blk.set4) | (with_reducible apply Blk.set3) | (with_reducible apply Blk.set2) | ((with_reducible refine Blk.put ?_ ?_); · first | omega | (simp; omega)) | (with_reducible refine Blk.old ?_) | (with_reducible refine Blk.drew ?_) | (with_reducible refine Blk.drewN ?_) | ((with_reducible refine Blk.below hb ?_ ?_); · first | omega | (simp; done) | (simp; omega))))
  have kw7 : Below w.heap.size w w7 := (by repeat (first | (with_reducible exact Below.refl _ _) | (with_reducible assumption) | (with_reducible refine Below.drew ?_) | (with_reducible refine Below.drewN ?_) | ((with_reducible refine Below.al ?_ ?_); · first | omega | (simp; done) | (simp; omega)) | ((with_reducible refine Below.sc ?_ ?_); · first | omega | (simp; done) | (simp; omega)) | ((with_reducible refine Below.thru hb ?_ ?_); · first | omega | (simp; done) | (simp; omega))))
  have sw7 := kw7.size
  have l7 := B7.lt
  have l7c := C7.lt
  have q7 := C7.m
  clear hb kw6 B6 l6 sw6 h7 hmf2
  by_cases hc2 : c3 = 0
  · subst hc2
    have HBK := Lib.hid (fun s3 c4 (h : FW mm' (s3, c4)) => HMF.out.back h)
    go_wp2_with fail
    refine (FreeWord_fw mm' _).mono ?_
    rintro e w8 ⟨s3, c4, h8, rfl, hb⟩
    obtain ⟨rfl, rfl⟩ := Prod.mk.inj (HBK.out _ _ h8)
    have B8 : Blk w8 w2.heap.size 25 (mcs m) := (by repeat (first | (with_reducible assumption) | ((with_reducible refine Blk.new ?_); · first | omega | (simp; done) | (simp; omega)) | (with_reducible apply Blk.set4) | (with_reducible apply Blk.set3) | (with_reducible apply Blk.set2) | ((with_reducible refine Blk.put ?_ ?_); · first | omega | (simp; omega)) | (with_reducible refine Blk.old ?_) | (with_reducible refine Blk.drew ?_) | (with_reducible refine Blk.drewN ?_) | ((with_reducible refine Blk.below hb ?_ ?_); · first | omega | (simp; done) | (simp; omega))))
    have kw8 : Below w.heap.size w w8 := (by repeat (first | (with_reducible exact Below.refl _ _) | (with_reducible assumption) | (with_reducible refine Below.drew ?_) | (with_reducible refine Below.drewN ?_) | ((with_reducible refine Below.al ?_ ?_); · first | omega | (simp; done) | (simp; omega)) | ((with_reducible refine Below.sc ?_ ?_); · first | omega | (simp; done) | (simp; omega)) | ((with_reducible refine Below.thru hb ?_ ?_); · first | omega | (simp; done) | (simp; omega))))
    have sw8 := kw8.size
    have l8 := B8.lt
    have q8 := B8.m
    clear hb kw7 B7 C7 l7 l7c q7 h8 HBK sw7
    by_cases hc1 : c' = 0
    · obtain ⟨-, hmok, hfree, hsg⟩ | ⟨h, -⟩ := HFW.out.yes
      · subst hc1
        have hsz : s'.size ≤ 200 := hfree.2.2
        have HFM := Lib.hid (fun (mp : M) (c4 : Int) (h : MF s' mp c4) => h.form hfree)
        have HSB := Lib.hid (fun (mp : M) w' (h1 : mp.ok = true) (h2 : mp = X3 s'.data.toList) => signBetween_any mp m w' h1 hmok (by rw [h2]; exact hsg))
        clear hmok hfree hsg
        go_wp2_with fail
        refine (MatrixOfFree_any s' _ (by omega)).mono ?_
        rintro e w11 h11
        obtain ⟨mp, c4, hmp, rfl, hb⟩ := mf_of h11
        have B11 : Blk w11 w2.heap.size 25 (mcs m) := (by repeat (first | (with_reducible assumption) | ((with_reducible refine Blk.new ?_); · first | omega | (simp; done) | (simp; omega)) | (with_reducible apply Blk.set4) | (with_reducible apply Blk.set3) | (with_reducible apply Blk.set2) | ((with_reducible refine Blk.put ?_ ?_); · first | omega | (simp; omega)) | (with_reducible refine Blk.old ?_) | (with_reducible refine Blk.drew ?_) | (with_reducible refine Blk.drewN ?_) | ((with_reducible refine Blk.below hb ?_ ?_); · first | omega | (simp; done) | (simp; omega))))
        have kw11 : Below w.heap.size w w11 := (by repeat (first | (with_reducible exact Below.refl _ _) | (with_reducible assumption) | (with_reducible refine Below.drew ?_) | (with_reducible refine Below.drewN ?_) | ((with_reducible refine Below.al ?_ ?_); · first | omega | (simp; done) | (simp; omega)) | ((with_reducible refine Below.sc ?_ ?_); · first | omega | (simp; done) | (simp; omega)) | ((with_reducible refine Below.thru hb ?_ ?_); · first | omega | (simp; done) | (simp; omega))))
        have sw11 := kw11.size
        have l11 := B11.lt
        have q11 := B11.m
        clear hb h11
        rcases HFM.out mp c4 hmp with ⟨rfl, h1, h2⟩ | rfl
        · have HS := Lib.hid (fun w' => HSB.out mp w' h2 h1)
          clear hmp h1 h2
          go_wp2_with fail
          refine (HS.out _).mono ?_
          rintro e w12 ⟨kx, rfl, hkx, hb⟩
          have kw12 : Below w.heap.size w w12 := (by repeat (first | (with_reducible exact Below.refl _ _) | (with_reducible assumption) | (with_reducible refine Below.drew ?_) | (with_reducible refine Below.drewN ?_) | ((with_reducible refine Below.al ?_ ?_); · first | omega | (simp; done) | (simp; omega)) | ((with_reducible refine Below.sc ?_ ?_); · first | omega | (simp; done) | (simp; omega)) | ((with_reducible refine Below.thru hb ?_ ?_); · first | omega | (simp; done) | (simp; omega))))
          have hk0 : (kx != 0) = true := bne_iff_ne.2 hkx
          clear hb
          go_wp2
          rw [← HGF.out]
          exact ⟨rfl, kw12⟩
        · clear hmp
          go_wp2
          rw [← HGF.out]
          exact ⟨rfl, (by repeat (first | (with_reducible exact Below.refl _ _) | (with_reducible assumption) | (with_reducible refine Below.drew ?_) | (with_reducible refine Below.drewN ?_) | ((with_reducible refine Below.al ?_ ?_); · first | omega | (simp; done) | (simp; omega)) | ((with_reducible refine Below.sc ?_ ?_); · first | omega | (simp; done) | (simp; omega)) | ((with_reducible refine Below.thru hb ?_ ?_); · first | omega | (simp; done) | (simp; omega))))⟩
      · exact absurd hc1 h
    · obtain ⟨h, -⟩ | ⟨-, hs0⟩ := HFW.out.yes
      · exact absurd h hc1
      · subst hs0
        have hb1 : (c' != 0) = true := bne_iff_ne.2 hc1
        have hb2 : (c' == 0) = false := beq_eq_false_iff_ne.2 hc1
        clear hc1
        go_wp2
        rw [← HGF.out]
        exact ⟨rfl, (by repeat (first | (with_reducible exact Below.refl _ _) | (with_reducible assumption) | (with_reducible refine Below.drew ?_) | (with_reducible refine Below.drewN ?_) | ((with_reducible refine Below.al ?_ ?_); · first | omega | (simp; done) | (simp; omega)) | ((with_reducible refine Below.sc ?_ ?_); · first | omega | (simp; done) | (simp; omega)) | ((with_reducible refine Below.thru hb ?_ ?_); · first | omega | (simp; done) | (simp; omega))))⟩
  · have hb3 : (c3 == 0) = false := beq_eq_false_iff_ne.2 hc2
    have q8 := B7.m
    by_cases hc1 : c' = 0
    · obtain ⟨-, hmok, hfree, hsg⟩ | ⟨h, -⟩ := HFW.out.yes
      · subst hc1
        have hsz : s'.size ≤ 200 := hfree.2.2
        have HFM := Lib.hid (fun (mp : M) (c4 : Int) (h : MF s' mp c4) => h.form hfree)
        have HSB := Lib.hid (fun (mp : M) w' (h1 : mp.ok = true) (h2 : mp = X3 s'.data.toList) => signBetween_any mp m w' h1 hmok (by rw [h2]; exact hsg))
        clear hmok hfree hsg
        go_wp2_with fail
        refine (MatrixOfFree_any s' _ (by omega)).mono ?_
        rintro e w11 h11
        obtain ⟨mp, c4, hmp, rfl, hb⟩ := mf_of h11
        have B11 : Blk w11 w2.heap.size 25 (mcs m) := (by repeat (first | (with_reducible assumption) | ((with_reducible refine Blk.new ?_); · first | omega | (simp; done) | (simp; omega)) | (with_reducible apply Blk.set4) | (with_reducible apply Blk.set3) | (with_reducible apply Blk.set2) | ((with_reducible refine Blk.put ?_ ?_); · first | omega | (simp; omega)) | (with_reducible refine Blk.old ?_) | (with_reducible refine Blk.drew ?_) | (with_reducible refine Blk.drewN ?_) | ((with_reducible refine Blk.below hb ?_ ?_); · first | omega | (simp; done) | (simp; omega))))
        have kw11 : Below w.heap.size w w11 := (by repeat (first | (with_reducible exact Below.refl _ _) | (with_reducible assumption) | (with_reducible refine Below.drew ?_) | (with_reducible refine Below.drewN ?_) | ((with_reducible refine Below.al ?_ ?_); · first | omega | (simp; done) | (simp; omega)) | ((with_reducible refine Below.sc ?_ ?_); · first | omega | (simp; done) | (simp; omega)) | ((with_reducible refine Below.thru hb ?_ ?_); · first | omega | (simp; done) | (simp; omega))))
        have sw11 := kw11.size
        have l11 := B11.lt
        have q11 := B11.m
        clear hb h11
        rcases HFM.out mp c4 hmp with ⟨rfl, h1, h2⟩ | rfl
        · have HS := Lib.hid (fun w' => HSB.out mp w' h2 h1)
          clear hmp h1 h2
          go_wp2_with fail
          refine (HS.out _).mono ?_
          rintro e w12 ⟨kx, rfl, hkx, hb⟩
          have kw12 : Below w.heap.size w w12 := (by repeat (first | (with_reducible exact Below.refl _ _) | (with_reducible assumption) | (with_reducible refine Below.drew ?_) | (with_reducible refine Below.drewN ?_) | ((with_reducible refine Below.al ?_ ?_); · first | omega | (simp; done) | (simp; omega)) | ((with_reducible refine Below.sc ?_ ?_); · first | omega | (simp; done) | (simp; omega)) | ((with_reducible refine Below.thru hb ?_ ?_); · first | omega | (simp; done) | (simp; omega))))
          have hk0 : (kx != 0) = true := bne_iff_ne.2 hkx
          clear hb
          go_wp2
          rw [← HGF.out]
          exact ⟨rfl, kw12⟩
        · clear hmp
          go_wp2
          rw [← HGF.out]
          exact ⟨rfl, (by repeat (first | (with_reducible exact Below.refl _ _) | (with_reducible assumption) | (with_reducible refine Below.drew ?_) | (with_reducible refine Below.drewN ?_) | ((with_reducible refine Below.al ?_ ?_); · first | omega | (simp; done) | (simp; omega)) | ((with_reducible refine Below.sc ?_ ?_); · first | omega | (simp; done) | (simp; omega)) | ((with_reducible refine Below.thru hb ?_ ?_); · first | omega | (simp; done) | (simp; omega))))⟩
      · exact absurd hc1 h
    · obtain ⟨h, -⟩ | ⟨-, hs0⟩ := HFW.out.yes
      · exact absurd h hc1
      · subst hs0
        have hb1 : (c' != 0) = true := bne_iff_ne.2 hc1
        have hb2 : (c' == 0) = false := beq_eq_false_iff_ne.2 hc1
        clear hc1
        go_wp2
        rw [← HGF.out]
        exact ⟨rfl, (by repeat (first | (with_reducible exact Below.refl _ _) | (with_reducible assumption) | (with_reducible refine Below.drew ?_) | (with_reducible refine Below.drewN ?_) | ((with_reducible refine Below.al ?_ ?_); · first | omega | (simp; done) | (simp; omega)) | ((with_reducible refine Below.sc ?_ ?_); · first | omega | (simp; done) | (simp; omega)) | ((with_reducible refine Below.thru hb ?_ ?_); · first | omega | (simp; done) | (simp; omega))))⟩

end Go.Proofs.Ytcapmljnhflopaa
