/- The walk of the law FnExactActionOfLevel. -/
import Derived.Test.YtamkbgodenkboaaLvlS
import Derived.Test.YtamkbgodenkboaaAct3
namespace Go.Proofs.Ytamkbgodenkboaa
open Go.RowKit

set_option maxRecDepth 8000 in
set_option maxHeartbeats 4000000 in
theorem FnExactActionOfLevel_walk (n : Int) (w : World) (_ : (Lit.int .i64 n).wf = true) :
    Calls Try.prog 8 #[.int .i64 n] w fun e w' => e = .returned (.bool true) ∧ Below w.heap.size w w' := by
  obtain ⟨⟨X, Y⟩, hR⟩ : ∃ R, lvlAct n = R := ⟨_, rfl⟩
  obtain ⟨c, hC⟩ : ∃ c, lvlCode n = c := ⟨_, rfl⟩
  have hXY : X.length ≤ 1048576 ∧ Y.length ≤ 1048576 := by
    unfold lvlAct at hR
    split at hR
    · rename_i h0
      cases hR
      rw [movL_len, movL_len]
      unfold lvlCode at h0
      split at h0
      · cases h0
      · split at h0
        · cases h0
        · omega
    · cases hR
      exact ⟨by simp, by simp⟩
  have HXY := Lib.hid hXY
  have HM := Lib.hid (show X.length ≤ maxLen ∧ Y.length ≤ maxLen by unfold maxLen; omega)
  replace hR := Lib.hid hR
  replace hC := Lib.hid hC
  clear hXY
  go_enter Try.func8, Try.ntmps8
  go_wp2_with fail
  refine (specActionOfLevel_R n X Y c _ hR.out hC.out).mono ?_
  rintro e w3 ⟨sw, tw, rfl, OW, hb⟩
  obtain ⟨wa, wx, hx, -⟩ := OW.1.slIn.form
  obtain ⟨wb, wy, hy, -⟩ := OW.2.1.slIn.form
  subst hx hy
  have kw3 : Below w.heap.size w w3 := (by repeat (first | (with_reducible exact Below.refl _ _) | (with_reducible assumption) | (with_reducible refine Below.drew ?_) | (with_reducible refine Below.drewN ?_) | ((with_reducible refine Below.al ?_ ?_); · first | omega | (simp; done) | (simp; omega)) | ((with_reducible refine Below.sc ?_ ?_); · first | omega | (simp; done) | (simp; omega)) | ((with_reducible refine Below.thru hb ?_ ?_); · first | omega | (simp; done) | (simp; omega))))
  have sw3 := kw3.size
  have R3 := Lib.hid OW.toR
  clear OW hb
  go_wp2_with fail
  refine (ActionOfLevel_R n X Y c _ hR.out hC.out).mono ?_
  rintro e w5 ⟨sg, tg, rfl, OG, hb⟩
  obtain ⟨ga, gx, hx, -⟩ := OG.1.slIn.form
  obtain ⟨gb, gy, hy, -⟩ := OG.2.1.slIn.form
  subst hx hy
  have zz5 := hb.size
  try simp at zz5
  have W5 : Blk w5 w3.heap.size 27 #[.slice wa X.length wx, .slice wb Y.length wy] := (by repeat (first | (with_reducible assumption) | ((with_reducible refine Blk.new ?_); · first | omega | (simp; done) | (simp; omega)) | (with_reducible apply Blk.set4) | (with_reducible apply Blk.set3) | (with_reducible apply Blk.set2) | ((with_reducible refine Blk.put ?_ ?_); · first | omega | (simp; omega)) | (with_reducible refine Blk.old ?_) | (with_reducible refine Blk.drew ?_) | (with_reducible refine Blk.drewN ?_) | ((with_reducible refine Blk.below hb ?_ ?_); · first | omega | (simp; done) | (simp; omega))))
  have kw5 : Below w.heap.size w w5 := (by repeat (first | (with_reducible exact Below.refl _ _) | (with_reducible assumption) | (with_reducible refine Below.drew ?_) | (with_reducible refine Below.drewN ?_) | ((with_reducible refine Below.al ?_ ?_); · first | omega | (simp; done) | (simp; omega)) | ((with_reducible refine Below.sc ?_ ?_); · first | omega | (simp; done) | (simp; omega)) | ((with_reducible refine Below.thru hb ?_ ?_); · first | omega | (simp; done) | (simp; omega))))
  have sw5 := kw5.size
  have lW5 := W5.lt
  have w5b := W5.p2
  have R5 := Lib.hid ((R3.out.below (by repeat (first | (with_reducible exact Below.refl _ _) | (with_reducible assumption) | (with_reducible refine Below.drew ?_) | (with_reducible refine Below.drewN ?_) | ((with_reducible refine Below.al ?_ ?_); · first | omega | (simp; done) | (simp; omega)) | ((with_reducible refine Below.sc ?_ ?_); · first | omega | (simp; done) | (simp; omega)) | ((with_reducible refine Below.thru hb ?_ ?_); · first | omega | (simp; done) | (simp; omega))))).below hb)
  have RG5 := Lib.hid (OwnA.mono (B' := w3.heap.size + 1) OG (by first | omega | (simp; done) | (simp; omega))).toR
  clear OG hb R3
  go_wp2_with fail
  refine (eqAction_same _ _ _ _ X Y _ (SlIn2.below RG5.out.sl (by repeat (first | (with_reducible exact Below.refl _ _) | (with_reducible assumption) | (with_reducible refine Below.drew ?_) | (with_reducible refine Below.drewN ?_) | ((with_reducible refine Below.al ?_ ?_); · first | omega | (simp; done) | (simp; omega)) | ((with_reducible refine Below.sc ?_ ?_); · first | omega | (simp; done) | (simp; omega)) | ((with_reducible refine Below.thru hb ?_ ?_); · first | omega | (simp; done) | (simp; omega))))) (SlIn2.below R5.out.sl (by repeat (first | (with_reducible exact Below.refl _ _) | (with_reducible assumption) | (with_reducible refine Below.drew ?_) | (with_reducible refine Below.drewN ?_) | ((with_reducible refine Below.al ?_ ?_); · first | omega | (simp; done) | (simp; omega)) | ((with_reducible refine Below.sc ?_ ?_); · first | omega | (simp; done) | (simp; omega)) | ((with_reducible refine Below.thru hb ?_ ?_); · first | omega | (simp; done) | (simp; omega))))) HM.out).mono ?_
  rintro e w6 ⟨rfl, hb⟩
  have W6 : Blk w6 w3.heap.size 27 #[.slice wa X.length wx, .slice wb Y.length wy] := (by repeat (first | (with_reducible assumption) | ((with_reducible refine Blk.new ?_); · first | omega | (simp; done) | (simp; omega)) | (with_reducible apply Blk.set4) | (with_reducible apply Blk.set3) | (with_reducible apply Blk.set2) | ((with_reducible refine Blk.put ?_ ?_); · first | omega | (simp; omega)) | (with_reducible refine Blk.old ?_) | (with_reducible refine Blk.drew ?_) | (with_reducible refine Blk.drewN ?_) | ((with_reducible refine Blk.below hb ?_ ?_); · first | omega | (simp; done) | (simp; omega))))
  have G6 : Blk w6 w5.heap.size 27 #[.slice ga X.length gx, .slice gb Y.length gy] := (by repeat (first | (with_reducible assumption) | ((with_reducible refine Blk.new ?_); · first | omega | (simp; done) | (simp; omega)) | (with_reducible apply Blk.set4) | (with_reducible apply Blk.set3) | (with_reducible apply Blk.set2) | ((with_reducible refine Blk.put ?_ ?_); · first | omega | (simp; omega)) | (with_reducible refine Blk.old ?_) | (with_reducible refine Blk.drew ?_) | (with_reducible refine Blk.drewN ?_) | ((with_reducible refine Blk.below hb ?_ ?_); · first | omega | (simp; done) | (simp; omega))))
  have kw6 : Below w.heap.size w w6 := (by repeat (first | (with_reducible exact Below.refl _ _) | (with_reducible assumption) | (with_reducible refine Below.drew ?_) | (with_reducible refine Below.drewN ?_) | ((with_reducible refine Below.al ?_ ?_); · first | omega | (simp; done) | (simp; omega)) | ((with_reducible refine Below.sc ?_ ?_); · first | omega | (simp; done) | (simp; omega)) | ((with_reducible refine Below.thru hb ?_ ?_); · first | omega | (simp; done) | (simp; omega))))
  have sw6 := kw6.size
  have lG6 := G6.lt
  have lW6 := W6.lt
  have z6 := hb.size
  have HR6 := Lib.hid (And.intro ((R5.out.below (by repeat (first | (with_reducible exact Below.refl _ _) | (with_reducible assumption) | (with_reducible refine Below.drew ?_) | (with_reducible refine Below.drewN ?_) | ((with_reducible refine Below.al ?_ ?_); · first | omega | (simp; done) | (simp; omega)) | ((with_reducible refine Below.sc ?_ ?_); · first | omega | (simp; done) | (simp; omega)) | ((with_reducible refine Below.thru hb ?_ ?_); · first | omega | (simp; done) | (simp; omega))))).below hb) ((RG5.out.below (by repeat (first | (with_reducible exact Below.refl _ _) | (with_reducible assumption) | (with_reducible refine Below.drew ?_) | (with_reducible refine Below.drewN ?_) | ((with_reducible refine Below.al ?_ ?_); · first | omega | (simp; done) | (simp; omega)) | ((with_reducible refine Below.sc ?_ ?_); · first | omega | (simp; done) | (simp; omega)) | ((with_reducible refine Below.thru hb ?_ ?_); · first | omega | (simp; done) | (simp; omega))))).below hb))
  have g6 := G6.p2
  clear hb w5b W5 R5 RG5
  go_wp2_with fail
  refine (markAction_any _ _ X Y (w3.heap.size + 1) w5.heap.size 1 _ HR6.out.2 (by omega) HXY.out (by omega)).mono ?_
  rintro e v4 ⟨rfl, RG4, C4⟩
  have W4 := C4.blk (by omega) W6
  have G4 := C4.blk (by omega) G6
  have k4 := C4.toBelow kw6 (by omega) (by omega)
  have R4 := Lib.hid (HR6.out.1.chg C4 (by omega))
  have HG4 := Lib.hid RG4
  have z4 := C4.size
  have g4 := G4.p2
  have s4 := k4.size
  clear C4 RG4 HR6 W6 G6 kw6 g6
  go_wp2_with fail
  refine (heldAction_any _ _ X.length Y.length 1 _ HG4.out.sl HXY.out (by omega)).mono ?_
  rintro e v5 ⟨rfl, hb⟩
  have W5m : Blk v5 w3.heap.size 27 #[.slice wa X.length wx, .slice wb Y.length wy] := (by repeat (first | (with_reducible assumption) | ((with_reducible refine Blk.new ?_); · first | omega | (simp; done) | (simp; omega)) | (with_reducible apply Blk.set4) | (with_reducible apply Blk.set3) | (with_reducible apply Blk.set2) | ((with_reducible refine Blk.put ?_ ?_); · first | omega | (simp; omega)) | (with_reducible refine Blk.old ?_) | (with_reducible refine Blk.drew ?_) | (with_reducible refine Blk.drewN ?_) | ((with_reducible refine Blk.below hb ?_ ?_); · first | omega | (simp; done) | (simp; omega))))
  have G5m : Blk v5 w5.heap.size 27 #[.slice ga X.length gx, .slice gb Y.length gy] := (by repeat (first | (with_reducible assumption) | ((with_reducible refine Blk.new ?_); · first | omega | (simp; done) | (simp; omega)) | (with_reducible apply Blk.set4) | (with_reducible apply Blk.set3) | (with_reducible apply Blk.set2) | ((with_reducible refine Blk.put ?_ ?_); · first | omega | (simp; omega)) | (with_reducible refine Blk.old ?_) | (with_reducible refine Blk.drew ?_) | (with_reducible refine Blk.drewN ?_) | ((with_reducible refine Blk.below hb ?_ ?_); · first | omega | (simp; done) | (simp; omega))))
  have k5 : Below w.heap.size w v5 := (by repeat (first | (with_reducible exact Below.refl _ _) | (with_reducible assumption) | (with_reducible refine Below.drew ?_) | (with_reducible refine Below.drewN ?_) | ((with_reducible refine Below.al ?_ ?_); · first | omega | (simp; done) | (simp; omega)) | ((with_reducible refine Below.sc ?_ ?_); · first | omega | (simp; done) | (simp; omega)) | ((with_reducible refine Below.thru hb ?_ ?_); · first | omega | (simp; done) | (simp; omega))))
  have s5 := k5.size
  have z5 := hb.size
  have R5m := Lib.hid (R4.out.below hb)
  have HG5 := Lib.hid (HG4.out.below hb)
  have lW5m := W5m.lt
  have lG5m := G5m.lt
  clear hb W4 G4 k4 g4 R4 HG4
  go_wp2_with fail
  refine (ActionOfLevel_R n X Y c _ hR.out hC.out).mono ?_
  rintro e v7 ⟨sh, th, rfl, OH, hb⟩
  obtain ⟨ha, hx, hh1, -⟩ := OH.1.slIn.form
  obtain ⟨hbb, hy, hh2, -⟩ := OH.2.1.slIn.form
  subst hh1 hh2
  have W7m : Blk v7 w3.heap.size 27 #[.slice wa X.length wx, .slice wb Y.length wy] := (by repeat (first | (with_reducible assumption) | ((with_reducible refine Blk.new ?_); · first | omega | (simp; done) | (simp; omega)) | (with_reducible apply Blk.set4) | (with_reducible apply Blk.set3) | (with_reducible apply Blk.set2) | ((with_reducible refine Blk.put ?_ ?_); · first | omega | (simp; omega)) | (with_reducible refine Blk.old ?_) | (with_reducible refine Blk.drew ?_) | (with_reducible refine Blk.drewN ?_) | ((with_reducible refine Blk.below hb ?_ ?_); · first | omega | (simp; done) | (simp; omega))))
  have G7m : Blk v7 w5.heap.size 27 #[.slice ga X.length gx, .slice gb Y.length gy] := (by repeat (first | (with_reducible assumption) | ((with_reducible refine Blk.new ?_); · first | omega | (simp; done) | (simp; omega)) | (with_reducible apply Blk.set4) | (with_reducible apply Blk.set3) | (with_reducible apply Blk.set2) | ((with_reducible refine Blk.put ?_ ?_); · first | omega | (simp; omega)) | (with_reducible refine Blk.old ?_) | (with_reducible refine Blk.drew ?_) | (with_reducible refine Blk.drewN ?_) | ((with_reducible refine Blk.below hb ?_ ?_); · first | omega | (simp; done) | (simp; omega))))
  have k7 : Below w.heap.size w v7 := (by repeat (first | (with_reducible exact Below.refl _ _) | (with_reducible assumption) | (with_reducible refine Below.drew ?_) | (with_reducible refine Below.drewN ?_) | ((with_reducible refine Below.al ?_ ?_); · first | omega | (simp; done) | (simp; omega)) | ((with_reducible refine Below.sc ?_ ?_); · first | omega | (simp; done) | (simp; omega)) | ((with_reducible refine Below.thru hb ?_ ?_); · first | omega | (simp; done) | (simp; omega))))
  have s7 := k7.size
  have R7m := Lib.hid (R5m.out.below hb)
  have HG7 := Lib.hid (HG5.out.below hb)
  have HH := Lib.hid OH.sl
  have lW7m := W7m.lt
  have lG7m := G7m.lt
  have w7m := W7m.p2
  clear hb OH W5m G5m k5 R5m HG5
  go_wp2_with fail
  refine (eqAction_same _ _ _ _ X Y _ (SlIn2.below HH.out (by repeat (first | (with_reducible exact Below.refl _ _) | (with_reducible assumption) | (with_reducible refine Below.drew ?_) | (with_reducible refine Below.drewN ?_) | ((with_reducible refine Below.al ?_ ?_); · first | omega | (simp; done) | (simp; omega)) | ((with_reducible refine Below.sc ?_ ?_); · first | omega | (simp; done) | (simp; omega)) | ((with_reducible refine Below.thru hb ?_ ?_); · first | omega | (simp; done) | (simp; omega))))) (SlIn2.below R7m.out.sl (by repeat (first | (with_reducible exact Below.refl _ _) | (with_reducible assumption) | (with_reducible refine Below.drew ?_) | (with_reducible refine Below.drewN ?_) | ((with_reducible refine Below.al ?_ ?_); · first | omega | (simp; done) | (simp; omega)) | ((with_reducible refine Below.sc ?_ ?_); · first | omega | (simp; done) | (simp; omega)) | ((with_reducible refine Below.thru hb ?_ ?_); · first | omega | (simp; done) | (simp; omega))))) HM.out).mono ?_
  rintro e v8 ⟨rfl, hb⟩
  have G8m : Blk v8 w5.heap.size 27 #[.slice ga X.length gx, .slice gb Y.length gy] := (by repeat (first | (with_reducible assumption) | ((with_reducible refine Blk.new ?_); · first | omega | (simp; done) | (simp; omega)) | (with_reducible apply Blk.set4) | (with_reducible apply Blk.set3) | (with_reducible apply Blk.set2) | ((with_reducible refine Blk.put ?_ ?_); · first | omega | (simp; omega)) | (with_reducible refine Blk.old ?_) | (with_reducible refine Blk.drew ?_) | (with_reducible refine Blk.drewN ?_) | ((with_reducible refine Blk.below hb ?_ ?_); · first | omega | (simp; done) | (simp; omega))))
  have k8 : Below w.heap.size w v8 := (by repeat (first | (with_reducible exact Below.refl _ _) | (with_reducible assumption) | (with_reducible refine Below.drew ?_) | (with_reducible refine Below.drewN ?_) | ((with_reducible refine Below.al ?_ ?_); · first | omega | (simp; done) | (simp; omega)) | ((with_reducible refine Below.sc ?_ ?_); · first | omega | (simp; done) | (simp; omega)) | ((with_reducible refine Below.thru hb ?_ ?_); · first | omega | (simp; done) | (simp; omega))))
  have s8m := k8.size
  have HG8 := Lib.hid ((HG7.out.below (by repeat (first | (with_reducible exact Below.refl _ _) | (with_reducible assumption) | (with_reducible refine Below.drew ?_) | (with_reducible refine Below.drewN ?_) | ((with_reducible refine Below.al ?_ ?_); · first | omega | (simp; done) | (simp; omega)) | ((with_reducible refine Below.sc ?_ ?_); · first | omega | (simp; done) | (simp; omega)) | ((with_reducible refine Below.thru hb ?_ ?_); · first | omega | (simp; done) | (simp; omega))))).below hb)
  have lG8m := G8m.lt
  have g8 := G8m.p2
  clear hb W7m G7m k7 w7m R7m HG7 HH
  go_wp2_with fail
  refine (heldAction_any _ _ X.length Y.length 1 _ HG8.out.sl HXY.out (by omega)).mono ?_
  rintro e v9 ⟨rfl, hb⟩
  have k9 : Below w.heap.size w v9 := (by repeat (first | (with_reducible exact Below.refl _ _) | (with_reducible assumption) | (with_reducible refine Below.drew ?_) | (with_reducible refine Below.drewN ?_) | ((with_reducible refine Below.al ?_ ?_); · first | omega | (simp; done) | (simp; omega)) | ((with_reducible refine Below.sc ?_ ?_); · first | omega | (simp; done) | (simp; omega)) | ((with_reducible refine Below.thru hb ?_ ?_); · first | omega | (simp; done) | (simp; omega))))
  clear hb
  go_wp2
  go_ret
  exact ⟨rfl, k9⟩

end Go.Proofs.Ytamkbgodenkboaa
