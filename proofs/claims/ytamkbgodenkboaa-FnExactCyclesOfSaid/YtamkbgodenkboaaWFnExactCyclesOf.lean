/- The walk of the law FnExactCyclesOf. -/
import Derived.Test.YtamkbgodenkboaaCycOf
namespace Go.Proofs.Ytamkbgodenkboaa
open Go.RowKit

theorem Chg.ss {w w' : World} {lo hi lo' hi' B : Nat} {v : Value} {vs : List Sl} {css : List (List Nat)} (hc : Chg lo hi w w') (h : OwnSS w B v vs css) (hv : Rng v lo' hi') (hr : ∀ t ∈ vs, Rng t.v lo' hi') (hd : hi ≤ lo' ∨ hi' ≤ lo) : OwnSS w' B v vs css :=
  ⟨h.1.same fun g hg => hc.block g (h.1.lt hg).2 (by have := hv g hg; omega), h.2.same fun t ht g hg => hc.block g (h.2.lt t ht g hg).2 (by have := hr t ht g hg; omega)⟩
theorem OwnSS.rng {w : World} {B : Nat} {v : Value} {vs : List Sl} {css : List (List Nat)} (h : OwnSS w B v vs css) : Rng v B w.heap.size ∧ ∀ t ∈ vs, Rng t.v B w.heap.size :=
  ⟨fun _ hg => h.1.lt hg, fun t ht g hg => h.2.lt t ht g hg⟩
/-- Rows of the call's own in the blocks from lo to hi. -/
def OwnSR (w : World) (lo hi : Nat) (v : Value) (vs : List Sl) (css : List (List Nat)) : Prop := OwnSS w lo v vs css ∧ Rng v lo hi ∧ ∀ t ∈ vs, Rng t.v lo hi
theorem OwnSS.toR {w : World} {B : Nat} {v : Value} {vs : List Sl} {css : List (List Nat)} (h : OwnSS w B v vs css) : OwnSR w B w.heap.size v vs css := ⟨h, h.rng⟩
theorem OwnSR.below {w w' : World} {lo hi : Nat} {v : Value} {vs : List Sl} {css : List (List Nat)} (h : OwnSR w lo hi v vs css) (hb : Below w.heap.size w w') : OwnSR w' lo hi v vs css := ⟨h.1.below hb, h.2⟩
theorem OwnSR.chg {w w' : World} {lo hi lo' hi' : Nat} {v : Value} {vs : List Sl} {css : List (List Nat)} (h : OwnSR w lo hi v vs css) (hc : Chg lo' hi' w w') (hd : hi ≤ lo' ∨ hi' ≤ lo) : OwnSR w' lo hi v vs css :=
  ⟨hc.ss h.1 h.2.1 h.2.2 (by omega), h.2⟩

set_option maxRecDepth 8000 in
set_option maxHeartbeats 4000000 in
theorem FnExactCyclesOf_walk (s t : Value) (S T : List Int) (w : World) (h : SlIn w .i64 s S ∧ SlIn w .i64 t T) :
    Calls Try.prog 11 #[.agg #[s, t]] w fun e w' => e = .returned (.bool true) ∧ Below w.heap.size w w' := by
  have HI := Lib.hid h
  have HL := Lib.hid (SlIn2.le h)
  clear h
  by_cases hz : szA S T < 0
  · go_enter Try.func11, Try.ntmps11
    go_wp2_with fail
    refine (szAction_any s t S T _ (SlIn2.below HI.out (by repeat (first | (with_reducible exact Below.refl _ _) | (with_reducible assumption) | (with_reducible refine Below.drew ?_) | (with_reducible refine Below.drewN ?_) | ((with_reducible refine Below.al ?_ ?_); · first | omega | (simp; done) | (simp; omega)) | ((with_reducible refine Below.sc ?_ ?_); · first | omega | (simp; done) | (simp; omega)) | ((with_reducible refine Below.thru hb ?_ ?_); · first | omega | (simp; done) | (simp; omega))))) HL.out).mono ?_
    rintro e w1 ⟨rfl, hb⟩
    have kw1 : Below w.heap.size w w1 := (by repeat (first | (with_reducible exact Below.refl _ _) | (with_reducible assumption) | (with_reducible refine Below.drew ?_) | (with_reducible refine Below.drewN ?_) | ((with_reducible refine Below.al ?_ ?_); · first | omega | (simp; done) | (simp; omega)) | ((with_reducible refine Below.sc ?_ ?_); · first | omega | (simp; done) | (simp; omega)) | ((with_reducible refine Below.thru hb ?_ ?_); · first | omega | (simp; done) | (simp; omega))))
    have sw1 := kw1.size
    clear hb
    go_wp2
    go_ret
    exact ⟨rfl, kw1⟩
  have HB := Lib.hid (szA_ok hz)
  obtain ⟨css, hR⟩ : ∃ R, cysR S T = R := ⟨_, rfl⟩
  obtain ⟨c, hC⟩ : ∃ c, cysC S T = c := ⟨_, rfl⟩
  have HK := Lib.hid (show css.length ≤ 72 ∧ ∀ c ∈ css, c.length ≤ 72 from hR ▸ cysR_ok S T)
  have hob := offN_le HK.out.2 1 css.length
  have hcl := HK.out.1
  replace hR := Lib.hid hR
  replace hC := Lib.hid hC
  go_enter Try.func11, Try.ntmps11
  go_wp2_with fail
  refine (szAction_any s t S T _ (SlIn2.below HI.out (by repeat (first | (with_reducible exact Below.refl _ _) | (with_reducible assumption) | (with_reducible refine Below.drew ?_) | (with_reducible refine Below.drewN ?_) | ((with_reducible refine Below.al ?_ ?_); · first | omega | (simp; done) | (simp; omega)) | ((with_reducible refine Below.sc ?_ ?_); · first | omega | (simp; done) | (simp; omega)) | ((with_reducible refine Below.thru hb ?_ ?_); · first | omega | (simp; done) | (simp; omega))))) HL.out).mono ?_
  rintro e w1 ⟨rfl, hb⟩
  have B1 : Blk w1 (w.heap.size) 24 (#[s, t]) := (by repeat (first | (with_reducible assumption) | ((with_reducible refine Blk.new ?_); · first | omega | (simp; done) | (simp; omega)) | (with_reducible apply Blk.set4) | (with_reducible apply Blk.set3) | (with_reducible apply Blk.set2) | ((with_reducible refine Blk.put ?_ ?_); · first | omega | (simp; omega)) | (with_reducible refine Blk.old ?_) | (with_reducible refine Blk.drew ?_) | (with_reducible refine Blk.drewN ?_) | ((with_reducible refine Blk.below hb ?_ ?_); · first | omega | (simp; done) | (simp; omega))))
  have lB1 := B1.lt
  have kw1 : Below w.heap.size w w1 := (by repeat (first | (with_reducible exact Below.refl _ _) | (with_reducible assumption) | (with_reducible refine Below.drew ?_) | (with_reducible refine Below.drewN ?_) | ((with_reducible refine Below.al ?_ ?_); · first | omega | (simp; done) | (simp; omega)) | ((with_reducible refine Below.sc ?_ ?_); · first | omega | (simp; done) | (simp; omega)) | ((with_reducible refine Below.thru hb ?_ ?_); · first | omega | (simp; done) | (simp; omega))))
  have sw1 := kw1.size
  clear hb
  have c1 := B1.p2
  go_wp2_with fail
  refine (toAction_any s t S T _ (SlIn2.below HI.out (by repeat (first | (with_reducible exact Below.refl _ _) | (with_reducible assumption) | (with_reducible refine Below.drew ?_) | (with_reducible refine Below.drewN ?_) | ((with_reducible refine Below.al ?_ ?_); · first | omega | (simp; done) | (simp; omega)) | ((with_reducible refine Below.sc ?_ ?_); · first | omega | (simp; done) | (simp; omega)) | ((with_reducible refine Below.thru hb ?_ ?_); · first | omega | (simp; done) | (simp; omega))))) HB.out).mono ?_
  rintro e w2 ⟨s1, t1, rfl, O1, hb⟩
  have B2 : Blk w2 w.heap.size 24 #[s, t] := (by repeat (first | (with_reducible assumption) | ((with_reducible refine Blk.new ?_); · first | omega | (simp; done) | (simp; omega)) | (with_reducible apply Blk.set4) | (with_reducible apply Blk.set3) | (with_reducible apply Blk.set2) | ((with_reducible refine Blk.put ?_ ?_); · first | omega | (simp; omega)) | (with_reducible refine Blk.old ?_) | (with_reducible refine Blk.drew ?_) | (with_reducible refine Blk.drewN ?_) | ((with_reducible refine Blk.below hb ?_ ?_); · first | omega | (simp; done) | (simp; omega))))
  have kw2 : Below w.heap.size w w2 := (by repeat (first | (with_reducible exact Below.refl _ _) | (with_reducible assumption) | (with_reducible refine Below.drew ?_) | (with_reducible refine Below.drewN ?_) | ((with_reducible refine Below.al ?_ ?_); · first | omega | (simp; done) | (simp; omega)) | ((with_reducible refine Below.sc ?_ ?_); · first | omega | (simp; done) | (simp; omega)) | ((with_reducible refine Below.thru hb ?_ ?_); · first | omega | (simp; done) | (simp; omega))))
  have sw2 := kw2.size
  have lB2 := B2.lt
  clear hb B1 c1
  have c2 := B2.p2
  go_wp2_with fail
  refine (specCyclesOf_R _ _ S T css c _ hR.out hC.out O1.sl HB.out).mono ?_
  rintro e w3 ⟨wv, ws, rfl, OW, hb⟩
  have B3 : Blk w3 w.heap.size 24 #[s, t] := (by repeat (first | (with_reducible assumption) | ((with_reducible refine Blk.new ?_); · first | omega | (simp; done) | (simp; omega)) | (with_reducible apply Blk.set4) | (with_reducible apply Blk.set3) | (with_reducible apply Blk.set2) | ((with_reducible refine Blk.put ?_ ?_); · first | omega | (simp; omega)) | (with_reducible refine Blk.old ?_) | (with_reducible refine Blk.drew ?_) | (with_reducible refine Blk.drewN ?_) | ((with_reducible refine Blk.below hb ?_ ?_); · first | omega | (simp; done) | (simp; omega))))
  have kw3 : Below w.heap.size w w3 := (by repeat (first | (with_reducible exact Below.refl _ _) | (with_reducible assumption) | (with_reducible refine Below.drew ?_) | (with_reducible refine Below.drewN ?_) | ((with_reducible refine Below.al ?_ ?_); · first | omega | (simp; done) | (simp; omega)) | ((with_reducible refine Below.sc ?_ ?_); · first | omega | (simp; done) | (simp; omega)) | ((with_reducible refine Below.thru hb ?_ ?_); · first | omega | (simp; done) | (simp; omega))))
  have sw3 := kw3.size
  have lB3 := B3.lt
  have c3 := B3.p2
  have RW := Lib.hid OW.toR
  clear OW hb c2 B2
  go_wp2_with fail
  refine (toAction_any s t S T _ (SlIn2.below HI.out (by repeat (first | (with_reducible exact Below.refl _ _) | (with_reducible assumption) | (with_reducible refine Below.drew ?_) | (with_reducible refine Below.drewN ?_) | ((with_reducible refine Below.al ?_ ?_); · first | omega | (simp; done) | (simp; omega)) | ((with_reducible refine Below.sc ?_ ?_); · first | omega | (simp; done) | (simp; omega)) | ((with_reducible refine Below.thru hb ?_ ?_); · first | omega | (simp; done) | (simp; omega))))) HB.out).mono ?_
  rintro e w4 ⟨s2, t2, rfl, O2, hb⟩
  obtain ⟨xa, xc, hx, -⟩ := O2.1.slIn.form
  obtain ⟨xb, xd, hy, -⟩ := O2.2.1.slIn.form
  subst hx hy
  have B4 : Blk w4 w.heap.size 24 #[s, t] := (by repeat (first | (with_reducible assumption) | ((with_reducible refine Blk.new ?_); · first | omega | (simp; done) | (simp; omega)) | (with_reducible apply Blk.set4) | (with_reducible apply Blk.set3) | (with_reducible apply Blk.set2) | ((with_reducible refine Blk.put ?_ ?_); · first | omega | (simp; omega)) | (with_reducible refine Blk.old ?_) | (with_reducible refine Blk.drew ?_) | (with_reducible refine Blk.drewN ?_) | ((with_reducible refine Blk.below hb ?_ ?_); · first | omega | (simp; done) | (simp; omega))))
  have kw4 : Below w.heap.size w w4 := (by repeat (first | (with_reducible exact Below.refl _ _) | (with_reducible assumption) | (with_reducible refine Below.drew ?_) | (with_reducible refine Below.drewN ?_) | ((with_reducible refine Below.al ?_ ?_); · first | omega | (simp; done) | (simp; omega)) | ((with_reducible refine Below.sc ?_ ?_); · first | omega | (simp; done) | (simp; omega)) | ((with_reducible refine Below.thru hb ?_ ?_); · first | omega | (simp; done) | (simp; omega))))
  have sw4 := kw4.size
  have z4 := hb.size
  have lB4 := B4.lt
  have c4 := B4.p2
  have R4 := Lib.hid (RW.out.below hb)
  have X4 := Lib.hid O2.toR
  clear O2 hb c3 B3 RW
  go_wp2_with fail
  refine (CyclesOf_R _ _ S T css c _ hR.out hC.out (SlIn2.below X4.out.sl (by repeat (first | (with_reducible exact Below.refl _ _) | (with_reducible assumption) | (with_reducible refine Below.drew ?_) | (with_reducible refine Below.drewN ?_) | ((with_reducible refine Below.al ?_ ?_); · first | omega | (simp; done) | (simp; omega)) | ((with_reducible refine Below.sc ?_ ?_); · first | omega | (simp; done) | (simp; omega)) | ((with_reducible refine Below.thru hb ?_ ?_); · first | omega | (simp; done) | (simp; omega))))) HB.out).mono ?_
  rintro e w5 ⟨gv, gs, rfl, OG, hb⟩
  have zz5 := hb.size
  try simp at zz5
  have B5 : Blk w5 w.heap.size 24 #[s, t] := (by repeat (first | (with_reducible assumption) | ((with_reducible refine Blk.new ?_); · first | omega | (simp; done) | (simp; omega)) | (with_reducible apply Blk.set4) | (with_reducible apply Blk.set3) | (with_reducible apply Blk.set2) | ((with_reducible refine Blk.put ?_ ?_); · first | omega | (simp; omega)) | (with_reducible refine Blk.old ?_) | (with_reducible refine Blk.drew ?_) | (with_reducible refine Blk.drewN ?_) | ((with_reducible refine Blk.below hb ?_ ?_); · first | omega | (simp; done) | (simp; omega))))
  have X5 : Blk w5 w4.heap.size 27 #[.slice xa S.length xc, .slice xb T.length xd] := (by repeat (first | (with_reducible assumption) | ((with_reducible refine Blk.new ?_); · first | omega | (simp; done) | (simp; omega)) | (with_reducible apply Blk.set4) | (with_reducible apply Blk.set3) | (with_reducible apply Blk.set2) | ((with_reducible refine Blk.put ?_ ?_); · first | omega | (simp; omega)) | (with_reducible refine Blk.old ?_) | (with_reducible refine Blk.drew ?_) | (with_reducible refine Blk.drewN ?_) | ((with_reducible refine Blk.below hb ?_ ?_); · first | omega | (simp; done) | (simp; omega))))
  have kw5 : Below w.heap.size w w5 := (by repeat (first | (with_reducible exact Below.refl _ _) | (with_reducible assumption) | (with_reducible refine Below.drew ?_) | (with_reducible refine Below.drewN ?_) | ((with_reducible refine Below.al ?_ ?_); · first | omega | (simp; done) | (simp; omega)) | ((with_reducible refine Below.sc ?_ ?_); · first | omega | (simp; done) | (simp; omega)) | ((with_reducible refine Below.thru hb ?_ ?_); · first | omega | (simp; done) | (simp; omega))))
  have sw5 := kw5.size
  have lB5 := B5.lt
  have lX5 := X5.lt
  have R5 := Lib.hid ((R4.out.below (by repeat (first | (with_reducible exact Below.refl _ _) | (with_reducible assumption) | (with_reducible refine Below.drew ?_) | (with_reducible refine Below.drewN ?_) | ((with_reducible refine Below.al ?_ ?_); · first | omega | (simp; done) | (simp; omega)) | ((with_reducible refine Below.sc ?_ ?_); · first | omega | (simp; done) | (simp; omega)) | ((with_reducible refine Below.thru hb ?_ ?_); · first | omega | (simp; done) | (simp; omega))))).below hb)
  have RX5 := Lib.hid ((X4.out.below (by repeat (first | (with_reducible exact Below.refl _ _) | (with_reducible assumption) | (with_reducible refine Below.drew ?_) | (with_reducible refine Below.drewN ?_) | ((with_reducible refine Below.al ?_ ?_); · first | omega | (simp; done) | (simp; omega)) | ((with_reducible refine Below.sc ?_ ?_); · first | omega | (simp; done) | (simp; omega)) | ((with_reducible refine Below.thru hb ?_ ?_); · first | omega | (simp; done) | (simp; omega))))).below hb)
  have RG5 := Lib.hid (OwnSS.mono (B' := w4.heap.size + 1) OG (by first | omega | (simp; done) | (simp; omega))).toR
  clear OG hb c4 B4 R4 X4
  go_wp2_with fail
  refine (eqInt64SS_same _ _ gs ws css _ _ _ RG5.out.1 R5.out.1 HK.out.1 HK.out.2).mono ?_
  rintro e w6 ⟨rfl, hb⟩
  have z6 := hb.size
  have B6 : Blk w6 w.heap.size 24 #[s, t] := (by repeat (first | (with_reducible assumption) | ((with_reducible refine Blk.new ?_); · first | omega | (simp; done) | (simp; omega)) | (with_reducible apply Blk.set4) | (with_reducible apply Blk.set3) | (with_reducible apply Blk.set2) | ((with_reducible refine Blk.put ?_ ?_); · first | omega | (simp; omega)) | (with_reducible refine Blk.old ?_) | (with_reducible refine Blk.drew ?_) | (with_reducible refine Blk.drewN ?_) | ((with_reducible refine Blk.below hb ?_ ?_); · first | omega | (simp; done) | (simp; omega))))
  have X6 : Blk w6 w4.heap.size 27 #[.slice xa S.length xc, .slice xb T.length xd] := (by repeat (first | (with_reducible assumption) | ((with_reducible refine Blk.new ?_); · first | omega | (simp; done) | (simp; omega)) | (with_reducible apply Blk.set4) | (with_reducible apply Blk.set3) | (with_reducible apply Blk.set2) | ((with_reducible refine Blk.put ?_ ?_); · first | omega | (simp; omega)) | (with_reducible refine Blk.old ?_) | (with_reducible refine Blk.drew ?_) | (with_reducible refine Blk.drewN ?_) | ((with_reducible refine Blk.below hb ?_ ?_); · first | omega | (simp; done) | (simp; omega))))
  have kw6 : Below w.heap.size w w6 := (by repeat (first | (with_reducible exact Below.refl _ _) | (with_reducible assumption) | (with_reducible refine Below.drew ?_) | (with_reducible refine Below.drewN ?_) | ((with_reducible refine Below.al ?_ ?_); · first | omega | (simp; done) | (simp; omega)) | ((with_reducible refine Below.sc ?_ ?_); · first | omega | (simp; done) | (simp; omega)) | ((with_reducible refine Below.thru hb ?_ ?_); · first | omega | (simp; done) | (simp; omega))))
  have sw6 := kw6.size
  have lB6 := B6.lt
  have lX6 := X6.lt
  have R6 := Lib.hid (R5.out.below hb)
  have RX6 := Lib.hid (RX5.out.below hb)
  have RG6 := Lib.hid (RG5.out.below hb)
  have b6 := B6.p2
  have x6 := X6.p2
  clear hb B5 X5 R5 RX5 RG5
  go_wp2_with fail
  go_cut [45] (fun s9 wq => s9 = .bool false ∧ Blk wq w.heap.size 24 #[s, t] ∧ Blk wq w4.heap.size 27 #[.slice xa S.length xc, .slice xb T.length xd] ∧ OwnSR wq w2.heap.size w3.heap.size wv ws css ∧ OwnR wq w3.heap.size w4.heap.size (.slice xa S.length xc) (.slice xb T.length xd) ⟨S, T⟩ ∧ OwnSR wq (w4.heap.size + 1) w5.heap.size gv gs css ∧ Below w.heap.size w wq ∧ w5.heap.size ≤ wq.heap.size)
  case first =>
    rename_i hJ hK
    replace hJ := Lib.hid hJ
    go_region_with (first
      | (go_at_call 18; refine (toAction_any s t S T _ (SlIn2.below HI.out (by repeat (first | (with_reducible exact Below.refl _ _) | (with_reducible assumption) | (with_reducible refine Below.drew ?_) | (with_reducible refine Below.drewN ?_) | ((with_reducible refine Below.al ?_ ?_); · first | omega | (simp; done) | (simp; omega)) | ((with_reducible refine Below.sc ?_ ?_); · first | omega | (simp; done) | (simp; omega)) | ((with_reducible refine Below.thru hb ?_ ?_); · first | omega | (simp; done) | (simp; omega))))) HB.out).mono ?_; rintro e w7 ⟨s3, t3, rfl, O3, hb⟩; have z7 := hb.size; have B7 : Blk w7 w.heap.size 24 #[s, t] := (by repeat (first | (with_reducible assumption) | ((with_reducible refine Blk.new ?_); · first | omega | (simp; done) | (simp; omega)) | (with_reducible apply Blk.set4) | (with_reducible apply Blk.set3) | (with_reducible apply Blk.set2) | ((with_reducible refine Blk.put ?_ ?_); · first | omega | (simp; omega)) | (with_reducible refine Blk.old ?_) | (with_reducible refine Blk.drew ?_) | (with_reducible refine Blk.drewN ?_) | ((with_reducible refine Blk.below hb ?_ ?_); · first | omega | (simp; done) | (simp; omega)))); have X7 : Blk w7 w4.heap.size 27 #[.slice xa S.length xc, .slice xb T.length xd] := (by repeat (first | (with_reducible assumption) | ((with_reducible refine Blk.new ?_); · first | omega | (simp; done) | (simp; omega)) | (with_reducible apply Blk.set4) | (with_reducible apply Blk.set3) | (with_reducible apply Blk.set2) | ((with_reducible refine Blk.put ?_ ?_); · first | omega | (simp; omega)) | (with_reducible refine Blk.old ?_) | (with_reducible refine Blk.drew ?_) | (with_reducible refine Blk.drewN ?_) | ((with_reducible refine Blk.below hb ?_ ?_); · first | omega | (simp; done) | (simp; omega)))); have x7 := X7.p2; have lB7 := B7.lt; have lX7 := X7.lt; have kw7 : Below w.heap.size w w7 := (by repeat (first | (with_reducible exact Below.refl _ _) | (with_reducible assumption) | (with_reducible refine Below.drew ?_) | (with_reducible refine Below.drewN ?_) | ((with_reducible refine Below.al ?_ ?_); · first | omega | (simp; done) | (simp; omega)) | ((with_reducible refine Below.sc ?_ ?_); · first | omega | (simp; done) | (simp; omega)) | ((with_reducible refine Below.thru hb ?_ ?_); · first | omega | (simp; done) | (simp; omega)))); have sw7 := kw7.size; have R7 := Lib.hid ((R6.out.below (by repeat (first | (with_reducible exact Below.refl _ _) | (with_reducible assumption) | (with_reducible refine Below.drew ?_) | (with_reducible refine Below.drewN ?_) | ((with_reducible refine Below.al ?_ ?_); · first | omega | (simp; done) | (simp; omega)) | ((with_reducible refine Below.sc ?_ ?_); · first | omega | (simp; done) | (simp; omega)) | ((with_reducible refine Below.thru hb ?_ ?_); · first | omega | (simp; done) | (simp; omega))))).below hb); have RX7 := Lib.hid ((RX6.out.below (by repeat (first | (with_reducible exact Below.refl _ _) | (with_reducible assumption) | (with_reducible refine Below.drew ?_) | (with_reducible refine Below.drewN ?_) | ((with_reducible refine Below.al ?_ ?_); · first | omega | (simp; done) | (simp; omega)) | ((with_reducible refine Below.sc ?_ ?_); · first | omega | (simp; done) | (simp; omega)) | ((with_reducible refine Below.thru hb ?_ ?_); · first | omega | (simp; done) | (simp; omega))))).below hb); have RG7 := Lib.hid ((RG6.out.below (by repeat (first | (with_reducible exact Below.refl _ _) | (with_reducible assumption) | (with_reducible refine Below.drew ?_) | (with_reducible refine Below.drewN ?_) | ((with_reducible refine Below.al ?_ ?_); · first | omega | (simp; done) | (simp; omega)) | ((with_reducible refine Below.sc ?_ ?_); · first | omega | (simp; done) | (simp; omega)) | ((with_reducible refine Below.thru hb ?_ ?_); · first | omega | (simp; done) | (simp; omega))))).below hb); have H7 := O3.sl; clear hb)
      | (go_at_call 20; refine (eqAction_same _ _ s3 t3 S T _ (SlIn2.below RX7.out.sl (by repeat (first | (with_reducible exact Below.refl _ _) | (with_reducible assumption) | (with_reducible refine Below.drew ?_) | (with_reducible refine Below.drewN ?_) | ((with_reducible refine Below.al ?_ ?_); · first | omega | (simp; done) | (simp; omega)) | ((with_reducible refine Below.sc ?_ ?_); · first | omega | (simp; done) | (simp; omega)) | ((with_reducible refine Below.thru hb ?_ ?_); · first | omega | (simp; done) | (simp; omega))))) (SlIn2.below H7 (by repeat (first | (with_reducible exact Below.refl _ _) | (with_reducible assumption) | (with_reducible refine Below.drew ?_) | (with_reducible refine Below.drewN ?_) | ((with_reducible refine Below.al ?_ ?_); · first | omega | (simp; done) | (simp; omega)) | ((with_reducible refine Below.sc ?_ ?_); · first | omega | (simp; done) | (simp; omega)) | ((with_reducible refine Below.thru hb ?_ ?_); · first | omega | (simp; done) | (simp; omega))))) HL.out).mono ?_; rintro e w8 ⟨rfl, hb⟩; have z8 := hb.size; have B8 : Blk w8 w.heap.size 24 #[s, t] := (by repeat (first | (with_reducible assumption) | ((with_reducible refine Blk.new ?_); · first | omega | (simp; done) | (simp; omega)) | (with_reducible apply Blk.set4) | (with_reducible apply Blk.set3) | (with_reducible apply Blk.set2) | ((with_reducible refine Blk.put ?_ ?_); · first | omega | (simp; omega)) | (with_reducible refine Blk.old ?_) | (with_reducible refine Blk.drew ?_) | (with_reducible refine Blk.drewN ?_) | ((with_reducible refine Blk.below hb ?_ ?_); · first | omega | (simp; done) | (simp; omega)))); have X8 : Blk w8 w4.heap.size 27 #[.slice xa S.length xc, .slice xb T.length xd] := (by repeat (first | (with_reducible assumption) | ((with_reducible refine Blk.new ?_); · first | omega | (simp; done) | (simp; omega)) | (with_reducible apply Blk.set4) | (with_reducible apply Blk.set3) | (with_reducible apply Blk.set2) | ((with_reducible refine Blk.put ?_ ?_); · first | omega | (simp; omega)) | (with_reducible refine Blk.old ?_) | (with_reducible refine Blk.drew ?_) | (with_reducible refine Blk.drewN ?_) | ((with_reducible refine Blk.below hb ?_ ?_); · first | omega | (simp; done) | (simp; omega)))); have kw8 : Below w.heap.size w w8 := (by repeat (first | (with_reducible exact Below.refl _ _) | (with_reducible assumption) | (with_reducible refine Below.drew ?_) | (with_reducible refine Below.drewN ?_) | ((with_reducible refine Below.al ?_ ?_); · first | omega | (simp; done) | (simp; omega)) | ((with_reducible refine Below.sc ?_ ?_); · first | omega | (simp; done) | (simp; omega)) | ((with_reducible refine Below.thru hb ?_ ?_); · first | omega | (simp; done) | (simp; omega)))); have R8 := Lib.hid ((R7.out.below (by repeat (first | (with_reducible exact Below.refl _ _) | (with_reducible assumption) | (with_reducible refine Below.drew ?_) | (with_reducible refine Below.drewN ?_) | ((with_reducible refine Below.al ?_ ?_); · first | omega | (simp; done) | (simp; omega)) | ((with_reducible refine Below.sc ?_ ?_); · first | omega | (simp; done) | (simp; omega)) | ((with_reducible refine Below.thru hb ?_ ?_); · first | omega | (simp; done) | (simp; omega))))).below hb); have RX8 := Lib.hid ((RX7.out.below (by repeat (first | (with_reducible exact Below.refl _ _) | (with_reducible assumption) | (with_reducible refine Below.drew ?_) | (with_reducible refine Below.drewN ?_) | ((with_reducible refine Below.al ?_ ?_); · first | omega | (simp; done) | (simp; omega)) | ((with_reducible refine Below.sc ?_ ?_); · first | omega | (simp; done) | (simp; omega)) | ((with_reducible refine Below.thru hb ?_ ?_); · first | omega | (simp; done) | (simp; omega))))).below hb); have RG8 := Lib.hid ((RG7.out.below (by repeat (first | (with_reducible exact Below.refl _ _) | (with_reducible assumption) | (with_reducible refine Below.drew ?_) | (with_reducible refine Below.drewN ?_) | ((with_reducible refine Below.al ?_ ?_); · first | omega | (simp; done) | (simp; omega)) | ((with_reducible refine Below.sc ?_ ?_); · first | omega | (simp; done) | (simp; omega)) | ((with_reducible refine Below.thru hb ?_ ?_); · first | omega | (simp; done) | (simp; omega))))).below hb); clear hb))
    all_goals (replace hJ := hJ.out)
    all_goals (go_wp2_with fail)
    all_goals go_meet
    all_goals exact ⟨rfl, B8, X8, R8.out, RX8.out, RG8.out, kw8, by first | omega | (simp at z7 z8; omega)⟩
  case rest =>
    obtain ⟨rfl, B9, X9, R9, RX9, RG9, kw9, z9⟩ := hcut
    clear B6 X6 R6 RX6 RG6 b6 x6
    have sw9 := kw9.size
    have lB9 := B9.lt
    have lX9 := X9.lt
    have x9 := X9.p2
    have HR9 := Lib.hid (And.intro R9 (And.intro RX9 RG9))
    clear R9 RX9 RG9
    go_wp2_with fail
    refine (markAction_any _ _ S T w3.heap.size w4.heap.size 1 _ HR9.out.2.1 (by omega) HB.out (by omega)).mono ?_
    rintro e v1 ⟨rfl, RX1, C1⟩
    have Bm := C1.blk (by omega) B9
    have km := C1.toBelow kw9 (by omega) (by omega)
    have HR1 := Lib.hid (And.intro (HR9.out.1.chg C1 (by omega)) (HR9.out.2.2.chg C1 (by omega)))
    have zv1 := C1.size
    have lBm := Bm.lt
    have sm := km.size
    clear C1 HR9 B9 X9 x9 kw9 RX1
    go_wp2_with fail
    refine (eqInt64SS_same _ _ gs ws css _ _ _ HR1.out.2.1 HR1.out.1.1 HK.out.1 HK.out.2).mono ?_
    rintro e v3 ⟨rfl, hb⟩
    have B3 : Blk v3 w.heap.size 24 #[s, t] := (by repeat (first | (with_reducible assumption) | ((with_reducible refine Blk.new ?_); · first | omega | (simp; done) | (simp; omega)) | (with_reducible apply Blk.set4) | (with_reducible apply Blk.set3) | (with_reducible apply Blk.set2) | ((with_reducible refine Blk.put ?_ ?_); · first | omega | (simp; omega)) | (with_reducible refine Blk.old ?_) | (with_reducible refine Blk.drew ?_) | (with_reducible refine Blk.drewN ?_) | ((with_reducible refine Blk.below hb ?_ ?_); · first | omega | (simp; done) | (simp; omega))))
    have k3 : Below w.heap.size w v3 := (by repeat (first | (with_reducible exact Below.refl _ _) | (with_reducible assumption) | (with_reducible refine Below.drew ?_) | (with_reducible refine Below.drewN ?_) | ((with_reducible refine Below.al ?_ ?_); · first | omega | (simp; done) | (simp; omega)) | ((with_reducible refine Below.sc ?_ ?_); · first | omega | (simp; done) | (simp; omega)) | ((with_reducible refine Below.thru hb ?_ ?_); · first | omega | (simp; done) | (simp; omega))))
    have s3 := k3.size
    have z3 := hb.size
    have lB3m := B3.lt
    have HR3 := Lib.hid (And.intro (HR1.out.1.below hb) (HR1.out.2.below hb))
    clear hb Bm km HR1
    go_wp2_with fail
    refine (markInt64SS_any _ gs css (w4.heap.size + 1) 1 _ HR3.out.2.1 HK.out.1 HK.out.2 (by omega)).mono ?_
    rintro e v4 ⟨rfl, OG4, C4a, hz4⟩
    have B4m := C4a.blk (by omega) B3
    have k4 := C4a.toBelow k3 (by omega) (by omega)
    have s4 := k4.size
    have RW4 := Lib.hid (HR3.out.1.chg C4a (by omega))
    have HG4 := Lib.hid OG4
    have lB4m := B4m.lt
    clear C4a HR3 B3 k3 OG4
    go_wp2_with fail
    refine (heldInt64SS_any _ gs css (w4.heap.size + 1) 1 _ HG4.out HK.out.1 HK.out.2 (by omega)).mono ?_
    rintro e v5 ⟨rfl, hb⟩
    have B5m : Blk v5 w.heap.size 24 #[s, t] := (by repeat (first | (with_reducible assumption) | ((with_reducible refine Blk.new ?_); · first | omega | (simp; done) | (simp; omega)) | (with_reducible apply Blk.set4) | (with_reducible apply Blk.set3) | (with_reducible apply Blk.set2) | ((with_reducible refine Blk.put ?_ ?_); · first | omega | (simp; omega)) | (with_reducible refine Blk.old ?_) | (with_reducible refine Blk.drew ?_) | (with_reducible refine Blk.drewN ?_) | ((with_reducible refine Blk.below hb ?_ ?_); · first | omega | (simp; done) | (simp; omega))))
    have k5 : Below w.heap.size w v5 := (by repeat (first | (with_reducible exact Below.refl _ _) | (with_reducible assumption) | (with_reducible refine Below.drew ?_) | (with_reducible refine Below.drewN ?_) | ((with_reducible refine Below.al ?_ ?_); · first | omega | (simp; done) | (simp; omega)) | ((with_reducible refine Below.sc ?_ ?_); · first | omega | (simp; done) | (simp; omega)) | ((with_reducible refine Below.thru hb ?_ ?_); · first | omega | (simp; done) | (simp; omega))))
    have s5 := k5.size
    have RW5 := Lib.hid (RW4.out.below hb)
    have HG5 := Lib.hid (HG4.out.below hb)
    have b5 := B5m.p2
    clear hb B4m k4 RW4 HG4
    go_wp2_with fail
    refine (toAction_any s t S T _ (SlIn2.below HI.out (by repeat (first | (with_reducible exact Below.refl _ _) | (with_reducible assumption) | (with_reducible refine Below.drew ?_) | (with_reducible refine Below.drewN ?_) | ((with_reducible refine Below.al ?_ ?_); · first | omega | (simp; done) | (simp; omega)) | ((with_reducible refine Below.sc ?_ ?_); · first | omega | (simp; done) | (simp; omega)) | ((with_reducible refine Below.thru hb ?_ ?_); · first | omega | (simp; done) | (simp; omega))))) HB.out).mono ?_
    rintro e v6 ⟨s6, t6, rfl, O6, hb⟩
    have k6 : Below w.heap.size w v6 := (by repeat (first | (with_reducible exact Below.refl _ _) | (with_reducible assumption) | (with_reducible refine Below.drew ?_) | (with_reducible refine Below.drewN ?_) | ((with_reducible refine Below.al ?_ ?_); · first | omega | (simp; done) | (simp; omega)) | ((with_reducible refine Below.sc ?_ ?_); · first | omega | (simp; done) | (simp; omega)) | ((with_reducible refine Below.thru hb ?_ ?_); · first | omega | (simp; done) | (simp; omega))))
    have s6m := k6.size
    have RW6 := Lib.hid (RW5.out.below hb)
    have HG6 := Lib.hid (HG5.out.below hb)
    clear hb B5m k5 b5 RW5 HG5
    go_wp2_with fail
    refine (CyclesOf_R _ _ S T css c _ hR.out hC.out O6.sl HB.out).mono ?_
    rintro e v7 ⟨hv, hs, rfl, OH, hb⟩
    have k7 : Below w.heap.size w v7 := (by repeat (first | (with_reducible exact Below.refl _ _) | (with_reducible assumption) | (with_reducible refine Below.drew ?_) | (with_reducible refine Below.drewN ?_) | ((with_reducible refine Below.al ?_ ?_); · first | omega | (simp; done) | (simp; omega)) | ((with_reducible refine Below.sc ?_ ?_); · first | omega | (simp; done) | (simp; omega)) | ((with_reducible refine Below.thru hb ?_ ?_); · first | omega | (simp; done) | (simp; omega))))
    have s7 := k7.size
    have RW7 := Lib.hid (RW6.out.below hb)
    have HG7 := Lib.hid (HG6.out.below hb)
    have HH := Lib.hid OH
    clear hb OH k6 RW6 HG6
    go_wp2_with fail
    refine (eqInt64SS_same _ _ hs ws css _ _ _ HH.out RW7.out.1 HK.out.1 HK.out.2).mono ?_
    rintro e v8 ⟨rfl, hb⟩
    have k8 : Below w.heap.size w v8 := (by repeat (first | (with_reducible exact Below.refl _ _) | (with_reducible assumption) | (with_reducible refine Below.drew ?_) | (with_reducible refine Below.drewN ?_) | ((with_reducible refine Below.al ?_ ?_); · first | omega | (simp; done) | (simp; omega)) | ((with_reducible refine Below.sc ?_ ?_); · first | omega | (simp; done) | (simp; omega)) | ((with_reducible refine Below.thru hb ?_ ?_); · first | omega | (simp; done) | (simp; omega))))
    have s8 := k8.size
    have HG8 := Lib.hid (HG7.out.below hb)
    clear hb k7 RW7 HG7 HH
    go_wp2_with fail
    refine (heldInt64SS_any _ gs css (w4.heap.size + 1) 1 _ HG8.out HK.out.1 HK.out.2 (by omega)).mono ?_
    rintro e v9 ⟨rfl, hb⟩
    have k9 : Below w.heap.size w v9 := (by repeat (first | (with_reducible exact Below.refl _ _) | (with_reducible assumption) | (with_reducible refine Below.drew ?_) | (with_reducible refine Below.drewN ?_) | ((with_reducible refine Below.al ?_ ?_); · first | omega | (simp; done) | (simp; omega)) | ((with_reducible refine Below.sc ?_ ?_); · first | omega | (simp; done) | (simp; omega)) | ((with_reducible refine Below.thru hb ?_ ?_); · first | omega | (simp; done) | (simp; omega))))
    clear hb
    go_wp2
    go_ret
    exact ⟨rfl, k9⟩

end Go.Proofs.Ytamkbgodenkboaa
