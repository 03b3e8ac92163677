/- The genus of an action: both. -/
import Derived.Test.YtamkbgodenkboaaCysS
import Derived.Test.YtamkbgodenkboaaKept
namespace Go.Proofs.Ytamkbgodenkboaa
open Go.RowKit

/-- The genus out of its numbers, as the machine reckons it. -/
def gW (n y z L : Nat) : Int := IntKind.i64.wrap (Int.tdiv (IntKind.i64.wrap (IntKind.i64.wrap (IntKind.i64.wrap (IntKind.i64.wrap (12 + (n : Int)) - IntKind.i64.wrap (3 * (y : Int))) - IntKind.i64.wrap (4 * (z : Int))) - IntKind.i64.wrap (6 * (L : Int)))) 12)
def genus2 (S T : List Int) : Int × Int := if isA S T then (gW S.length (keepS S S.length) (keepT S T S.length) (cysL (fn T) S.length S.length).length, 0) else (0, 1)
theorem GivesSS.cut {css : List (List Nat)} {w : World} {e : Ending} {w' : World} {L : Nat} (hL : css.length = L) (h : GivesSS css w e w') : ∃ ao c, e = .returned (.slice ao L c) ∧ Below w.heap.size w w' := by
  obtain ⟨v, vs, rfl, h1, h2, h3⟩ := h
  obtain ⟨ao, c, rfl⟩ := h1.len
  exact ⟨ao, c, by rw [h2.len, hL], h3⟩
theorem cycles_cut (s t : Value) (S T : List Int) (n L : Nat) (w : World) (hL : (cysL (fn T) n n).length = L) (h : SlIn w .i64 s S ∧ SlIn w .i64 t T) (hT : permB T n) (h0 : 1 ≤ n) (hn : n ≤ 72) :
    Calls Try.prog 82 #[.agg #[s, t]] w fun e w' => ∃ ao c, e = .returned (.slice ao L c) ∧ Below w.heap.size w w' :=
  (cycles_any s t S T n w h hT h0 hn).mono fun _ _ h => h.cut hL
theorem l10Cycles_cut (s t : Value) (S T : List Int) (n L : Nat) (w : World) (hL : (cysL (fn T) n n).length = L) (h : SlIn w .i64 s S ∧ SlIn w .i64 t T) (hT : permB T n) (h0 : 1 ≤ n) (hn : n ≤ 72) :
    Calls Try.prog 81 #[.agg #[s, t]] w fun e w' => ∃ ao c, e = .returned (.slice ao L c) ∧ Below w.heap.size w w' :=
  (l10Cycles_any s t S T n w h hT h0 hn).mono fun _ _ h => h.cut hL

set_option maxRecDepth 8000 in
set_option maxHeartbeats 1000000 in
theorem GenusOfAction_any (s t : Value) (S T : List Int) (w : World) (h : SlIn w .i64 s S ∧ SlIn w .i64 t T) (hl : S.length ≤ 1048576 ∧ T.length ≤ 1048576) :
    Calls Try.prog 33 #[.agg #[s, t]] w fun e w' => e = .returned (.tuple #[.int .i64 (genus2 S T).1, .int .i64 (genus2 S T).2]) ∧ Below w.heap.size w w' := by
  have HI := Lib.hid h
  have HL := Lib.hid hl
  obtain ⟨sa, sc, hsa, -⟩ := h.1.form
  obtain ⟨ta, tc, hta, -⟩ := h.2.form
  subst hsa hta
  clear h hl
  cases hq : isA S T with
  | false =>
    have HF := Lib.hid (show genus2 S T = (0, 1) by unfold genus2; rw [hq]; rfl)
    go_enter Try.func33, Try.ntmps33
    go_wp2_with fail
    refine (IsAction_any _ _ S T _ (SlIn2.below HI.out (by repeat (first | (with_reducible exact Below.refl _ _) | (with_reducible assumption) | (with_reducible refine Below.drew ?_) | (with_reducible refine Below.drewN ?_) | ((with_reducible refine Below.al ?_ ?_); · first | omega | (simp; done) | (simp; omega)) | ((with_reducible refine Below.sc ?_ ?_); · first | omega | (simp; done) | (simp; omega)) | ((with_reducible refine Below.thru hb ?_ ?_); · first | omega | (simp; done) | (simp; omega))))) HL.out).mono ?_
    rw [hq]
    clear hq
    rintro e w1 ⟨rfl, hb⟩
    have kw1 : Below w.heap.size w w1 := (by repeat (first | (with_reducible exact Below.refl _ _) | (with_reducible assumption) | (with_reducible refine Below.drew ?_) | (with_reducible refine Below.drewN ?_) | ((with_reducible refine Below.al ?_ ?_); · first | omega | (simp; done) | (simp; omega)) | ((with_reducible refine Below.sc ?_ ?_); · first | omega | (simp; done) | (simp; omega)) | ((with_reducible refine Below.thru hb ?_ ?_); · first | omega | (simp; done) | (simp; omega))))
    clear hb
    go_wp2
    go_ret2
    exact ⟨by rw [HF.out]; rfl, kw1⟩
  | true =>
    have HP := Lib.hid (isA_spec hq)
    have HF := Lib.hid (show genus2 S T = (gW S.length (keepS S S.length) (keepT S T S.length) (cysL (fn T) S.length S.length).length, 0) by unfold genus2; rw [hq]; rfl)
    have b1 := keepS_le S S.length
    have b2 := keepT_le S T S.length
    have b3 := cysL_len (fn T) S.length S.length
    have h72 := HP.out.1
    go_enter Try.func33, Try.ntmps33
    go_wp2_with fail
    refine (IsAction_any _ _ S T _ (SlIn2.below HI.out (by repeat (first | (with_reducible exact Below.refl _ _) | (with_reducible assumption) | (with_reducible refine Below.drew ?_) | (with_reducible refine Below.drewN ?_) | ((with_reducible refine Below.al ?_ ?_); · first | omega | (simp; done) | (simp; omega)) | ((with_reducible refine Below.sc ?_ ?_); · first | omega | (simp; done) | (simp; omega)) | ((with_reducible refine Below.thru hb ?_ ?_); · first | omega | (simp; done) | (simp; omega))))) HL.out).mono ?_
    rw [hq]
    clear hq
    rintro e w1 ⟨rfl, hb⟩
    have B1 : Blk w1 w.heap.size 27 #[.slice sa S.length sc, .slice ta T.length tc] := (by repeat (first | (with_reducible assumption) | ((with_reducible refine Blk.new ?_); · first | omega | (simp; done) | (simp; omega)) | (with_reducible apply Blk.set4) | (with_reducible apply Blk.set3) | (with_reducible apply Blk.set2) | ((with_reducible refine Blk.put ?_ ?_); · first | omega | (simp; omega)) | (with_reducible refine Blk.old ?_) | (with_reducible refine Blk.drew ?_) | (with_reducible refine Blk.drewN ?_) | ((with_reducible refine Blk.below hb ?_ ?_); · first | omega | (simp; done) | (simp; omega))))
    have kw1 : Below w.heap.size w w1 := (by repeat (first | (with_reducible exact Below.refl _ _) | (with_reducible assumption) | (with_reducible refine Below.drew ?_) | (with_reducible refine Below.drewN ?_) | ((with_reducible refine Below.al ?_ ?_); · first | omega | (simp; done) | (simp; omega)) | ((with_reducible refine Below.sc ?_ ?_); · first | omega | (simp; done) | (simp; omega)) | ((with_reducible refine Below.thru hb ?_ ?_); · first | omega | (simp; done) | (simp; omega))))
    have c1 := B1.p2
    have sw1 := kw1.size
    have lB1 := B1.lt
    clear hb
    go_wp2_with fail
    refine (keptPoints_any _ _ S T S.length _ (SlIn2.below HI.out kw1) HP.out.2.1 HP.out.2.2.1 h72.1 h72.2).mono ?_
    rintro e w2 ⟨rfl, hb⟩
    have B2 : Blk w2 w.heap.size 27 #[.slice sa S.length sc, .slice ta T.length tc] := (by repeat (first | (with_reducible assumption) | ((with_reducible refine Blk.new ?_); · first | omega | (simp; done) | (simp; omega)) | (with_reducible apply Blk.set4) | (with_reducible apply Blk.set3) | (with_reducible apply Blk.set2) | ((with_reducible refine Blk.put ?_ ?_); · first | omega | (simp; omega)) | (with_reducible refine Blk.old ?_) | (with_reducible refine Blk.drew ?_) | (with_reducible refine Blk.drewN ?_) | ((with_reducible refine Blk.below hb ?_ ?_); · first | omega | (simp; done) | (simp; omega))))
    have kw2 : Below w.heap.size w w2 := (by repeat (first | (with_reducible exact Below.refl _ _) | (with_reducible assumption) | (with_reducible refine Below.drew ?_) | (with_reducible refine Below.drewN ?_) | ((with_reducible refine Below.al ?_ ?_); · first | omega | (simp; done) | (simp; omega)) | ((with_reducible refine Below.sc ?_ ?_); · first | omega | (simp; done) | (simp; omega)) | ((with_reducible refine Below.thru hb ?_ ?_); · first | omega | (simp; done) | (simp; omega))))
    have c2 := B2.p2
    have sw2 := kw2.size
    have lB2 := B2.lt
    clear hb c1 B1 kw1
    generalize keepS S S.length = y at *
    generalize keepT S T S.length = z at *
    obtain ⟨L, hL⟩ : ∃ L, (cysL (fn T) S.length S.length).length = L := ⟨_, rfl⟩
    rw [hL] at HF b3
    replace hL := Lib.hid hL
    go_wp2_with fail
    go_cut [2, 3] (fun s2 s3 wx => s2 = .int .i64 (gW S.length y z L) ∧ s3 = .int .i64 0 ∧ Below w.heap.size w wx)
    case first =>
      rename_i hJ hK
      replace hJ := Lib.hid hJ
      go_region_held3 (fun w' => w'.cell? ⟨w.heap.size, 0, none⟩ = some (.slice sa S.length sc) ∧ w'.cell? ⟨w.heap.size, 1, none⟩ = some (.slice ta T.length tc)) (first | go_keep | exact c3) (first
        | (go_at_call 82; refine (cycles_cut _ _ S T S.length L _ hL.out (SlIn2.below HI.out (by repeat (first | (with_reducible exact Below.refl _ _) | (with_reducible assumption) | (with_reducible refine Below.drew ?_) | (with_reducible refine Below.drewN ?_) | ((with_reducible refine Below.al ?_ ?_); · first | omega | (simp; done) | (simp; omega)) | ((with_reducible refine Below.sc ?_ ?_); · first | omega | (simp; done) | (simp; omega)) | ((with_reducible refine Below.thru hb ?_ ?_); · first | omega | (simp; done) | (simp; omega))))) HP.out.2.2.1 h72.1 h72.2).mono ?_; rintro e w3 ⟨co, cc, rfl, hb⟩; have B3 : Blk w3 w.heap.size 27 #[.slice sa S.length sc, .slice ta T.length tc] := (by repeat (first | (with_reducible assumption) | ((with_reducible refine Blk.new ?_); · first | omega | (simp; done) | (simp; omega)) | (with_reducible apply Blk.set4) | (with_reducible apply Blk.set3) | (with_reducible apply Blk.set2) | ((with_reducible refine Blk.put ?_ ?_); · first | omega | (simp; omega)) | (with_reducible refine Blk.old ?_) | (with_reducible refine Blk.drew ?_) | (with_reducible refine Blk.drewN ?_) | ((with_reducible refine Blk.below hb ?_ ?_); · first | omega | (simp; done) | (simp; omega)))); have kw3 : Below w.heap.size w w3 := (by repeat (first | (with_reducible exact Below.refl _ _) | (with_reducible assumption) | (with_reducible refine Below.drew ?_) | (with_reducible refine Below.drewN ?_) | ((with_reducible refine Below.al ?_ ?_); · first | omega | (simp; done) | (simp; omega)) | ((with_reducible refine Below.sc ?_ ?_); · first | omega | (simp; done) | (simp; omega)) | ((with_reducible refine Below.thru hb ?_ ?_); · first | omega | (simp; done) | (simp; omega)))); have c3 := B3.p2; clear hb))
      all_goals (replace hJ := hJ.out)
      all_goals (go_wp2_with fail)
      all_goals go_meet
      all_goals exact ⟨rfl, rfl, (by repeat (first | (with_reducible exact Below.refl _ _) | (with_reducible assumption) | (with_reducible refine Below.drew ?_) | (with_reducible refine Below.drewN ?_) | ((with_reducible refine Below.al ?_ ?_); · first | omega | (simp; done) | (simp; omega)) | ((with_reducible refine Below.sc ?_ ?_); · first | omega | (simp; done) | (simp; omega)) | ((with_reducible refine Below.thru hb ?_ ?_); · first | omega | (simp; done) | (simp; omega))))⟩
    case rest =>
      obtain ⟨rfl, rfl, kw4⟩ := hcut
      go_wp2
      go_ret2
      exact ⟨by rw [HF.out]; rfl, kw4⟩

set_option maxRecDepth 8000 in
set_option maxHeartbeats 1000000 in
theorem specGenusOfAction_any (s t : Value) (S T : List Int) (w : World) (h : SlIn w .i64 s S ∧ SlIn w .i64 t T) (hl : S.length ≤ 1048576 ∧ T.length ≤ 1048576) :
    Calls Try.prog 32 #[.agg #[s, t]] w fun e w' => e = .returned (.tuple #[.int .i64 (genus2 S T).1, .int .i64 (genus2 S T).2]) ∧ Below w.heap.size w w' := by
  have HI := Lib.hid h
  have HL := Lib.hid hl
  obtain ⟨sa, sc, hsa, -⟩ := h.1.form
  obtain ⟨ta, tc, hta, -⟩ := h.2.form
  subst hsa hta
  clear h hl
  cases hq : isA S T with
  | false =>
    have HF := Lib.hid (show genus2 S T = (0, 1) by unfold genus2; rw [hq]; rfl)
    go_enter Try.func32, Try.ntmps32
    go_wp2_with fail
    refine (l10Is_any _ _ S T _ (SlIn2.below HI.out (by repeat (first | (with_reducible exact Below.refl _ _) | (with_reducible assumption) | (with_reducible refine Below.drew ?_) | (with_reducible refine Below.drewN ?_) | ((with_reducible refine Below.al ?_ ?_); · first | omega | (simp; done) | (simp; omega)) | ((with_reducible refine Below.sc ?_ ?_); · first | omega | (simp; done) | (simp; omega)) | ((with_reducible refine Below.thru hb ?_ ?_); · first | omega | (simp; done) | (simp; omega))))) HL.out).mono ?_
    rw [hq]
    clear hq
    rintro e w1 ⟨rfl, hb⟩
    have kw1 : Below w.heap.size w w1 := (by repeat (first | (with_reducible exact Below.refl _ _) | (with_reducible assumption) | (with_reducible refine Below.drew ?_) | (with_reducible refine Below.drewN ?_) | ((with_reducible refine Below.al ?_ ?_); · first | omega | (simp; done) | (simp; omega)) | ((with_reducible refine Below.sc ?_ ?_); · first | omega | (simp; done) | (simp; omega)) | ((with_reducible refine Below.thru hb ?_ ?_); · first | omega | (simp; done) | (simp; omega))))
    clear hb
    go_wp2
    go_ret2
    exact ⟨by rw [HF.out]; rfl, kw1⟩
  | true =>
    have HP := Lib.hid (isA_spec hq)
    have HF := Lib.hid (show genus2 S T = (gW S.length (keepS S S.length) (keepT S T S.length) (cysL (fn T) S.length S.length).length, 0) by unfold genus2; rw [hq]; rfl)
    have b1 := keepS_le S S.length
    have b2 := keepT_le S T S.length
    have b3 := cysL_len (fn T) S.length S.length
    have h72 := HP.out.1
    go_enter Try.func32, Try.ntmps32
    go_wp2_with fail
    refine (l10Is_any _ _ S T _ (SlIn2.below HI.out (by repeat (first | (with_reducible exact Below.refl _ _) | (with_reducible assumption) | (with_reducible refine Below.drew ?_) | (with_reducible refine Below.drewN ?_) | ((with_reducible refine Below.al ?_ ?_); · first | omega | (simp; done) | (simp; omega)) | ((with_reducible refine Below.sc ?_ ?_); · first | omega | (simp; done) | (simp; omega)) | ((with_reducible refine Below.thru hb ?_ ?_); · first | omega | (simp; done) | (simp; omega))))) HL.out).mono ?_
    rw [hq]
    clear hq
    rintro e w1 ⟨rfl, hb⟩
    have B1 : Blk w1 w.heap.size 27 #[.slice sa S.length sc, .slice ta T.length tc] := (by repeat (first | (with_reducible assumption) | ((with_reducible refine Blk.new ?_); · first | omega | (simp; done) | (simp; omega)) | (with_reducible apply Blk.set4) | (with_reducible apply Blk.set3) | (with_reducible apply Blk.set2) | ((with_reducible refine Blk.put ?_ ?_); · first | omega | (simp; omega)) | (with_reducible refine Blk.old ?_) | (with_reducible refine Blk.drew ?_) | (with_reducible refine Blk.drewN ?_) | ((with_reducible refine Blk.below hb ?_ ?_); · first | omega | (simp; done) | (simp; omega))))
    have kw1 : Below w.heap.size w w1 := (by repeat (first | (with_reducible exact Below.refl _ _) | (with_reducible assumption) | (with_reducible refine Below.drew ?_) | (with_reducible refine Below.drewN ?_) | ((with_reducible refine Below.al ?_ ?_); · first | omega | (simp; done) | (simp; omega)) | ((with_reducible refine Below.sc ?_ ?_); · first | omega | (simp; done) | (simp; omega)) | ((with_reducible refine Below.thru hb ?_ ?_); · first | omega | (simp; done) | (simp; omega))))
    have c1 := B1.p2
    have sw1 := kw1.size
    have lB1 := B1.lt
    clear hb
    go_wp2_with fail
    refine (l10Kept_any _ _ S T S.length _ (SlIn2.below HI.out kw1) HP.out.2.1 HP.out.2.2.1 h72.1 h72.2).mono ?_
    rintro e w2 ⟨rfl, hb⟩
    have B2 : Blk w2 w.heap.size 27 #[.slice sa S.length sc, .slice ta T.length tc] := (by repeat (first | (with_reducible assumption) | ((with_reducible refine Blk.new ?_); · first | omega | (simp; done) | (simp; omega)) | (with_reducible apply Blk.set4) | (with_reducible apply Blk.set3) | (with_reducible apply Blk.set2) | ((with_reducible refine Blk.put ?_ ?_); · first | omega | (simp; omega)) | (with_reducible refine Blk.old ?_) | (with_reducible refine Blk.drew ?_) | (with_reducible refine Blk.drewN ?_) | ((with_reducible refine Blk.below hb ?_ ?_); · first | omega | (simp; done) | (simp; omega))))
    have kw2 : Below w.heap.size w w2 := (by repeat (first | (with_reducible exact Below.refl _ _) | (with_reducible assumption) | (with_reducible refine Below.drew ?_) | (with_reducible refine Below.drewN ?_) | ((with_reducible refine Below.al ?_ ?_); · first | omega | (simp; done) | (simp; omega)) | ((with_reducible refine Below.sc ?_ ?_); · first | omega | (simp; done) | (simp; omega)) | ((with_reducible refine Below.thru hb ?_ ?_); · first | omega | (simp; done) | (simp; omega))))
    have c2 := B2.p2
    have sw2 := kw2.size
    have lB2 := B2.lt
    clear hb c1 B1 kw1
    generalize keepS S S.length = y at *
    generalize keepT S T S.length = z at *
    obtain ⟨L, hL⟩ : ∃ L, (cysL (fn T) S.length S.length).length = L := ⟨_, rfl⟩
    rw [hL] at HF b3
    replace hL := Lib.hid hL
    go_wp2_with fail
    go_cut [2, 3] (fun s2 s3 wx => s2 = .int .i64 (gW S.length y z L) ∧ s3 = .int .i64 0 ∧ Below w.heap.size w wx)
    case first =>
      rename_i hJ hK
      replace hJ := Lib.hid hJ
      go_region_held3 (fun w' => w'.cell? ⟨w.heap.size, 0, none⟩ = some (.slice sa S.length sc) ∧ w'.cell? ⟨w.heap.size, 1, none⟩ = some (.slice ta T.length tc)) (first | go_keep | exact c3) (first
        | (go_at_call 81; refine (l10Cycles_cut _ _ S T S.length L _ hL.out (SlIn2.below HI.out (by repeat (first | (with_reducible exact Below.refl _ _) | (with_reducible assumption) | (with_reducible refine Below.drew ?_) | (with_reducible refine Below.drewN ?_) | ((with_reducible refine Below.al ?_ ?_); · first | omega | (simp; done) | (simp; omega)) | ((with_reducible refine Below.sc ?_ ?_); · first | omega | (simp; done) | (simp; omega)) | ((with_reducible refine Below.thru hb ?_ ?_); · first | omega | (simp; done) | (simp; omega))))) HP.out.2.2.1 h72.1 h72.2).mono ?_; rintro e w3 ⟨co, cc, rfl, hb⟩; have B3 : Blk w3 w.heap.size 27 #[.slice sa S.length sc, .slice ta T.length tc] := (by repeat (first | (with_reducible assumption) | ((with_reducible refine Blk.new ?_); · first | omega | (simp; done) | (simp; omega)) | (with_reducible apply Blk.set4) | (with_reducible apply Blk.set3) | (with_reducible apply Blk.set2) | ((with_reducible refine Blk.put ?_ ?_); · first | omega | (simp; omega)) | (with_reducible refine Blk.old ?_) | (with_reducible refine Blk.drew ?_) | (with_reducible refine Blk.drewN ?_) | ((with_reducible refine Blk.below hb ?_ ?_); · first | omega | (simp; done) | (simp; omega)))); have kw3 : Below w.heap.size w w3 := (by repeat (first | (with_reducible exact Below.refl _ _) | (with_reducible assumption) | (with_reducible refine Below.drew ?_) | (with_reducible refine Below.drewN ?_) | ((with_reducible refine Below.al ?_ ?_); · first | omega | (simp; done) | (simp; omega)) | ((with_reducible refine Below.sc ?_ ?_); · first | omega | (simp; done) | (simp; omega)) | ((with_reducible refine Below.thru hb ?_ ?_); · first | omega | (simp; done) | (simp; omega)))); have c3 := B3.p2; clear hb))
      all_goals (replace hJ := hJ.out)
      all_goals (go_wp2_with fail)
      all_goals go_meet
      all_goals exact ⟨rfl, rfl, (by repeat (first | (with_reducible exact Below.refl _ _) | (with_reducible assumption) | (with_reducible refine Below.drew ?_) | (with_reducible refine Below.drewN ?_) | ((with_reducible refine Below.al ?_ ?_); · first | omega | (simp; done) | (simp; omega)) | ((with_reducible refine Below.sc ?_ ?_); · first | omega | (simp; done) | (simp; omega)) | ((with_reducible refine Below.thru hb ?_ ?_); · first | omega | (simp; done) | (simp; omega))))⟩
    case rest =>
      obtain ⟨rfl, rfl, kw4⟩ := hcut
      go_wp2
      go_ret2
      exact ⟨by rw [HF.out]; rfl, kw4⟩

end Go.Proofs.Ytamkbgodenkboaa
