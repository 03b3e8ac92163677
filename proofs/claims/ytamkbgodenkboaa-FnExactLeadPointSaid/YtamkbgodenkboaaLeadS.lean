/- LeadPoint: the reference's walk. -/
import Derived.Test.YtamkbgodenkboaaLead
namespace Go.Proofs.Ytamkbgodenkboaa
open Go.RowKit

set_option maxRecDepth 8000 in
set_option maxHeartbeats 1500000 in
theorem specLeadPoint_any (s t : Value) (S T : List Int) (ws : ByteArray) (i : Int) (w : World) (h : SlIn w .i64 s S ∧ SlIn w .i64 t T) (hl : S.length ≤ 1048576 ∧ T.length ≤ 1048576) (hw : ws.size ≤ 140737488351232) :
    Calls Try.prog 45 #[.agg #[s, t], .string ws, .int .i64 i] w fun e w' => e = .returned (.tuple #[.int .i64 (lead2 S T ws i).1, .int .i64 (lead2 S T ws i).2]) ∧ Below w.heap.size w w' := by
  have HI := Lib.hid h
  have HL := Lib.hid hl
  obtain ⟨sa, sc, hsa, -⟩ := h.1.form
  obtain ⟨ta, tc, hta, -⟩ := h.2.form
  subst hsa hta
  clear h hl
  by_cases hfc : formCode S T i = 0
  rotate_left
  · have HF := Lib.hid (show lead2 S T ws i = (0, formCode S T i) by
      unfold lead2 formCode at *
      cases hq : isA S T with
      | false => rfl
      | true =>
        cases hp : ptB i S.length with
        | false => rw [Bool.and_false]; rfl
        | true => rw [hq, hp] at hfc; exact absurd rfl hfc)
    have hne : formCode S T i = 1 ∨ formCode S T i = 2 := by
      unfold formCode at *
      split
      · split
        · rename_i h1 h2; rw [if_pos h1, if_pos h2] at hfc; exact absurd rfl hfc
        · exact .inr rfl
      · exact .inl rfl
    rcases hne with hc | hc
    · have HC := Lib.hid hc
      rw [hc] at HF
      clear hc hfc
      by_cases z0 : 0 < ws.size
      · have z1 : (0 : Int) < (ws.size : Int) := by omega
        go_enter Try.func45, Try.ntmps45
        go_wp2_with fail
        refine (l10Code_any _ _ S T i _ (SlIn2.below HI.out (by repeat (first | (with_reducible exact Below.refl _ _) | (with_reducible assumption) | (with_reducible refine Below.drew ?_) | (with_reducible refine Below.drewN ?_) | ((with_reducible refine Below.al ?_ ?_); · first | omega | (simp; done) | (simp; omega)) | ((with_reducible refine Below.sc ?_ ?_); · first | omega | (simp; done) | (simp; omega)) | ((with_reducible refine Below.thru hb ?_ ?_); · first | omega | (simp; done) | (simp; omega))))) HL.out).mono ?_
        rw [HC.out]
        rintro e w1 ⟨rfl, hb⟩
        have kw1 : Below w.heap.size w w1 := (by repeat (first | (with_reducible exact Below.refl _ _) | (with_reducible assumption) | (with_reducible refine Below.drew ?_) | (with_reducible refine Below.drewN ?_) | ((with_reducible refine Below.al ?_ ?_); · first | omega | (simp; done) | (simp; omega)) | ((with_reducible refine Below.sc ?_ ?_); · first | omega | (simp; done) | (simp; omega)) | ((with_reducible refine Below.thru hb ?_ ?_); · first | omega | (simp; done) | (simp; omega))))
        clear hb
        go_wp2
        refine wp_loop_rounds 1 ?_
        rw [rounds_succ]
        go_wp2
        go_ret2
        exact ⟨by rw [HF.out]; rfl, kw1⟩
      · have z1 : ¬ (0 : Int) < (ws.size : Int) := by omega
        go_enter Try.func45, Try.ntmps45
        go_wp2_with fail
        refine (l10Code_any _ _ S T i _ (SlIn2.below HI.out (by repeat (first | (with_reducible exact Below.refl _ _) | (with_reducible assumption) | (with_reducible refine Below.drew ?_) | (with_reducible refine Below.drewN ?_) | ((with_reducible refine Below.al ?_ ?_); · first | omega | (simp; done) | (simp; omega)) | ((with_reducible refine Below.sc ?_ ?_); · first | omega | (simp; done) | (simp; omega)) | ((with_reducible refine Below.thru hb ?_ ?_); · first | omega | (simp; done) | (simp; omega))))) HL.out).mono ?_
        rw [HC.out]
        rintro e w1 ⟨rfl, hb⟩
        have kw1 : Below w.heap.size w w1 := (by repeat (first | (with_reducible exact Below.refl _ _) | (with_reducible assumption) | (with_reducible refine Below.drew ?_) | (with_reducible refine Below.drewN ?_) | ((with_reducible refine Below.al ?_ ?_); · first | omega | (simp; done) | (simp; omega)) | ((with_reducible refine Below.sc ?_ ?_); · first | omega | (simp; done) | (simp; omega)) | ((with_reducible refine Below.thru hb ?_ ?_); · first | omega | (simp; done) | (simp; omega))))
        clear hb
        go_wp2
        refine wp_loop_rounds 1 ?_
        rw [rounds_succ]
        go_wp2
        go_ret2
        exact ⟨by rw [HF.out]; rfl, kw1⟩
    · have HC := Lib.hid hc
      rw [hc] at HF
      clear hc hfc
      by_cases z0 : 0 < ws.size
      · have z1 : (0 : Int) < (ws.size : Int) := by omega
        go_enter Try.func45, Try.ntmps45
        go_wp2_with fail
        refine (l10Code_any _ _ S T i _ (SlIn2.below HI.out (by repeat (first | (with_reducible exact Below.refl _ _) | (with_reducible assumption) | (with_reducible refine Below.drew ?_) | (with_reducible refine Below.drewN ?_) | ((with_reducible refine Below.al ?_ ?_); · first | omega | (simp; done) | (simp; omega)) | ((with_reducible refine Below.sc ?_ ?_); · first | omega | (simp; done) | (simp; omega)) | ((with_reducible refine Below.thru hb ?_ ?_); · first | omega | (simp; done) | (simp; omega))))) HL.out).mono ?_
        rw [HC.out]
        rintro e w1 ⟨rfl, hb⟩
        have kw1 : Below w.heap.size w w1 := (by repeat (first | (with_reducible exact Below.refl _ _) | (with_reducible assumption) | (with_reducible refine Below.drew ?_) | (with_reducible refine Below.drewN ?_) | ((with_reducible refine Below.al ?_ ?_); · first | omega | (simp; done) | (simp; omega)) | ((with_reducible refine Below.sc ?_ ?_); · first | omega | (simp; done) | (simp; omega)) | ((with_reducible refine Below.thru hb ?_ ?_); · first | omega | (simp; done) | (simp; omega))))
        clear hb
        go_wp2
        refine wp_loop_rounds 1 ?_
        rw [rounds_succ]
        go_wp2
        go_ret2
        exact ⟨by rw [HF.out]; rfl, kw1⟩
      · have z1 : ¬ (0 : Int) < (ws.size : Int) := by omega
        go_enter Try.func45, Try.ntmps45
        go_wp2_with fail
        refine (l10Code_any _ _ S T i _ (SlIn2.below HI.out (by repeat (first | (with_reducible exact Below.refl _ _) | (with_reducible assumption) | (with_reducible refine Below.drew ?_) | (with_reducible refine Below.drewN ?_) | ((with_reducible refine Below.al ?_ ?_); · first | omega | (simp; done) | (simp; omega)) | ((with_reducible refine Below.sc ?_ ?_); · first | omega | (simp; done) | (simp; omega)) | ((with_reducible refine Below.thru hb ?_ ?_); · first | omega | (simp; done) | (simp; omega))))) HL.out).mono ?_
        rw [HC.out]
        rintro e w1 ⟨rfl, hb⟩
        have kw1 : Below w.heap.size w w1 := (by repeat (first | (with_reducible exact Below.refl _ _) | (with_reducible assumption) | (with_reducible refine Below.drew ?_) | (with_reducible refine Below.drewN ?_) | ((with_reducible refine Below.al ?_ ?_); · first | omega | (simp; done) | (simp; omega)) | ((with_reducible refine Below.sc ?_ ?_); · first | omega | (simp; done) | (simp; omega)) | ((with_reducible refine Below.thru hb ?_ ?_); · first | omega | (simp; done) | (simp; omega))))
        clear hb
        go_wp2
        refine wp_loop_rounds 1 ?_
        rw [rounds_succ]
        go_wp2
        go_ret2
        exact ⟨by rw [HF.out]; rfl, kw1⟩
  have hq : isA S T = true := by
    cases hq : isA S T with
    | true => rfl
    | false => unfold formCode at hfc; rw [hq] at hfc; simp at hfc
  have hp : ptB i S.length = true := by
    cases hp : ptB i S.length with
    | true => rfl
    | false => unfold formCode at hfc; rw [hq, hp] at hfc; simp at hfc
  have HP := Lib.hid (isA_spec hq)
  have HC := Lib.hid hfc
  obtain ⟨p, hpi⟩ : ∃ p : Nat, i = (p : Int) := ⟨i.toNat, by unfold ptB at hp; have := inB_true hp; omega⟩
  have hpn : p < S.length := by unfold ptB at hp; have := inB_true hp; omega
  subst hpi
  have HW := Lib.hid (fun (hw : wordB ws = false) => (show lead2 S T ws (p : Int) = (0, 2) by unfold lead2; rw [hq, hw]; rfl))
  have HW2 := Lib.hid (fun (hw : wordB ws = true) => (show lead2 S T ws (p : Int) = ((lpAll S T S.length ws p ws.size : Int), 0) by unfold lead2; rw [hq, hw, hp]; rfl))
  clear hq hp hfc
  by_cases h200 : 200 < ws.size
  · have HF := Lib.hid (HW.out (by unfold wordB; rw [decide_eq_false (by omega), Bool.false_and]))
    have z0 : (0 : Int) < (ws.size : Int) := by omega
    go_enter Try.func45, Try.ntmps45
    go_wp2_with fail
    refine (l10Code_any _ _ S T (p : Int) _ (SlIn2.below HI.out (by repeat (first | (with_reducible exact Below.refl _ _) | (with_reducible assumption) | (with_reducible refine Below.drew ?_) | (with_reducible refine Below.drewN ?_) | ((with_reducible refine Below.al ?_ ?_); · first | omega | (simp; done) | (simp; omega)) | ((with_reducible refine Below.sc ?_ ?_); · first | omega | (simp; done) | (simp; omega)) | ((with_reducible refine Below.thru hb ?_ ?_); · first | omega | (simp; done) | (simp; omega))))) HL.out).mono ?_
    rw [HC.out]
    rintro e w1 ⟨rfl, hb⟩
    have kw1 : Below w.heap.size w w1 := (by repeat (first | (with_reducible exact Below.refl _ _) | (with_reducible assumption) | (with_reducible refine Below.drew ?_) | (with_reducible refine Below.drewN ?_) | ((with_reducible refine Below.al ?_ ?_); · first | omega | (simp; done) | (simp; omega)) | ((with_reducible refine Below.sc ?_ ?_); · first | omega | (simp; done) | (simp; omega)) | ((with_reducible refine Below.thru hb ?_ ?_); · first | omega | (simp; done) | (simp; omega))))
    clear hb
    go_wp2
    refine wp_loop_rounds 1 ?_
    rw [rounds_succ]
    go_wp2
    go_ret2
    exact ⟨by rw [HF.out]; rfl, kw1⟩
  go_enter Try.func45, Try.ntmps45
  go_wp2_with fail
  refine (l10Code_any _ _ S T (p : Int) _ (SlIn2.below HI.out (by repeat (first | (with_reducible exact Below.refl _ _) | (with_reducible assumption) | (with_reducible refine Below.drew ?_) | (with_reducible refine Below.drewN ?_) | ((with_reducible refine Below.al ?_ ?_); · first | omega | (simp; done) | (simp; omega)) | ((with_reducible refine Below.sc ?_ ?_); · first | omega | (simp; done) | (simp; omega)) | ((with_reducible refine Below.thru hb ?_ ?_); · first | omega | (simp; done) | (simp; omega))))) HL.out).mono ?_
  rw [HC.out]
  rintro e w1 ⟨rfl, hb⟩
  have B1 : Blk w1 w.heap.size 27 #[.slice sa S.length sc, .slice ta T.length tc] := (by repeat (first | (with_reducible assumption) | ((with_reducible refine Blk.new ?_); · first | omega | (simp; done) | (simp; omega)) | (with_reducible apply Blk.set4) | (with_reducible apply Blk.set3) | (with_reducible apply Blk.set2) | ((with_reducible refine Blk.put ?_ ?_); · first | omega | (simp; omega)) | (with_reducible refine Blk.old ?_) | (with_reducible refine Blk.drew ?_) | (with_reducible refine Blk.drewN ?_) | ((with_reducible refine Blk.below hb ?_ ?_); · first | omega | (simp; done) | (simp; omega))))
  have kw1 : Below w.heap.size w w1 := (by repeat (first | (with_reducible exact Below.refl _ _) | (with_reducible assumption) | (with_reducible refine Below.drew ?_) | (with_reducible refine Below.drewN ?_) | ((with_reducible refine Below.al ?_ ?_); · first | omega | (simp; done) | (simp; omega)) | ((with_reducible refine Below.sc ?_ ?_); · first | omega | (simp; done) | (simp; omega)) | ((with_reducible refine Below.thru hb ?_ ?_); · first | omega | (simp; done) | (simp; omega))))
  clear hb
  go_wp2
  go_loopw [8, 9] (fun cd i wr => ∃ k : Nat, k ≤ ws.size ∧ i = .int .i64 k ∧ ((cd = .int .i64 0 ∧ Hid (wordTo ws k)) ∨ (cd = .int .i64 2 ∧ Hid (wordB ws = false))) ∧ Blk wr w.heap.size 27 #[.slice sa S.length sc, .slice ta T.length tc] ∧ Below w.heap.size w wr) (fun _ i _ => ws.size - (intOf i).toNat)
  case atStart => exact ⟨0, Nat.zero_le _, rfl, .inl ⟨rfl, Lib.hid (fun j h hj => absurd hj (by omega))⟩, (by repeat (first | (with_reducible assumption) | ((with_reducible refine Blk.new ?_); · first | omega | (simp; done) | (simp; omega)) | (with_reducible apply Blk.set4) | (with_reducible apply Blk.set3) | (with_reducible apply Blk.set2) | ((with_reducible refine Blk.put ?_ ?_); · first | omega | (simp; omega)) | (with_reducible refine Blk.old ?_) | (with_reducible refine Blk.drew ?_) | (with_reducible refine Blk.drewN ?_) | ((with_reducible refine Blk.below hb ?_ ?_); · first | omega | (simp; done) | (simp; omega)))), (by repeat (first | (with_reducible exact Below.refl _ _) | (with_reducible assumption) | (with_reducible refine Below.drew ?_) | (with_reducible refine Below.drewN ?_) | ((with_reducible refine Below.al ?_ ?_); · first | omega | (simp; done) | (simp; omega)) | ((with_reducible refine Below.sc ?_ ?_); · first | omega | (simp; done) | (simp; omega)) | ((with_reducible refine Below.thru hb ?_ ?_); · first | omega | (simp; done) | (simp; omega))))⟩
  case round =>
    obtain ⟨k, hk, rfl, hcd, B, kwr⟩ := hrel
    clear B1 kw1
    have lB := B.lt
    have swr := kwr.size
    rcases hcd with ⟨rfl, hwt⟩ | ⟨rfl, hwf⟩
    · by_cases hlt : k < ws.size
      · have j0 : (0 : Int) ≤ (k : Int) := by omega
        have j1 : (k : Int) < (ws.size : Int) := by omega
        have HN := Lib.hid (fun h => wordB_no (s := ws) hlt h)
        have HS := Lib.hid (fun (h : letB ws[k] = true) => (show wordTo ws (k + 1) from fun j h1 h2 => if e : j < k then hwt.out j h1 e else by
          obtain rfl : j = k := by omega
          exact h))
        have HK := Lib.hid (And.intro B kwr)
        clear B kwr
        go_wp2_with fail
        refine (l02Letter_any ws[k].toNat _).mono ?_
        rw [letN_eq]
        rintro e w3 ⟨m, rfl, hb⟩
        have B3 : Blk w3 w.heap.size 27 #[.slice sa S.length sc, .slice ta T.length tc] := by have B := HK.out.1; exact (by repeat (first | (with_reducible assumption) | ((with_reducible refine Blk.new ?_); · first | omega | (simp; done) | (simp; omega)) | (with_reducible apply Blk.set4) | (with_reducible apply Blk.set3) | (with_reducible apply Blk.set2) | ((with_reducible refine Blk.put ?_ ?_); · first | omega | (simp; omega)) | (with_reducible refine Blk.old ?_) | (with_reducible refine Blk.drew ?_) | (with_reducible refine Blk.drewN ?_) | ((with_reducible refine Blk.below hb ?_ ?_); · first | omega | (simp; done) | (simp; omega))))
        have kw3 : Below w.heap.size w w3 := by have kk := HK.out.2; exact (by repeat (first | (with_reducible exact Below.refl _ _) | (with_reducible assumption) | (with_reducible refine Below.drew ?_) | (with_reducible refine Below.drewN ?_) | ((with_reducible refine Below.al ?_ ?_); · first | omega | (simp; done) | (simp; omega)) | ((with_reducible refine Below.sc ?_ ?_); · first | omega | (simp; done) | (simp; omega)) | ((with_reducible refine Below.thru hb ?_ ?_); · first | omega | (simp; done) | (simp; omega))))
        have sw3 := kw3.size
        clear hb
        cases hl : letB ws[k] with
        | false =>
          have HF := Lib.hid (HN.out hl)
          clear hl
          go_wp2
          go_roundw
          case rel => exact ⟨k + 1, by omega, by go_num, .inr ⟨rfl, HF⟩, (by repeat (first | (with_reducible assumption) | ((with_reducible refine Blk.new ?_); · first | omega | (simp; done) | (simp; omega)) | (with_reducible apply Blk.set4) | (with_reducible apply Blk.set3) | (with_reducible apply Blk.set2) | ((with_reducible refine Blk.put ?_ ?_); · first | omega | (simp; omega)) | (with_reducible refine Blk.old ?_) | (with_reducible refine Blk.drew ?_) | (with_reducible refine Blk.drewN ?_) | ((with_reducible refine Blk.below hb ?_ ?_); · first | omega | (simp; done) | (simp; omega)))), (by repeat (first | (with_reducible exact Below.refl _ _) | (with_reducible assumption) | (with_reducible refine Below.drew ?_) | (with_reducible refine Below.drewN ?_) | ((with_reducible refine Below.al ?_ ?_); · first | omega | (simp; done) | (simp; omega)) | ((with_reducible refine Below.sc ?_ ?_); · first | omega | (simp; done) | (simp; omega)) | ((with_reducible refine Below.thru hb ?_ ?_); · first | omega | (simp; done) | (simp; omega))))⟩
          case measure => simp [intOf]; omega
        | true =>
          have HF := Lib.hid (HS.out hl)
          clear hl
          go_wp2
          go_roundw
          case rel => exact ⟨k + 1, by omega, by go_num, .inl ⟨rfl, HF⟩, (by repeat (first | (with_reducible assumption) | ((with_reducible refine Blk.new ?_); · first | omega | (simp; done) | (simp; omega)) | (with_reducible apply Blk.set4) | (with_reducible apply Blk.set3) | (with_reducible apply Blk.set2) | ((with_reducible refine Blk.put ?_ ?_); · first | omega | (simp; omega)) | (with_reducible refine Blk.old ?_) | (with_reducible refine Blk.drew ?_) | (with_reducible refine Blk.drewN ?_) | ((with_reducible refine Blk.below hb ?_ ?_); · first | omega | (simp; done) | (simp; omega)))), (by repeat (first | (with_reducible exact Below.refl _ _) | (with_reducible assumption) | (with_reducible refine Below.drew ?_) | (with_reducible refine Below.drewN ?_) | ((with_reducible refine Below.al ?_ ?_); · first | omega | (simp; done) | (simp; omega)) | ((with_reducible refine Below.sc ?_ ?_); · first | omega | (simp; done) | (simp; omega)) | ((with_reducible refine Below.thru hb ?_ ?_); · first | omega | (simp; done) | (simp; omega))))⟩
          case measure => simp [intOf]; omega
      · obtain rfl : k = ws.size := by omega
        have HF := Lib.hid (HW2.out (by rw [wordB_all hwt.out]; exact decide_eq_true (by omega)))
        go_wp2
        refine forget (fun W_ => Below w.heap.size w W_ ∧ Blk W_ (w.heap.size) 27 (#[.slice sa S.length sc, .slice ta T.length tc])) ⟨(by repeat (first | (with_reducible exact Below.refl _ _) | (with_reducible assumption) | (with_reducible refine Below.drew ?_) | (with_reducible refine Below.drewN ?_) | ((with_reducible refine Below.al ?_ ?_); · first | omega | (simp; done) | (simp; omega)) | ((with_reducible refine Below.sc ?_ ?_); · first | omega | (simp; done) | (simp; omega)) | ((with_reducible refine Below.thru hb ?_ ?_); · first | omega | (simp; done) | (simp; omega)))), (by repeat (first | (with_reducible assumption) | ((with_reducible refine Blk.new ?_); · first | omega | (simp; done) | (simp; omega)) | (with_reducible apply Blk.set4) | (with_reducible apply Blk.set3) | (with_reducible apply Blk.set2) | ((with_reducible refine Blk.put ?_ ?_); · first | omega | (simp; omega)) | (with_reducible refine Blk.old ?_) | (with_reducible refine Blk.drew ?_) | (with_reducible refine Blk.drewN ?_) | ((with_reducible refine Blk.below hb ?_ ?_); · first | omega | (simp; done) | (simp; omega))))⟩ ?_
        rintro w5 ⟨kw5, B5⟩
        have sw5 := kw5.size
        have lB5 := B5.lt
        clear B kwr
        go_loopw [2, 12] (fun x i wr => ∃ k : Nat, k ≤ ws.size ∧ i = .int .i64 k ∧ x = .int .i64 (lpAll S T S.length ws p k : Nat) ∧ Blk wr w.heap.size 27 #[.slice sa S.length sc, .slice ta T.length tc] ∧ Below w.heap.size w wr) (fun _ i _ => ws.size - (intOf i).toNat)
        case atStart => exact ⟨0, Nat.zero_le _, rfl, rfl, (by repeat (first | (with_reducible assumption) | ((with_reducible refine Blk.new ?_); · first | omega | (simp; done) | (simp; omega)) | (with_reducible apply Blk.set4) | (with_reducible apply Blk.set3) | (with_reducible apply Blk.set2) | ((with_reducible refine Blk.put ?_ ?_); · first | omega | (simp; omega)) | (with_reducible refine Blk.old ?_) | (with_reducible refine Blk.drew ?_) | (with_reducible refine Blk.drewN ?_) | ((with_reducible refine Blk.below hb ?_ ?_); · first | omega | (simp; done) | (simp; omega)))), (by repeat (first | (with_reducible exact Below.refl _ _) | (with_reducible assumption) | (with_reducible refine Below.drew ?_) | (with_reducible refine Below.drewN ?_) | ((with_reducible refine Below.al ?_ ?_); · first | omega | (simp; done) | (simp; omega)) | ((with_reducible refine Below.sc ?_ ?_); · first | omega | (simp; done) | (simp; omega)) | ((with_reducible refine Below.thru hb ?_ ?_); · first | omega | (simp; done) | (simp; omega))))⟩
        case round =>
          obtain ⟨k, hk, rfl, rfl, B, kwr⟩ := hrel
          have b0 := B.p2
          have lB := B.lt
          have swr := kwr.size
          by_cases hlt : k < ws.size
          · have j0 : (0 : Int) ≤ (k : Int) := by omega
            have j1 : (k : Int) < (ws.size : Int) := by omega
            have HX := Lib.hid (show lpAll S T S.length ws p (k + 1) = lp S T S.length ws[k].toNat (lpAll S T S.length ws p k) by show lp S T S.length ws[k]!.toNat _ = _; rw [getElem!_pos ws k hlt])
            have hx := lpAll_lt (s := ws) HP.out.2.1 HP.out.2.2.1 hpn k
            generalize lpAll S T S.length ws p k = x at *
            go_wp2_with fail
            go_region_held3 (fun w' => w'.cell? ⟨w.heap.size, 0, none⟩ = some (.slice sa S.length sc) ∧ w'.cell? ⟨w.heap.size, 1, none⟩ = some (.slice ta T.length tc)) (first | go_keep | exact B3.p2) (first
              | (go_at_call 93; refine (l10Letter_any _ _ S T S.length ws[k].toNat x _ (SlIn2.below HI.out (by repeat (first | (with_reducible exact Below.refl _ _) | (with_reducible assumption) | (with_reducible refine Below.drew ?_) | (with_reducible refine Below.drewN ?_) | ((with_reducible refine Below.al ?_ ?_); · first | omega | (simp; done) | (simp; omega)) | ((with_reducible refine Below.sc ?_ ?_); · first | omega | (simp; done) | (simp; omega)) | ((with_reducible refine Below.thru hb ?_ ?_); · first | omega | (simp; done) | (simp; omega))))) HP.out.2.1 HP.out.2.2.1 hx HP.out.1.2).mono ?_; rintro e w3 ⟨rfl, hb⟩; have B3 : Blk w3 w.heap.size 27 #[.slice sa S.length sc, .slice ta T.length tc] := (by repeat (first | (with_reducible assumption) | ((with_reducible refine Blk.new ?_); · first | omega | (simp; done) | (simp; omega)) | (with_reducible apply Blk.set4) | (with_reducible apply Blk.set3) | (with_reducible apply Blk.set2) | ((with_reducible refine Blk.put ?_ ?_); · first | omega | (simp; omega)) | (with_reducible refine Blk.old ?_) | (with_reducible refine Blk.drew ?_) | (with_reducible refine Blk.drewN ?_) | ((with_reducible refine Blk.below hb ?_ ?_); · first | omega | (simp; done) | (simp; omega)))); have kw3 : Below w.heap.size w w3 := (by repeat (first | (with_reducible exact Below.refl _ _) | (with_reducible assumption) | (with_reducible refine Below.drew ?_) | (with_reducible refine Below.drewN ?_) | ((with_reducible refine Below.al ?_ ?_); · first | omega | (simp; done) | (simp; omega)) | ((with_reducible refine Below.sc ?_ ?_); · first | omega | (simp; done) | (simp; omega)) | ((with_reducible refine Below.thru hb ?_ ?_); · first | omega | (simp; done) | (simp; omega)))); clear hb))
            go_wp2
            go_roundw
            case rel => exact ⟨k + 1, by omega, by go_num, by rw [HX.out], (by repeat (first | (with_reducible assumption) | ((with_reducible refine Blk.new ?_); · first | omega | (simp; done) | (simp; omega)) | (with_reducible apply Blk.set4) | (with_reducible apply Blk.set3) | (with_reducible apply Blk.set2) | ((with_reducible refine Blk.put ?_ ?_); · first | omega | (simp; omega)) | (with_reducible refine Blk.old ?_) | (with_reducible refine Blk.drew ?_) | (with_reducible refine Blk.drewN ?_) | ((with_reducible refine Blk.below hb ?_ ?_); · first | omega | (simp; done) | (simp; omega)))), (by repeat (first | (with_reducible exact Below.refl _ _) | (with_reducible assumption) | (with_reducible refine Below.drew ?_) | (with_reducible refine Below.drewN ?_) | ((with_reducible refine Below.al ?_ ?_); · first | omega | (simp; done) | (simp; omega)) | ((with_reducible refine Below.sc ?_ ?_); · first | omega | (simp; done) | (simp; omega)) | ((with_reducible refine Below.thru hb ?_ ?_); · first | omega | (simp; done) | (simp; omega))))⟩
            case measure => simp [intOf]; omega
          · obtain rfl : k = ws.size := by omega
            go_wp2
            go_ret2
            exact ⟨by rw [HF.out]; rfl, kwr⟩
    · have HF := Lib.hid (HW.out hwf.out)
      by_cases hlt : k < ws.size
      · have j1 : (k : Int) < (ws.size : Int) := by omega
        go_wp2
        go_ret2
        exact ⟨by rw [HF.out]; rfl, kwr⟩
      · have j1 : ¬ (k : Int) < (ws.size : Int) := by omega
        go_wp2
        go_ret2
        exact ⟨by rw [HF.out]; rfl, kwr⟩

end Go.Proofs.Ytamkbgodenkboaa
