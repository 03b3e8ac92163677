/- FormFrom: both. -/
import Derived.Test.YtamkbgodenkboaaForm2
namespace Go.Proofs.Ytamkbgodenkboaa
open Go.RowKit

def ptB (i : Int) (n : Nat) : Bool := inB i 0 ((n : Int) - 1)
def formCode (S T : List Int) (i : Int) : Int := if isA S T then (if ptB i S.length then 0 else 2) else 1
def formAct (S T : List Int) (i : Int) : Act := if isA S T then (if ptB i S.length then formOf S T i.toNat S.length else ⟨[], []⟩) else ⟨[], []⟩
theorem formAct_len (S T : List Int) (i : Int) : (formAct S T i).S.length ≤ 1048576 ∧ (formAct S T i).T.length ≤ 1048576 := by
  unfold formAct
  split
  · rename_i h
    have := (isA_spec h).1
    split
    · simp only [formOf, rnL_len]; omega
    · simp
  · simp

set_option maxHeartbeats 1000000 in
theorem isPoint_any (s t : Value) (S T : List Int) (i : Int) (w : World) (h : SlIn w .i64 s S ∧ SlIn w .i64 t T) (hl : S.length ≤ 1048576) :
    Calls Try.prog 90 #[.agg #[s, t], .int .i64 i] w fun e w' => e = .returned (.bool (ptB i S.length)) ∧ Below w.heap.size w w' := by
  obtain ⟨sa, sc, hs, -⟩ := h.1.form
  subst hs
  clear h
  go_enter Try.func90, Try.ntmps90
  go_wp2_with (go_at_call 108; refine (within_any _ _ _ _).mono ?_; rintro e w' ⟨rfl, rfl⟩)
  go_ret
  exact ⟨ret_bool rfl, (by repeat (first | (with_reducible exact Below.refl _ _) | (with_reducible assumption) | (with_reducible refine Below.drew ?_) | (with_reducible refine Below.drewN ?_) | ((with_reducible refine Below.al ?_ ?_); · first | omega | (simp; done) | (simp; omega)) | ((with_reducible refine Below.sc ?_ ?_); · first | omega | (simp; done) | (simp; omega)) | ((with_reducible refine Below.thru hb ?_ ?_); · first | omega | (simp; done) | (simp; omega))))⟩

set_option maxHeartbeats 1000000 in
theorem l10Code_any (s t : Value) (S T : List Int) (i : Int) (w : World) (h : SlIn w .i64 s S ∧ SlIn w .i64 t T) (hl : S.length ≤ 1048576 ∧ T.length ≤ 1048576) :
    Calls Try.prog 89 #[.agg #[s, t], .int .i64 i] w fun e w' => e = .returned (.int .i64 (formCode S T i)) ∧ Below w.heap.size w w' := by
  have HI := Lib.hid h
  have HL := Lib.hid hl
  obtain ⟨sa, sc, hs, -⟩ := h.1.form
  obtain ⟨ta, tc, ht, -⟩ := h.2.form
  subst hs ht
  clear h hl
  cases hq : isA S T with
  | false =>
    have HF := Lib.hid (show formCode S T i = 1 by unfold formCode; rw [hq]; rfl)
    go_enter Try.func89, Try.ntmps89
    go_wp2_with fail
    refine (l10Is_any _ _ S T _ (SlIn2.below HI.out (by repeat (first | (with_reducible exact Below.refl _ _) | (with_reducible assumption) | (with_reducible refine Below.drew ?_) | (with_reducible refine Below.drewN ?_) | ((with_reducible refine Below.al ?_ ?_); · first | omega | (simp; done) | (simp; omega)) | ((with_reducible refine Below.sc ?_ ?_); · first | omega | (simp; done) | (simp; omega)) | ((with_reducible refine Below.thru hb ?_ ?_); · first | omega | (simp; done) | (simp; omega))))) HL.out).mono ?_
    rw [hq]
    clear hq
    rintro e w1 ⟨rfl, hb⟩
    have kw1 : Below w.heap.size w w1 := (by repeat (first | (with_reducible exact Below.refl _ _) | (with_reducible assumption) | (with_reducible refine Below.drew ?_) | (with_reducible refine Below.drewN ?_) | ((with_reducible refine Below.al ?_ ?_); · first | omega | (simp; done) | (simp; omega)) | ((with_reducible refine Below.sc ?_ ?_); · first | omega | (simp; done) | (simp; omega)) | ((with_reducible refine Below.thru hb ?_ ?_); · first | omega | (simp; done) | (simp; omega))))
    clear hb
    go_wp2
    go_ret
    exact ⟨ret_int HF.out.symm, kw1⟩
  | true =>
    have h72 := (isA_spec hq).1
    cases hp : ptB i S.length with
    | false =>
      have HF := Lib.hid (show formCode S T i = 2 by unfold formCode; rw [hq, hp]; rfl)
      unfold ptB at hp
      go_enter Try.func89, Try.ntmps89
      go_wp2_with fail
      refine (l10Is_any _ _ S T _ (SlIn2.below HI.out (by repeat (first | (with_reducible exact Below.refl _ _) | (with_reducible assumption) | (with_reducible refine Below.drew ?_) | (with_reducible refine Below.drewN ?_) | ((with_reducible refine Below.al ?_ ?_); · first | omega | (simp; done) | (simp; omega)) | ((with_reducible refine Below.sc ?_ ?_); · first | omega | (simp; done) | (simp; omega)) | ((with_reducible refine Below.thru hb ?_ ?_); · first | omega | (simp; done) | (simp; omega))))) HL.out).mono ?_
      rw [hq]
      clear hq
      rintro e w1 ⟨rfl, hb⟩
      have B1 : Blk w1 w.heap.size 27 #[.slice sa S.length sc, .slice ta T.length tc] := (by repeat (first | (with_reducible assumption) | ((with_reducible refine Blk.new ?_); · first | omega | (simp; done) | (simp; omega)) | (with_reducible apply Blk.set4) | (with_reducible apply Blk.set3) | (with_reducible apply Blk.set2) | ((with_reducible refine Blk.put ?_ ?_); · first | omega | (simp; omega)) | (with_reducible refine Blk.old ?_) | (with_reducible refine Blk.drew ?_) | (with_reducible refine Blk.drewN ?_) | ((with_reducible refine Blk.below hb ?_ ?_); · first | omega | (simp; done) | (simp; omega))))
      have kw1 : Below w.heap.size w w1 := (by repeat (first | (with_reducible exact Below.refl _ _) | (with_reducible assumption) | (with_reducible refine Below.drew ?_) | (with_reducible refine Below.drewN ?_) | ((with_reducible refine Below.al ?_ ?_); · first | omega | (simp; done) | (simp; omega)) | ((with_reducible refine Below.sc ?_ ?_); · first | omega | (simp; done) | (simp; omega)) | ((with_reducible refine Below.thru hb ?_ ?_); · first | omega | (simp; done) | (simp; omega))))
      have b1 := B1.p2
      clear hb
      go_wp2_with (go_at_call 83; refine (l01In_any _ _ _ _).mono ?_; rintro e w' ⟨rfl, rfl⟩)
      go_ret
      exact ⟨ret_int HF.out.symm, kw1⟩
    | true =>
      have HF := Lib.hid (show formCode S T i = 0 by unfold formCode; rw [hq, hp]; rfl)
      unfold ptB at hp
      go_enter Try.func89, Try.ntmps89
      go_wp2_with fail
      refine (l10Is_any _ _ S T _ (SlIn2.below HI.out (by repeat (first | (with_reducible exact Below.refl _ _) | (with_reducible assumption) | (with_reducible refine Below.drew ?_) | (with_reducible refine Below.drewN ?_) | ((with_reducible refine Below.al ?_ ?_); · first | omega | (simp; done) | (simp; omega)) | ((with_reducible refine Below.sc ?_ ?_); · first | omega | (simp; done) | (simp; omega)) | ((with_reducible refine Below.thru hb ?_ ?_); · first | omega | (simp; done) | (simp; omega))))) HL.out).mono ?_
      rw [hq]
      clear hq
      rintro e w1 ⟨rfl, hb⟩
      have B1 : Blk w1 w.heap.size 27 #[.slice sa S.length sc, .slice ta T.length tc] := (by repeat (first | (with_reducible assumption) | ((with_reducible refine Blk.new ?_); · first | omega | (simp; done) | (simp; omega)) | (with_reducible apply Blk.set4) | (with_reducible apply Blk.set3) | (with_reducible apply Blk.set2) | ((with_reducible refine Blk.put ?_ ?_); · first | omega | (simp; omega)) | (with_reducible refine Blk.old ?_) | (with_reducible refine Blk.drew ?_) | (with_reducible refine Blk.drewN ?_) | ((with_reducible refine Blk.below hb ?_ ?_); · first | omega | (simp; done) | (simp; omega))))
      have kw1 : Below w.heap.size w w1 := (by repeat (first | (with_reducible exact Below.refl _ _) | (with_reducible assumption) | (with_reducible refine Below.drew ?_) | (with_reducible refine Below.drewN ?_) | ((with_reducible refine Below.al ?_ ?_); · first | omega | (simp; done) | (simp; omega)) | ((with_reducible refine Below.sc ?_ ?_); · first | omega | (simp; done) | (simp; omega)) | ((with_reducible refine Below.thru hb ?_ ?_); · first | omega | (simp; done) | (simp; omega))))
      have b1 := B1.p2
      clear hb
      go_wp2_with (go_at_call 83; refine (l01In_any _ _ _ _).mono ?_; rintro e w' ⟨rfl, rfl⟩)
      go_ret
      exact ⟨ret_int HF.out.symm, kw1⟩

set_option maxHeartbeats 2000000 in
theorem FormFrom_R (s t : Value) (S T : List Int) (i : Int) (X Y : List Int) (c : Int) (w : World) (hR : formAct S T i = ⟨X, Y⟩) (hC : formCode S T i = c) (h : SlIn w .i64 s S ∧ SlIn w .i64 t T) (hl : S.length ≤ 1048576 ∧ T.length ≤ 1048576) :
    Calls Try.prog 37 #[.agg #[s, t], .int .i64 i] w (GivesAct X Y c w) := by
  have HI := Lib.hid h
  have HL := Lib.hid hl
  obtain ⟨sa, sc, hs, -⟩ := h.1.form
  obtain ⟨ta, tc, ht, -⟩ := h.2.form
  subst hs ht
  clear h hl
  cases hq : isA S T with
  | false =>
    have HF := Lib.hid (show formCode S T i = 1 ∧ formAct S T i = ⟨[], []⟩ by unfold formCode formAct; rw [hq]; exact ⟨rfl, rfl⟩)
    rw [HF.out.1] at hC
    rw [HF.out.2] at hR
    cases hR
    subst hC
    go_enter Try.func37, Try.ntmps37
    go_wp2_with fail
    refine (IsAction_any _ _ S T _ (SlIn2.below HI.out (by repeat (first | (with_reducible exact Below.refl _ _) | (with_reducible assumption) | (with_reducible refine Below.drew ?_) | (with_reducible refine Below.drewN ?_) | ((with_reducible refine Below.al ?_ ?_); · first | omega | (simp; done) | (simp; omega)) | ((with_reducible refine Below.sc ?_ ?_); · first | omega | (simp; done) | (simp; omega)) | ((with_reducible refine Below.thru hb ?_ ?_); · first | omega | (simp; done) | (simp; omega))))) HL.out).mono ?_
    rw [hq]
    clear hq
    rintro e w1 ⟨rfl, hb⟩
    have B1 : Blk w1 (w.heap.size + 1) 27 #[.slice none 0 0, .slice none 0 0] := (by repeat (first | (with_reducible assumption) | ((with_reducible refine Blk.new ?_); · first | omega | (simp; done) | (simp; omega)) | (with_reducible apply Blk.set4) | (with_reducible apply Blk.set3) | (with_reducible apply Blk.set2) | ((with_reducible refine Blk.put ?_ ?_); · first | omega | (simp; omega)) | (with_reducible refine Blk.old ?_) | (with_reducible refine Blk.drew ?_) | (with_reducible refine Blk.drewN ?_) | ((with_reducible refine Blk.below hb ?_ ?_); · first | omega | (simp; done) | (simp; omega))))
    have kw1 : Below w.heap.size w w1 := (by repeat (first | (with_reducible exact Below.refl _ _) | (with_reducible assumption) | (with_reducible refine Below.drew ?_) | (with_reducible refine Below.drewN ?_) | ((with_reducible refine Below.al ?_ ?_); · first | omega | (simp; done) | (simp; omega)) | ((with_reducible refine Below.sc ?_ ?_); · first | omega | (simp; done) | (simp; omega)) | ((with_reducible refine Below.thru hb ?_ ?_); · first | omega | (simp; done) | (simp; omega))))
    have b1 := B1.p2
    have f0 := B1.free 0
    have f1 := B1.free 1
    have lB1 := B1.lt
    clear hb
    go_wp2
    refine ret_at (v := .tuple #[.agg #[.slice none 0 0, .slice none 0 0], .int .i64 1]) (fun w' => Blk w' (w.heap.size + 1) 27 (#[.slice none 0 0, .slice none 0 0])) (by repeat (first | (with_reducible assumption) | ((with_reducible refine Blk.new ?_); · first | omega | (simp; done) | (simp; omega)) | (with_reducible apply Blk.set4) | (with_reducible apply Blk.set3) | (with_reducible apply Blk.set2) | ((with_reducible refine Blk.put ?_ ?_); · first | omega | (simp; omega)) | (with_reducible refine Blk.old ?_) | (with_reducible refine Blk.drew ?_) | (with_reducible refine Blk.drewN ?_) | ((with_reducible refine Blk.below hb ?_ ?_); · first | omega | (simp; done) | (simp; omega)))) (fun w' hB => by have q := hB.p2; simp [results, Try.results37, go_sem, q]) rfl ?_
    exact ⟨_, _, rfl, OwnA.nil _ _, (by repeat (first | (with_reducible exact Below.refl _ _) | (with_reducible assumption) | (with_reducible refine Below.drew ?_) | (with_reducible refine Below.drewN ?_) | ((with_reducible refine Below.al ?_ ?_); · first | omega | (simp; done) | (simp; omega)) | ((with_reducible refine Below.sc ?_ ?_); · first | omega | (simp; done) | (simp; omega)) | ((with_reducible refine Below.thru hb ?_ ?_); · first | omega | (simp; done) | (simp; omega))))⟩
  | true =>
    have HP := Lib.hid (isA_spec hq)
    have h72 := HP.out.1
    cases hp : ptB i S.length with
    | false =>
      have HF := Lib.hid (show formCode S T i = 2 ∧ formAct S T i = ⟨[], []⟩ by unfold formCode formAct; rw [hq, hp]; exact ⟨rfl, rfl⟩)
      rw [HF.out.1] at hC
      rw [HF.out.2] at hR
      cases hR
      subst hC
      go_enter Try.func37, Try.ntmps37
      go_wp2_with fail
      refine (IsAction_any _ _ S T _ (SlIn2.below HI.out (by repeat (first | (with_reducible exact Below.refl _ _) | (with_reducible assumption) | (with_reducible refine Below.drew ?_) | (with_reducible refine Below.drewN ?_) | ((with_reducible refine Below.al ?_ ?_); · first | omega | (simp; done) | (simp; omega)) | ((with_reducible refine Below.sc ?_ ?_); · first | omega | (simp; done) | (simp; omega)) | ((with_reducible refine Below.thru hb ?_ ?_); · first | omega | (simp; done) | (simp; omega))))) HL.out).mono ?_
      rw [hq]
      clear hq
      rintro e w1 ⟨rfl, hb⟩
      have B0 : Blk w1 w.heap.size 27 #[.slice sa S.length sc, .slice ta T.length tc] := (by repeat (first | (with_reducible assumption) | ((with_reducible refine Blk.new ?_); · first | omega | (simp; done) | (simp; omega)) | (with_reducible apply Blk.set4) | (with_reducible apply Blk.set3) | (with_reducible apply Blk.set2) | ((with_reducible refine Blk.put ?_ ?_); · first | omega | (simp; omega)) | (with_reducible refine Blk.old ?_) | (with_reducible refine Blk.drew ?_) | (with_reducible refine Blk.drewN ?_) | ((with_reducible refine Blk.below hb ?_ ?_); · first | omega | (simp; done) | (simp; omega))))
      have Bc : Blk w1 (w.heap.size + 1) 27 #[.slice none 0 0, .slice none 0 0] := (by repeat (first | (with_reducible assumption) | ((with_reducible refine Blk.new ?_); · first | omega | (simp; done) | (simp; omega)) | (with_reducible apply Blk.set4) | (with_reducible apply Blk.set3) | (with_reducible apply Blk.set2) | ((with_reducible refine Blk.put ?_ ?_); · first | omega | (simp; omega)) | (with_reducible refine Blk.old ?_) | (with_reducible refine Blk.drew ?_) | (with_reducible refine Blk.drewN ?_) | ((with_reducible refine Blk.below hb ?_ ?_); · first | omega | (simp; done) | (simp; omega))))
      have kw1 : Below w.heap.size w w1 := (by repeat (first | (with_reducible exact Below.refl _ _) | (with_reducible assumption) | (with_reducible refine Below.drew ?_) | (with_reducible refine Below.drewN ?_) | ((with_reducible refine Below.al ?_ ?_); · first | omega | (simp; done) | (simp; omega)) | ((with_reducible refine Below.sc ?_ ?_); · first | omega | (simp; done) | (simp; omega)) | ((with_reducible refine Below.thru hb ?_ ?_); · first | omega | (simp; done) | (simp; omega))))
      have sw1 := kw1.size
      have b0 := B0.p2
      have lBc := Bc.lt
      have lB0 := B0.lt
      clear hb
      go_wp2_with fail
      refine (isPoint_any _ _ S T i _ (SlIn2.below HI.out (by repeat (first | (with_reducible exact Below.refl _ _) | (with_reducible assumption) | (with_reducible refine Below.drew ?_) | (with_reducible refine Below.drewN ?_) | ((with_reducible refine Below.al ?_ ?_); · first | omega | (simp; done) | (simp; omega)) | ((with_reducible refine Below.sc ?_ ?_); · first | omega | (simp; done) | (simp; omega)) | ((with_reducible refine Below.thru hb ?_ ?_); · first | omega | (simp; done) | (simp; omega))))) HL.out.1).mono ?_
      rw [hp]
      clear hp
      rintro e w2 ⟨rfl, hb⟩
      have B0 : Blk w2 w.heap.size 27 #[.slice sa S.length sc, .slice ta T.length tc] := (by repeat (first | (with_reducible assumption) | ((with_reducible refine Blk.new ?_); · first | omega | (simp; done) | (simp; omega)) | (with_reducible apply Blk.set4) | (with_reducible apply Blk.set3) | (with_reducible apply Blk.set2) | ((with_reducible refine Blk.put ?_ ?_); · first | omega | (simp; omega)) | (with_reducible refine Blk.old ?_) | (with_reducible refine Blk.drew ?_) | (with_reducible refine Blk.drewN ?_) | ((with_reducible refine Blk.below hb ?_ ?_); · first | omega | (simp; done) | (simp; omega))))
      have B2 : Blk w2 (w.heap.size + 1) 27 #[.slice none 0 0, .slice none 0 0] := (by repeat (first | (with_reducible assumption) | ((with_reducible refine Blk.new ?_); · first | omega | (simp; done) | (simp; omega)) | (with_reducible apply Blk.set4) | (with_reducible apply Blk.set3) | (with_reducible apply Blk.set2) | ((with_reducible refine Blk.put ?_ ?_); · first | omega | (simp; omega)) | (with_reducible refine Blk.old ?_) | (with_reducible refine Blk.drew ?_) | (with_reducible refine Blk.drewN ?_) | ((with_reducible refine Blk.below hb ?_ ?_); · first | omega | (simp; done) | (simp; omega))))
      have kw2 : Below w.heap.size w w2 := (by repeat (first | (with_reducible exact Below.refl _ _) | (with_reducible assumption) | (with_reducible refine Below.drew ?_) | (with_reducible refine Below.drewN ?_) | ((with_reducible refine Below.al ?_ ?_); · first | omega | (simp; done) | (simp; omega)) | ((with_reducible refine Below.sc ?_ ?_); · first | omega | (simp; done) | (simp; omega)) | ((with_reducible refine Below.thru hb ?_ ?_); · first | omega | (simp; done) | (simp; omega))))
      have sw2 := kw2.size
      have b0 := B0.p2
      have b2 := B2.p2
      have f0 := B2.free 0
      have f1 := B2.free 1
      have lB2 := B2.lt
      clear hb kw1
      go_wp2
      refine ret_at (v := .tuple #[.agg #[.slice none 0 0, .slice none 0 0], .int .i64 2]) (fun w' => Blk w' (w.heap.size + 1) 27 (#[.slice none 0 0, .slice none 0 0])) (by repeat (first | (with_reducible assumption) | ((with_reducible refine Blk.new ?_); · first | omega | (simp; done) | (simp; omega)) | (with_reducible apply Blk.set4) | (with_reducible apply Blk.set3) | (with_reducible apply Blk.set2) | ((with_reducible refine Blk.put ?_ ?_); · first | omega | (simp; omega)) | (with_reducible refine Blk.old ?_) | (with_reducible refine Blk.drew ?_) | (with_reducible refine Blk.drewN ?_) | ((with_reducible refine Blk.below hb ?_ ?_); · first | omega | (simp; done) | (simp; omega)))) (fun w' hB => by have q := hB.p2; simp [results, Try.results37, go_sem, q]) rfl ?_
      exact ⟨_, _, rfl, OwnA.nil _ _, (by repeat (first | (with_reducible exact Below.refl _ _) | (with_reducible assumption) | (with_reducible refine Below.drew ?_) | (with_reducible refine Below.drewN ?_) | ((with_reducible refine Below.al ?_ ?_); · first | omega | (simp; done) | (simp; omega)) | ((with_reducible refine Below.sc ?_ ?_); · first | omega | (simp; done) | (simp; omega)) | ((with_reducible refine Below.thru hb ?_ ?_); · first | omega | (simp; done) | (simp; omega))))⟩
    | true =>
      obtain ⟨k, hk⟩ : ∃ k : Nat, i = (k : Int) := ⟨i.toNat, by unfold ptB at hp; have := inB_true hp; omega⟩
      have HKN := Lib.hid (show k < S.length by unfold ptB at hp; have := inB_true hp; omega)
      have HF := Lib.hid (show formCode S T i = 0 ∧ formAct S T i = formOf S T k S.length by unfold formCode formAct; rw [hq, hp, hk]; exact ⟨rfl, rfl⟩)
      have HR := Lib.hid (HF.out.2.symm.trans hR)
      rw [HF.out.1] at hC
      subst hC
      clear hR
      replace hk := Lib.hid hk
      go_enter Try.func37, Try.ntmps37
      go_wp2_with fail
      refine (IsAction_any _ _ S T _ (SlIn2.below HI.out (by repeat (first | (with_reducible exact Below.refl _ _) | (with_reducible assumption) | (with_reducible refine Below.drew ?_) | (with_reducible refine Below.drewN ?_) | ((with_reducible refine Below.al ?_ ?_); · first | omega | (simp; done) | (simp; omega)) | ((with_reducible refine Below.sc ?_ ?_); · first | omega | (simp; done) | (simp; omega)) | ((with_reducible refine Below.thru hb ?_ ?_); · first | omega | (simp; done) | (simp; omega))))) HL.out).mono ?_
      rw [hq]
      clear hq
      rintro e w1 ⟨rfl, hb⟩
      have B0 : Blk w1 w.heap.size 27 #[.slice sa S.length sc, .slice ta T.length tc] := (by repeat (first | (with_reducible assumption) | ((with_reducible refine Blk.new ?_); · first | omega | (simp; done) | (simp; omega)) | (with_reducible apply Blk.set4) | (with_reducible apply Blk.set3) | (with_reducible apply Blk.set2) | ((with_reducible refine Blk.put ?_ ?_); · first | omega | (simp; omega)) | (with_reducible refine Blk.old ?_) | (with_reducible refine Blk.drew ?_) | (with_reducible refine Blk.drewN ?_) | ((with_reducible refine Blk.below hb ?_ ?_); · first | omega | (simp; done) | (simp; omega))))
      have Bc : Blk w1 (w.heap.size + 1) 27 #[.slice none 0 0, .slice none 0 0] := (by repeat (first | (with_reducible assumption) | ((with_reducible refine Blk.new ?_); · first | omega | (simp; done) | (simp; omega)) | (with_reducible apply Blk.set4) | (with_reducible apply Blk.set3) | (with_reducible apply Blk.set2) | ((with_reducible refine Blk.put ?_ ?_); · first | omega | (simp; omega)) | (with_reducible refine Blk.old ?_) | (with_reducible refine Blk.drew ?_) | (with_reducible refine Blk.drewN ?_) | ((with_reducible refine Blk.below hb ?_ ?_); · first | omega | (simp; done) | (simp; omega))))
      have kw1 : Below w.heap.size w w1 := (by repeat (first | (with_reducible exact Below.refl _ _) | (with_reducible assumption) | (with_reducible refine Below.drew ?_) | (with_reducible refine Below.drewN ?_) | ((with_reducible refine Below.al ?_ ?_); · first | omega | (simp; done) | (simp; omega)) | ((with_reducible refine Below.sc ?_ ?_); · first | omega | (simp; done) | (simp; omega)) | ((with_reducible refine Below.thru hb ?_ ?_); · first | omega | (simp; done) | (simp; omega))))
      have sw1 := kw1.size
      have b0 := B0.p2
      have lBc := Bc.lt
      have lB0 := B0.lt
      clear hb
      go_wp2_with fail
      refine (isPoint_any _ _ S T i _ (SlIn2.below HI.out (by repeat (first | (with_reducible exact Below.refl _ _) | (with_reducible assumption) | (with_reducible refine Below.drew ?_) | (with_reducible refine Below.drewN ?_) | ((with_reducible refine Below.al ?_ ?_); · first | omega | (simp; done) | (simp; omega)) | ((with_reducible refine Below.sc ?_ ?_); · first | omega | (simp; done) | (simp; omega)) | ((with_reducible refine Below.thru hb ?_ ?_); · first | omega | (simp; done) | (simp; omega))))) HL.out.1).mono ?_
      rw [hp]
      clear hp
      rintro e w2 ⟨rfl, hb⟩
      have B0 : Blk w2 w.heap.size 27 #[.slice sa S.length sc, .slice ta T.length tc] := (by repeat (first | (with_reducible assumption) | ((with_reducible refine Blk.new ?_); · first | omega | (simp; done) | (simp; omega)) | (with_reducible apply Blk.set4) | (with_reducible apply Blk.set3) | (with_reducible apply Blk.set2) | ((with_reducible refine Blk.put ?_ ?_); · first | omega | (simp; omega)) | (with_reducible refine Blk.old ?_) | (with_reducible refine Blk.drew ?_) | (with_reducible refine Blk.drewN ?_) | ((with_reducible refine Blk.below hb ?_ ?_); · first | omega | (simp; done) | (simp; omega))))
      have B2 : Blk w2 (w.heap.size + 1) 27 #[.slice none 0 0, .slice none 0 0] := (by repeat (first | (with_reducible assumption) | ((with_reducible refine Blk.new ?_); · first | omega | (simp; done) | (simp; omega)) | (with_reducible apply Blk.set4) | (with_reducible apply Blk.set3) | (with_reducible apply Blk.set2) | ((with_reducible refine Blk.put ?_ ?_); · first | omega | (simp; omega)) | (with_reducible refine Blk.old ?_) | (with_reducible refine Blk.drew ?_) | (with_reducible refine Blk.drewN ?_) | ((with_reducible refine Blk.below hb ?_ ?_); · first | omega | (simp; done) | (simp; omega))))
      have kw2 : Below w.heap.size w w2 := (by repeat (first | (with_reducible exact Below.refl _ _) | (with_reducible assumption) | (with_reducible refine Below.drew ?_) | (with_reducible refine Below.drewN ?_) | ((with_reducible refine Below.al ?_ ?_); · first | omega | (simp; done) | (simp; omega)) | ((with_reducible refine Below.sc ?_ ?_); · first | omega | (simp; done) | (simp; omega)) | ((with_reducible refine Below.thru hb ?_ ?_); · first | omega | (simp; done) | (simp; omega))))
      have sw2 := kw2.size
      have b0 := B0.p2
      have b2 := B2.p2
      have f0 := B2.free 0
      have f1 := B2.free 1
      have lB2 := B2.lt
      clear hb kw1
      obtain rfl := hk.out
      go_wp2_with fail
      refine (form_any _ _ S T S.length k _ (SlIn2.below HI.out (by repeat (first | (with_reducible exact Below.refl _ _) | (with_reducible assumption) | (with_reducible refine Below.drew ?_) | (with_reducible refine Below.drewN ?_) | ((with_reducible refine Below.al ?_ ?_); · first | omega | (simp; done) | (simp; omega)) | ((with_reducible refine Below.sc ?_ ?_); · first | omega | (simp; done) | (simp; omega)) | ((with_reducible refine Below.thru hb ?_ ?_); · first | omega | (simp; done) | (simp; omega))))) HP.out.2.1 HP.out.2.2.1 HKN.out h72.2).mono ?_
      rw [HR.out]
      rintro e w3 ⟨s', t', rfl, O, hb⟩
      obtain ⟨xa, xc, hx, -⟩ := O.1.slIn.form
      obtain ⟨ya, yc, hy, -⟩ := O.2.1.slIn.form
      subst hx hy
      have B4 : Blk w3 (w.heap.size + 1) 27 #[.slice none 0 0, .slice none 0 0] := (by repeat (first | (with_reducible assumption) | ((with_reducible refine Blk.new ?_); · first | omega | (simp; done) | (simp; omega)) | (with_reducible apply Blk.set4) | (with_reducible apply Blk.set3) | (with_reducible apply Blk.set2) | ((with_reducible refine Blk.put ?_ ?_); · first | omega | (simp; omega)) | (with_reducible refine Blk.old ?_) | (with_reducible refine Blk.drew ?_) | (with_reducible refine Blk.drewN ?_) | ((with_reducible refine Blk.below hb ?_ ?_); · first | omega | (simp; done) | (simp; omega))))
      have kw3 : Below w.heap.size w w3 := (by repeat (first | (with_reducible exact Below.refl _ _) | (with_reducible assumption) | (with_reducible refine Below.drew ?_) | (with_reducible refine Below.drewN ?_) | ((with_reducible refine Below.al ?_ ?_); · first | omega | (simp; done) | (simp; omega)) | ((with_reducible refine Below.sc ?_ ?_); · first | omega | (simp; done) | (simp; omega)) | ((with_reducible refine Below.thru hb ?_ ?_); · first | omega | (simp; done) | (simp; omega))))
      have b4 := B4.p2
      have g0 := B4.free 0
      have g1 := B4.free 1
      have lB4 := B4.lt
      have HO := Lib.hid O
      clear hb O
      go_wp2
      refine ret_at (v := .tuple #[.agg #[.slice xa X.length xc, .slice ya Y.length yc], .int .i64 0]) (fun w' => Blk w' (w.heap.size + 1) 27 (#[.slice xa X.length xc, .slice ya Y.length yc])) (by repeat (first | (with_reducible assumption) | ((with_reducible refine Blk.new ?_); · first | omega | (simp; done) | (simp; omega)) | (with_reducible apply Blk.set4) | (with_reducible apply Blk.set3) | (with_reducible apply Blk.set2) | ((with_reducible refine Blk.put ?_ ?_); · first | omega | (simp; omega)) | (with_reducible refine Blk.old ?_) | (with_reducible refine Blk.drew ?_) | (with_reducible refine Blk.drewN ?_) | ((with_reducible refine Blk.below hb ?_ ?_); · first | omega | (simp; done) | (simp; omega)))) (fun w' hB => by have q := hB.p2; simp [results, Try.results37, go_sem, q]) rfl ?_
      exact ⟨_, _, rfl, ((HO.out.put (by omega)).put (by omega)).mono (by omega), (by repeat (first | (with_reducible exact Below.refl _ _) | (with_reducible assumption) | (with_reducible refine Below.drew ?_) | (with_reducible refine Below.drewN ?_) | ((with_reducible refine Below.al ?_ ?_); · first | omega | (simp; done) | (simp; omega)) | ((with_reducible refine Below.sc ?_ ?_); · first | omega | (simp; done) | (simp; omega)) | ((with_reducible refine Below.thru hb ?_ ?_); · first | omega | (simp; done) | (simp; omega))))⟩

set_option maxHeartbeats 2000000 in
theorem specFormFrom_R (s t : Value) (S T : List Int) (i : Int) (X Y : List Int) (c : Int) (w : World) (hR : formAct S T i = ⟨X, Y⟩) (hC : formCode S T i = c) (h : SlIn w .i64 s S ∧ SlIn w .i64 t T) (hl : S.length ≤ 1048576 ∧ T.length ≤ 1048576) :
    Calls Try.prog 36 #[.agg #[s, t], .int .i64 i] w (GivesAct X Y c w) := by
  have HI := Lib.hid h
  have HL := Lib.hid hl
  obtain ⟨sa, sc, hs, -⟩ := h.1.form
  obtain ⟨ta, tc, ht, -⟩ := h.2.form
  subst hs ht
  clear h hl
  cases hq : isA S T with
  | false =>
    have HF := Lib.hid (show formCode S T i = 1 ∧ formAct S T i = ⟨[], []⟩ by unfold formCode formAct; rw [hq]; exact ⟨rfl, rfl⟩)
    rw [HF.out.1] at hC
    rw [HF.out.2] at hR
    cases hR
    subst hC
    go_enter Try.func36, Try.ntmps36
    go_wp2_with fail
    refine (l10Code_any _ _ S T i _ (SlIn2.below HI.out (by repeat (first | (with_reducible exact Below.refl _ _) | (with_reducible assumption) | (with_reducible refine Below.drew ?_) | (with_reducible refine Below.drewN ?_) | ((with_reducible refine Below.al ?_ ?_); · first | omega | (simp; done) | (simp; omega)) | ((with_reducible refine Below.sc ?_ ?_); · first | omega | (simp; done) | (simp; omega)) | ((with_reducible refine Below.thru hb ?_ ?_); · first | omega | (simp; done) | (simp; omega))))) HL.out).mono ?_
    rw [HF.out.1]
    clear hq
    rintro e w1 ⟨rfl, hb⟩
    have B1 : Blk w1 (w.heap.size + 1) 27 #[.slice none 0 0, .slice none 0 0] := (by repeat (first | (with_reducible assumption) | ((with_reducible refine Blk.new ?_); · first | omega | (simp; done) | (simp; omega)) | (with_reducible apply Blk.set4) | (with_reducible apply Blk.set3) | (with_reducible apply Blk.set2) | ((with_reducible refine Blk.put ?_ ?_); · first | omega | (simp; omega)) | (with_reducible refine Blk.old ?_) | (with_reducible refine Blk.drew ?_) | (with_reducible refine Blk.drewN ?_) | ((with_reducible refine Blk.below hb ?_ ?_); · first | omega | (simp; done) | (simp; omega))))
    have kw1 : Below w.heap.size w w1 := (by repeat (first | (with_reducible exact Below.refl _ _) | (with_reducible assumption) | (with_reducible refine Below.drew ?_) | (with_reducible refine Below.drewN ?_) | ((with_reducible refine Below.al ?_ ?_); · first | omega | (simp; done) | (simp; omega)) | ((with_reducible refine Below.sc ?_ ?_); · first | omega | (simp; done) | (simp; omega)) | ((with_reducible refine Below.thru hb ?_ ?_); · first | omega | (simp; done) | (simp; omega))))
    have b1 := B1.p2
    have f0 := B1.free 0
    have f1 := B1.free 1
    have lB1 := B1.lt
    clear hb
    go_wp2
    refine ret_at (v := .tuple #[.agg #[.slice none 0 0, .slice none 0 0], .int .i64 1]) (fun w' => Blk w' (w.heap.size + 1) 27 (#[.slice none 0 0, .slice none 0 0])) (by repeat (first | (with_reducible assumption) | ((with_reducible refine Blk.new ?_); · first | omega | (simp; done) | (simp; omega)) | (with_reducible apply Blk.set4) | (with_reducible apply Blk.set3) | (with_reducible apply Blk.set2) | ((with_reducible refine Blk.put ?_ ?_); · first | omega | (simp; omega)) | (with_reducible refine Blk.old ?_) | (with_reducible refine Blk.drew ?_) | (with_reducible refine Blk.drewN ?_) | ((with_reducible refine Blk.below hb ?_ ?_); · first | omega | (simp; done) | (simp; omega)))) (fun w' hB => by have q := hB.p2; simp [results, Try.results36, go_sem, q]) rfl ?_
    exact ⟨_, _, rfl, OwnA.nil _ _, (by repeat (first | (with_reducible exact Below.refl _ _) | (with_reducible assumption) | (with_reducible refine Below.drew ?_) | (with_reducible refine Below.drewN ?_) | ((with_reducible refine Below.al ?_ ?_); · first | omega | (simp; done) | (simp; omega)) | ((with_reducible refine Below.sc ?_ ?_); · first | omega | (simp; done) | (simp; omega)) | ((with_reducible refine Below.thru hb ?_ ?_); · first | omega | (simp; done) | (simp; omega))))⟩
  | true =>
    have HP := Lib.hid (isA_spec hq)
    have h72 := HP.out.1
    cases hp : ptB i S.length with
    | false =>
      have HF := Lib.hid (show formCode S T i = 2 ∧ formAct S T i = ⟨[], []⟩ by unfold formCode formAct; rw [hq, hp]; exact ⟨rfl, rfl⟩)
      rw [HF.out.1] at hC
      rw [HF.out.2] at hR
      cases hR
      subst hC
      go_enter Try.func36, Try.ntmps36
      go_wp2_with fail
      refine (l10Code_any _ _ S T i _ (SlIn2.below HI.out (by repeat (first | (with_reducible exact Below.refl _ _) | (with_reducible assumption) | (with_reducible refine Below.drew ?_) | (with_reducible refine Below.drewN ?_) | ((with_reducible refine Below.al ?_ ?_); · first | omega | (simp; done) | (simp; omega)) | ((with_reducible refine Below.sc ?_ ?_); · first | omega | (simp; done) | (simp; omega)) | ((with_reducible refine Below.thru hb ?_ ?_); · first | omega | (simp; done) | (simp; omega))))) HL.out).mono ?_
      rw [HF.out.1]
      clear hq
      rintro e w1 ⟨rfl, hb⟩
      have B1 : Blk w1 (w.heap.size + 1) 27 #[.slice none 0 0, .slice none 0 0] := (by repeat (first | (with_reducible assumption) | ((with_reducible refine Blk.new ?_); · first | omega | (simp; done) | (simp; omega)) | (with_reducible apply Blk.set4) | (with_reducible apply Blk.set3) | (with_reducible apply Blk.set2) | ((with_reducible refine Blk.put ?_ ?_); · first | omega | (simp; omega)) | (with_reducible refine Blk.old ?_) | (with_reducible refine Blk.drew ?_) | (with_reducible refine Blk.drewN ?_) | ((with_reducible refine Blk.below hb ?_ ?_); · first | omega | (simp; done) | (simp; omega))))
      have kw1 : Below w.heap.size w w1 := (by repeat (first | (with_reducible exact Below.refl _ _) | (with_reducible assumption) | (with_reducible refine Below.drew ?_) | (with_reducible refine Below.drewN ?_) | ((with_reducible refine Below.al ?_ ?_); · first | omega | (simp; done) | (simp; omega)) | ((with_reducible refine Below.sc ?_ ?_); · first | omega | (simp; done) | (simp; omega)) | ((with_reducible refine Below.thru hb ?_ ?_); · first | omega | (simp; done) | (simp; omega))))
      have b1 := B1.p2
      have f0 := B1.free 0
      have f1 := B1.free 1
      have lB1 := B1.lt
      clear hb
      go_wp2
      refine ret_at (v := .tuple #[.agg #[.slice none 0 0, .slice none 0 0], .int .i64 2]) (fun w' => Blk w' (w.heap.size + 1) 27 (#[.slice none 0 0, .slice none 0 0])) (by repeat (first | (with_reducible assumption) | ((with_reducible refine Blk.new ?_); · first | omega | (simp; done) | (simp; omega)) | (with_reducible apply Blk.set4) | (with_reducible apply Blk.set3) | (with_reducible apply Blk.set2) | ((with_reducible refine Blk.put ?_ ?_); · first | omega | (simp; omega)) | (with_reducible refine Blk.old ?_) | (with_reducible refine Blk.drew ?_) | (with_reducible refine Blk.drewN ?_) | ((with_reducible refine Blk.below hb ?_ ?_); · first | omega | (simp; done) | (simp; omega)))) (fun w' hB => by have q := hB.p2; simp [results, Try.results36, go_sem, q]) rfl ?_
      exact ⟨_, _, rfl, OwnA.nil _ _, (by repeat (first | (with_reducible exact Below.refl _ _) | (with_reducible assumption) | (with_reducible refine Below.drew ?_) | (with_reducible refine Below.drewN ?_) | ((with_reducible refine Below.al ?_ ?_); · first | omega | (simp; done) | (simp; omega)) | ((with_reducible refine Below.sc ?_ ?_); · first | omega | (simp; done) | (simp; omega)) | ((with_reducible refine Below.thru hb ?_ ?_); · first | omega | (simp; done) | (simp; omega))))⟩
    | true =>
      obtain ⟨k, hk⟩ : ∃ k : Nat, i = (k : Int) := ⟨i.toNat, by unfold ptB at hp; have := inB_true hp; omega⟩
      have HKN := Lib.hid (show k < S.length by unfold ptB at hp; have := inB_true hp; omega)
      have HF := Lib.hid (show formCode S T i = 0 ∧ formAct S T i = formOf S T k S.length by unfold formCode formAct; rw [hq, hp, hk]; exact ⟨rfl, rfl⟩)
      have HR := Lib.hid (HF.out.2.symm.trans hR)
      rw [HF.out.1] at hC
      subst hC
      clear hR
      replace hk := Lib.hid hk
      go_enter Try.func36, Try.ntmps36
      go_wp2_with fail
      refine (l10Code_any _ _ S T i _ (SlIn2.below HI.out (by repeat (first | (with_reducible exact Below.refl _ _) | (with_reducible assumption) | (with_reducible refine Below.drew ?_) | (with_reducible refine Below.drewN ?_) | ((with_reducible refine Below.al ?_ ?_); · first | omega | (simp; done) | (simp; omega)) | ((with_reducible refine Below.sc ?_ ?_); · first | omega | (simp; done) | (simp; omega)) | ((with_reducible refine Below.thru hb ?_ ?_); · first | omega | (simp; done) | (simp; omega))))) HL.out).mono ?_
      rw [HF.out.1]
      clear hq
      rintro e w1 ⟨rfl, hb⟩
      have B0 : Blk w1 w.heap.size 27 #[.slice sa S.length sc, .slice ta T.length tc] := (by repeat (first | (with_reducible assumption) | ((with_reducible refine Blk.new ?_); · first | omega | (simp; done) | (simp; omega)) | (with_reducible apply Blk.set4) | (with_reducible apply Blk.set3) | (with_reducible apply Blk.set2) | ((with_reducible refine Blk.put ?_ ?_); · first | omega | (simp; omega)) | (with_reducible refine Blk.old ?_) | (with_reducible refine Blk.drew ?_) | (with_reducible refine Blk.drewN ?_) | ((with_reducible refine Blk.below hb ?_ ?_); · first | omega | (simp; done) | (simp; omega))))
      have Bc : Blk w1 (w.heap.size + 1) 27 #[.slice none 0 0, .slice none 0 0] := (by repeat (first | (with_reducible assumption) | ((with_reducible refine Blk.new ?_); · first | omega | (simp; done) | (simp; omega)) | (with_reducible apply Blk.set4) | (with_reducible apply Blk.set3) | (with_reducible apply Blk.set2) | ((with_reducible refine Blk.put ?_ ?_); · first | omega | (simp; omega)) | (with_reducible refine Blk.old ?_) | (with_reducible refine Blk.drew ?_) | (with_reducible refine Blk.drewN ?_) | ((with_reducible refine Blk.below hb ?_ ?_); · first | omega | (simp; done) | (simp; omega))))
      have kw1 : Below w.heap.size w w1 := (by repeat (first | (with_reducible exact Below.refl _ _) | (with_reducible assumption) | (with_reducible refine Below.drew ?_) | (with_reducible refine Below.drewN ?_) | ((with_reducible refine Below.al ?_ ?_); · first | omega | (simp; done) | (simp; omega)) | ((with_reducible refine Below.sc ?_ ?_); · first | omega | (simp; done) | (simp; omega)) | ((with_reducible refine Below.thru hb ?_ ?_); · first | omega | (simp; done) | (simp; omega))))
      have sw1 := kw1.size
      have b0 := B0.p2
      have lBc := Bc.lt
      have lB0 := B0.lt
      clear hb
      obtain rfl := hk.out
      go_wp2_with fail
      refine (l10Form_any _ _ S T S.length k _ (SlIn2.below HI.out (by repeat (first | (with_reducible exact Below.refl _ _) | (with_reducible assumption) | (with_reducible refine Below.drew ?_) | (with_reducible refine Below.drewN ?_) | ((with_reducible refine Below.al ?_ ?_); · first | omega | (simp; done) | (simp; omega)) | ((with_reducible refine Below.sc ?_ ?_); · first | omega | (simp; done) | (simp; omega)) | ((with_reducible refine Below.thru hb ?_ ?_); · first | omega | (simp; done) | (simp; omega))))) HP.out.2.1 HP.out.2.2.1 HKN.out h72.2).mono ?_
      rw [HR.out]
      rintro e w3 ⟨s', t', rfl, O, hb⟩
      obtain ⟨xa, xc, hx, -⟩ := O.1.slIn.form
      obtain ⟨ya, yc, hy, -⟩ := O.2.1.slIn.form
      subst hx hy
      have B4 : Blk w3 (w.heap.size + 1) 27 #[.slice none 0 0, .slice none 0 0] := (by repeat (first | (with_reducible assumption) | ((with_reducible refine Blk.new ?_); · first | omega | (simp; done) | (simp; omega)) | (with_reducible apply Blk.set4) | (with_reducible apply Blk.set3) | (with_reducible apply Blk.set2) | ((with_reducible refine Blk.put ?_ ?_); · first | omega | (simp; omega)) | (with_reducible refine Blk.old ?_) | (with_reducible refine Blk.drew ?_) | (with_reducible refine Blk.drewN ?_) | ((with_reducible refine Blk.below hb ?_ ?_); · first | omega | (simp; done) | (simp; omega))))
      have kw3 : Below w.heap.size w w3 := (by repeat (first | (with_reducible exact Below.refl _ _) | (with_reducible assumption) | (with_reducible refine Below.drew ?_) | (with_reducible refine Below.drewN ?_) | ((with_reducible refine Below.al ?_ ?_); · first | omega | (simp; done) | (simp; omega)) | ((with_reducible refine Below.sc ?_ ?_); · first | omega | (simp; done) | (simp; omega)) | ((with_reducible refine Below.thru hb ?_ ?_); · first | omega | (simp; done) | (simp; omega))))
      have b4 := B4.p2
      have g0 := B4.free 0
      have g1 := B4.free 1
      have lB4 := B4.lt
      have HO := Lib.hid O
      clear hb O
      go_wp2
      refine ret_at (v := .tuple #[.agg #[.slice xa X.length xc, .slice ya Y.length yc], .int .i64 0]) (fun w' => Blk w' (w.heap.size + 1) 27 (#[.slice xa X.length xc, .slice ya Y.length yc])) (by repeat (first | (with_reducible assumption) | ((with_reducible refine Blk.new ?_); · first | omega | (simp; done) | (simp; omega)) | (with_reducible apply Blk.set4) | (with_reducible apply Blk.set3) | (with_reducible apply Blk.set2) | ((with_reducible refine Blk.put ?_ ?_); · first | omega | (simp; omega)) | (with_reducible refine Blk.old ?_) | (with_reducible refine Blk.drew ?_) | (with_reducible refine Blk.drewN ?_) | ((with_reducible refine Blk.below hb ?_ ?_); · first | omega | (simp; done) | (simp; omega)))) (fun w' hB => by have q := hB.p2; simp [results, Try.results36, go_sem, q]) rfl ?_
      exact ⟨_, _, rfl, ((HO.out.put (by omega)).put (by omega)).mono (by omega), (by repeat (first | (with_reducible exact Below.refl _ _) | (with_reducible assumption) | (with_reducible refine Below.drew ?_) | (with_reducible refine Below.drewN ?_) | ((with_reducible refine Below.al ?_ ?_); · first | omega | (simp; done) | (simp; omega)) | ((with_reducible refine Below.sc ?_ ?_); · first | omega | (simp; done) | (simp; omega)) | ((with_reducible refine Below.thru hb ?_ ?_); · first | omega | (simp; done) | (simp; omega))))⟩

end Go.Proofs.Ytamkbgodenkboaa
