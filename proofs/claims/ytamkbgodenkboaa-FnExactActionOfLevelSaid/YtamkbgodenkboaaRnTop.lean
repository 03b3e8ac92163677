/- RenumberAction: both. -/
import Derived.Test.YtamkbgodenkboaaRns
import Derived.Test.YtamkbgodenkboaaAct3
namespace Go.Proofs.Ytamkbgodenkboaa
open Go.RowKit

def rnCode (S T p : List Int) : Int := if isA S T then (if permB p S.length then 0 else 2) else 1
def rnAct (S T p : List Int) : Act := if isA S T then (if permB p S.length then ⟨rnL p S S.length S.length, rnL p T S.length S.length⟩ else ⟨[], []⟩) else ⟨[], []⟩
/-- What RenumberAction gives. -/
def GivesRn (S T p : List Int) (w : World) (e : Ending) (w' : World) : Prop :=
  ∃ s' t', e = .returned (.tuple #[.agg #[s', t'], .int .i64 (rnCode S T p)]) ∧ OwnA w' w.heap.size s' t' (rnAct S T p) ∧ Below w.heap.size w w'
theorem OwnA.nil (w : World) (B : Nat) : OwnA w B (.slice none 0 0) (.slice none 0 0) ⟨[], []⟩ := ⟨Own.nil _ _, Own.nil _ _, fun g e => by cases e⟩
theorem OwnA.put {w : World} {B g i : Nat} {s t u : Value} {X : Act} (h : OwnA w B s t X) (hg : g < B) : OwnA (w.setCell ⟨g, i, none⟩ u) B s t X :=
  ⟨Own.put (fun e => by have := (h.1.lt e).1; omega) h.1, Own.put (fun e => by have := (h.2.1.lt e).1; omega) h.2.1, h.2.2⟩
theorem OwnA.mono {w : World} {B B' : Nat} {s t : Value} {X : Act} (h : OwnA w B s t X) (hB : B' ≤ B) : OwnA w B' s t X := ⟨h.1.mono hB, h.2.1.mono hB, h.2.2⟩

set_option maxHeartbeats 2000000 in
theorem RenumberAction_any (s t v : Value) (S T p : List Int) (w : World) (h : SlIn w .i64 s S ∧ SlIn w .i64 t T) (hv : SlIn w .i64 v p) (hl : S.length ≤ 1048576 ∧ T.length ≤ 1048576) (hp : p.length ≤ 1048576) :
    Calls Try.prog 27 #[.agg #[s, t], v] w (GivesRn S T p w) := by
  have HI := Lib.hid h
  have HV := Lib.hid hv
  have HL := Lib.hid hl
  obtain ⟨sa, sc, hsa, _⟩ := h.1.form
  obtain ⟨ta, tc, hta, _⟩ := h.2.form
  obtain ⟨va, vc, hva, _⟩ := hv.form
  subst hsa hta hva
  clear h hl hv
  cases hq : isA S T with
  | false =>
    have HF := Lib.hid (show rnCode S T p = 1 ∧ rnAct S T p = ⟨[], []⟩ by unfold rnCode rnAct; rw [hq]; exact ⟨rfl, rfl⟩)
    go_enter Try.func27, Try.ntmps27
    go_wp2_with fail
    refine (IsAction_any _ _ S T _ (SlIn2.below HI.out (by repeat (first | (with_reducible exact Below.refl _ _) | (with_reducible assumption) | (with_reducible refine Below.drew ?_) | (with_reducible refine Below.drewN ?_) | ((with_reducible refine Below.al ?_ ?_); · first | omega | (simp; done) | (simp; omega)) | ((with_reducible refine Below.sc ?_ ?_); · first | omega | (simp; done) | (simp; omega)) | ((with_reducible refine Below.thru hb ?_ ?_); · first | omega | (simp; done) | (simp; omega))))) HL.out).mono ?_
    rw [hq]
    clear hq
    rintro e w1 ⟨rfl, hb⟩
    have B1 : Blk w1 (w.heap.size + 1) 27 #[.slice none 0 0, .slice none 0 0] := (by repeat (first | (with_reducible assumption) | ((with_reducible refine Blk.new ?_); · first | omega | (simp; done) | (simp; omega)) | (with_reducible apply Blk.set4) | (with_reducible apply Blk.set3) | (with_reducible apply Blk.set2) | ((with_reducible refine Blk.put ?_ ?_); · first | omega | (simp; omega)) | (with_reducible refine Blk.old ?_) | (with_reducible refine Blk.drew ?_) | (with_reducible refine Blk.drewN ?_) | ((with_reducible refine Blk.below hb ?_ ?_); · first | omega | (simp; done) | (simp; omega))))
    have kw1 : Below w.heap.size w w1 := (by repeat (first | (with_reducible exact Below.refl _ _) | (with_reducible assumption) | (with_reducible refine Below.drew ?_) | (with_reducible refine Below.drewN ?_) | ((with_reducible refine Below.al ?_ ?_); · first | omega | (simp; done) | (simp; omega)) | ((with_reducible refine Below.sc ?_ ?_); · first | omega | (simp; done) | (simp; omega)) | ((with_reducible refine Below.thru hb ?_ ?_); · first | omega | (simp; done) | (simp; omega))))
    have b1 := B1.p2
    have f0 := B1.free 0
    have f1 := B1.free 1
    have lB1 := B1.lt
    clear hb
    go_wp2
    refine ret_at (v := .tuple #[.agg #[.slice none 0 0, .slice none 0 0], .int .i64 1]) (fun w' => Blk w' (w.heap.size + 1) 27 (#[.slice none 0 0, .slice none 0 0])) (by repeat (first | (with_reducible assumption) | ((with_reducible refine Blk.new ?_); · first | omega | (simp; done) | (simp; omega)) | (with_reducible apply Blk.set4) | (with_reducible apply Blk.set3) | (with_reducible apply Blk.set2) | ((with_reducible refine Blk.put ?_ ?_); · first | omega | (simp; omega)) | (with_reducible refine Blk.old ?_) | (with_reducible refine Blk.drew ?_) | (with_reducible refine Blk.drewN ?_) | ((with_reducible refine Blk.below hb ?_ ?_); · first | omega | (simp; done) | (simp; omega)))) (fun w' hB => by have q := hB.p2; simp [results, Try.results27, go_sem, q]) rfl ?_
    exact ⟨_, _, by rw [HF.out.1], by rw [HF.out.2]; exact OwnA.nil _ _, (by repeat (first | (with_reducible exact Below.refl _ _) | (with_reducible assumption) | (with_reducible refine Below.drew ?_) | (with_reducible refine Below.drewN ?_) | ((with_reducible refine Below.al ?_ ?_); · first | omega | (simp; done) | (simp; omega)) | ((with_reducible refine Below.sc ?_ ?_); · first | omega | (simp; done) | (simp; omega)) | ((with_reducible refine Below.thru hb ?_ ?_); · first | omega | (simp; done) | (simp; omega))))⟩
  | true =>
    have HP := Lib.hid (isA_spec hq)
    cases hpp : decide (permB p S.length) with
    | false =>
      have HF := Lib.hid (show rnCode S T p = 2 ∧ rnAct S T p = ⟨[], []⟩ by unfold rnCode rnAct; rw [hq, if_pos rfl, if_pos rfl, if_neg (of_decide_eq_false hpp), if_neg (of_decide_eq_false hpp)]; exact ⟨rfl, rfl⟩)
      have h72 := HP.out.1
      go_enter Try.func27, Try.ntmps27
      go_wp2_with fail
      refine (IsAction_any _ _ S T _ (SlIn2.below HI.out (by repeat (first | (with_reducible exact Below.refl _ _) | (with_reducible assumption) | (with_reducible refine Below.drew ?_) | (with_reducible refine Below.drewN ?_) | ((with_reducible refine Below.al ?_ ?_); · first | omega | (simp; done) | (simp; omega)) | ((with_reducible refine Below.sc ?_ ?_); · first | omega | (simp; done) | (simp; omega)) | ((with_reducible refine Below.thru hb ?_ ?_); · first | omega | (simp; done) | (simp; omega))))) HL.out).mono ?_
      rw [hq]
      clear hq
      rintro e w1 ⟨rfl, hb⟩
      have B0 : Blk w1 w.heap.size 27 #[.slice sa S.length sc, .slice ta T.length tc] := (by repeat (first | (with_reducible assumption) | ((with_reducible refine Blk.new ?_); · first | omega | (simp; done) | (simp; omega)) | (with_reducible apply Blk.set4) | (with_reducible apply Blk.set3) | (with_reducible apply Blk.set2) | ((with_reducible refine Blk.put ?_ ?_); · first | omega | (simp; omega)) | (with_reducible refine Blk.old ?_) | (with_reducible refine Blk.drew ?_) | (with_reducible refine Blk.drewN ?_) | ((with_reducible refine Blk.below hb ?_ ?_); · first | omega | (simp; done) | (simp; omega))))
      have B1 : Blk w1 (w.heap.size + 1) 27 #[.slice none 0 0, .slice none 0 0] := (by repeat (first | (with_reducible assumption) | ((with_reducible refine Blk.new ?_); · first | omega | (simp; done) | (simp; omega)) | (with_reducible apply Blk.set4) | (with_reducible apply Blk.set3) | (with_reducible apply Blk.set2) | ((with_reducible refine Blk.put ?_ ?_); · first | omega | (simp; omega)) | (with_reducible refine Blk.old ?_) | (with_reducible refine Blk.drew ?_) | (with_reducible refine Blk.drewN ?_) | ((with_reducible refine Blk.below hb ?_ ?_); · first | omega | (simp; done) | (simp; omega))))
      have kw1 : Below w.heap.size w w1 := (by repeat (first | (with_reducible exact Below.refl _ _) | (with_reducible assumption) | (with_reducible refine Below.drew ?_) | (with_reducible refine Below.drewN ?_) | ((with_reducible refine Below.al ?_ ?_); · first | omega | (simp; done) | (simp; omega)) | ((with_reducible refine Below.sc ?_ ?_); · first | omega | (simp; done) | (simp; omega)) | ((with_reducible refine Below.thru hb ?_ ?_); · first | omega | (simp; done) | (simp; omega))))
      have b0 := B0.p2
      have lB1 := B1.lt
      clear hb
      go_wp2_with fail
      refine (isPermutation_b _ p S.length false _ hpp (HV.out.below (by repeat (first | (with_reducible exact Below.refl _ _) | (with_reducible assumption) | (with_reducible refine Below.drew ?_) | (with_reducible refine Below.drewN ?_) | ((with_reducible refine Below.al ?_ ?_); · first | omega | (simp; done) | (simp; omega)) | ((with_reducible refine Below.sc ?_ ?_); · first | omega | (simp; done) | (simp; omega)) | ((with_reducible refine Below.thru hb ?_ ?_); · first | omega | (simp; done) | (simp; omega))))) hp (by omega)).mono ?_
      clear hpp
      rintro e w2 ⟨rfl, hb⟩
      have B2 : Blk w2 (w.heap.size + 1) 27 #[.slice none 0 0, .slice none 0 0] := (by repeat (first | (with_reducible assumption) | ((with_reducible refine Blk.new ?_); · first | omega | (simp; done) | (simp; omega)) | (with_reducible apply Blk.set4) | (with_reducible apply Blk.set3) | (with_reducible apply Blk.set2) | ((with_reducible refine Blk.put ?_ ?_); · first | omega | (simp; omega)) | (with_reducible refine Blk.old ?_) | (with_reducible refine Blk.drew ?_) | (with_reducible refine Blk.drewN ?_) | ((with_reducible refine Blk.below hb ?_ ?_); · first | omega | (simp; done) | (simp; omega))))
      have sw1 := kw1.size
      have kw2 : Below w.heap.size w w2 := (by repeat (first | (with_reducible exact Below.refl _ _) | (with_reducible assumption) | (with_reducible refine Below.drew ?_) | (with_reducible refine Below.drewN ?_) | ((with_reducible refine Below.al ?_ ?_); · first | omega | (simp; done) | (simp; omega)) | ((with_reducible refine Below.sc ?_ ?_); · first | omega | (simp; done) | (simp; omega)) | ((with_reducible refine Below.thru hb ?_ ?_); · first | omega | (simp; done) | (simp; omega))))
      have b2 := B2.p2
      have f0 := B2.free 0
      have f1 := B2.free 1
      have lB2 := B2.lt
      clear hb b0 B0 B1 kw1
      go_wp2
      refine ret_at (v := .tuple #[.agg #[.slice none 0 0, .slice none 0 0], .int .i64 2]) (fun w' => Blk w' (w.heap.size + 1) 27 (#[.slice none 0 0, .slice none 0 0])) (by repeat (first | (with_reducible assumption) | ((with_reducible refine Blk.new ?_); · first | omega | (simp; done) | (simp; omega)) | (with_reducible apply Blk.set4) | (with_reducible apply Blk.set3) | (with_reducible apply Blk.set2) | ((with_reducible refine Blk.put ?_ ?_); · first | omega | (simp; omega)) | (with_reducible refine Blk.old ?_) | (with_reducible refine Blk.drew ?_) | (with_reducible refine Blk.drewN ?_) | ((with_reducible refine Blk.below hb ?_ ?_); · first | omega | (simp; done) | (simp; omega)))) (fun w' hB => by have q := hB.p2; simp [results, Try.results27, go_sem, q]) rfl ?_
      exact ⟨_, _, by rw [HF.out.1], by rw [HF.out.2]; exact OwnA.nil _ _, (by repeat (first | (with_reducible exact Below.refl _ _) | (with_reducible assumption) | (with_reducible refine Below.drew ?_) | (with_reducible refine Below.drewN ?_) | ((with_reducible refine Below.al ?_ ?_); · first | omega | (simp; done) | (simp; omega)) | ((with_reducible refine Below.sc ?_ ?_); · first | omega | (simp; done) | (simp; omega)) | ((with_reducible refine Below.thru hb ?_ ?_); · first | omega | (simp; done) | (simp; omega))))⟩
    | true =>
      have HF := Lib.hid (show rnCode S T p = 0 ∧ rnAct S T p = ⟨rnL p S S.length S.length, rnL p T S.length S.length⟩ by unfold rnCode rnAct; rw [hq, if_pos rfl, if_pos rfl, if_pos (of_decide_eq_true hpp), if_pos (of_decide_eq_true hpp)]; exact ⟨rfl, rfl⟩)
      have HPP := Lib.hid (of_decide_eq_true hpp)
      have h72 := HP.out.1
      go_enter Try.func27, Try.ntmps27
      go_wp2_with fail
      refine (IsAction_any _ _ S T _ (SlIn2.below HI.out (by repeat (first | (with_reducible exact Below.refl _ _) | (with_reducible assumption) | (with_reducible refine Below.drew ?_) | (with_reducible refine Below.drewN ?_) | ((with_reducible refine Below.al ?_ ?_); · first | omega | (simp; done) | (simp; omega)) | ((with_reducible refine Below.sc ?_ ?_); · first | omega | (simp; done) | (simp; omega)) | ((with_reducible refine Below.thru hb ?_ ?_); · first | omega | (simp; done) | (simp; omega))))) HL.out).mono ?_
      rw [hq]
      clear hq
      rintro e w1 ⟨rfl, hb⟩
      have B0 : Blk w1 w.heap.size 27 #[.slice sa S.length sc, .slice ta T.length tc] := (by repeat (first | (with_reducible assumption) | ((with_reducible refine Blk.new ?_); · first | omega | (simp; done) | (simp; omega)) | (with_reducible apply Blk.set4) | (with_reducible apply Blk.set3) | (with_reducible apply Blk.set2) | ((with_reducible refine Blk.put ?_ ?_); · first | omega | (simp; omega)) | (with_reducible refine Blk.old ?_) | (with_reducible refine Blk.drew ?_) | (with_reducible refine Blk.drewN ?_) | ((with_reducible refine Blk.below hb ?_ ?_); · first | omega | (simp; done) | (simp; omega))))
      have B1 : Blk w1 (w.heap.size + 1) 27 #[.slice none 0 0, .slice none 0 0] := (by repeat (first | (with_reducible assumption) | ((with_reducible refine Blk.new ?_); · first | omega | (simp; done) | (simp; omega)) | (with_reducible apply Blk.set4) | (with_reducible apply Blk.set3) | (with_reducible apply Blk.set2) | ((with_reducible refine Blk.put ?_ ?_); · first | omega | (simp; omega)) | (with_reducible refine Blk.old ?_) | (with_reducible refine Blk.drew ?_) | (with_reducible refine Blk.drewN ?_) | ((with_reducible refine Blk.below hb ?_ ?_); · first | omega | (simp; done) | (simp; omega))))
      have kw1 : Below w.heap.size w w1 := (by repeat (first | (with_reducible exact Below.refl _ _) | (with_reducible assumption) | (with_reducible refine Below.drew ?_) | (with_reducible refine Below.drewN ?_) | ((with_reducible refine Below.al ?_ ?_); · first | omega | (simp; done) | (simp; omega)) | ((with_reducible refine Below.sc ?_ ?_); · first | omega | (simp; done) | (simp; omega)) | ((with_reducible refine Below.thru hb ?_ ?_); · first | omega | (simp; done) | (simp; omega))))
      have b0 := B0.p2
      have lB1 := B1.lt
      clear hb
      go_wp2_with fail
      refine (isPermutation_b _ p S.length true _ hpp (HV.out.below (by repeat (first | (with_reducible exact Below.refl _ _) | (with_reducible assumption) | (with_reducible refine Below.drew ?_) | (with_reducible refine Below.drewN ?_) | ((with_reducible refine Below.al ?_ ?_); · first | omega | (simp; done) | (simp; omega)) | ((with_reducible refine Below.sc ?_ ?_); · first | omega | (simp; done) | (simp; omega)) | ((with_reducible refine Below.thru hb ?_ ?_); · first | omega | (simp; done) | (simp; omega))))) hp (by omega)).mono ?_
      clear hpp
      rintro e w2 ⟨rfl, hb⟩
      have B3 : Blk w2 w.heap.size 27 #[.slice sa S.length sc, .slice ta T.length tc] := (by repeat (first | (with_reducible assumption) | ((with_reducible refine Blk.new ?_); · first | omega | (simp; done) | (simp; omega)) | (with_reducible apply Blk.set4) | (with_reducible apply Blk.set3) | (with_reducible apply Blk.set2) | ((with_reducible refine Blk.put ?_ ?_); · first | omega | (simp; omega)) | (with_reducible refine Blk.old ?_) | (with_reducible refine Blk.drew ?_) | (with_reducible refine Blk.drewN ?_) | ((with_reducible refine Blk.below hb ?_ ?_); · first | omega | (simp; done) | (simp; omega))))
      have B2 : Blk w2 (w.heap.size + 1) 27 #[.slice none 0 0, .slice none 0 0] := (by repeat (first | (with_reducible assumption) | ((with_reducible refine Blk.new ?_); · first | omega | (simp; done) | (simp; omega)) | (with_reducible apply Blk.set4) | (with_reducible apply Blk.set3) | (with_reducible apply Blk.set2) | ((with_reducible refine Blk.put ?_ ?_); · first | omega | (simp; omega)) | (with_reducible refine Blk.old ?_) | (with_reducible refine Blk.drew ?_) | (with_reducible refine Blk.drewN ?_) | ((with_reducible refine Blk.below hb ?_ ?_); · first | omega | (simp; done) | (simp; omega))))
      have sw1 := kw1.size
      have kw2 : Below w.heap.size w w2 := (by repeat (first | (with_reducible exact Below.refl _ _) | (with_reducible assumption) | (with_reducible refine Below.drew ?_) | (with_reducible refine Below.drewN ?_) | ((with_reducible refine Below.al ?_ ?_); · first | omega | (simp; done) | (simp; omega)) | ((with_reducible refine Below.sc ?_ ?_); · first | omega | (simp; done) | (simp; omega)) | ((with_reducible refine Below.thru hb ?_ ?_); · first | omega | (simp; done) | (simp; omega))))
      have sw2 := kw2.size
      have b3 := B3.p2
      have lB2 := B2.lt
      clear hb b0 B0 B1 kw1
      go_wp2_with fail
      refine (renumbered_any _ _ _ S T p S.length _ (SlIn2.below HI.out (by repeat (first | (with_reducible exact Below.refl _ _) | (with_reducible assumption) | (with_reducible refine Below.drew ?_) | (with_reducible refine Below.drewN ?_) | ((with_reducible refine Below.al ?_ ?_); · first | omega | (simp; done) | (simp; omega)) | ((with_reducible refine Below.sc ?_ ?_); · first | omega | (simp; done) | (simp; omega)) | ((with_reducible refine Below.thru hb ?_ ?_); · first | omega | (simp; done) | (simp; omega))))) (HV.out.below (by repeat (first | (with_reducible exact Below.refl _ _) | (with_reducible assumption) | (with_reducible refine Below.drew ?_) | (with_reducible refine Below.drewN ?_) | ((with_reducible refine Below.al ?_ ?_); · first | omega | (simp; done) | (simp; omega)) | ((with_reducible refine Below.sc ?_ ?_); · first | omega | (simp; done) | (simp; omega)) | ((with_reducible refine Below.thru hb ?_ ?_); · first | omega | (simp; done) | (simp; omega))))) HP.out.2.1 HP.out.2.2.1 HPP.out.pts h72.1 h72.2).mono ?_
      rintro e w3 ⟨s', t', rfl, O, hb⟩
      obtain ⟨xa, xc, hx, _⟩ := O.1.slIn.form
      obtain ⟨ya, yc, hy, _⟩ := O.2.1.slIn.form
      subst hx hy
      have B4 : Blk w3 (w.heap.size + 1) 27 #[.slice none 0 0, .slice none 0 0] := (by repeat (first | (with_reducible assumption) | ((with_reducible refine Blk.new ?_); · first | omega | (simp; done) | (simp; omega)) | (with_reducible apply Blk.set4) | (with_reducible apply Blk.set3) | (with_reducible apply Blk.set2) | ((with_reducible refine Blk.put ?_ ?_); · first | omega | (simp; omega)) | (with_reducible refine Blk.old ?_) | (with_reducible refine Blk.drew ?_) | (with_reducible refine Blk.drewN ?_) | ((with_reducible refine Blk.below hb ?_ ?_); · first | omega | (simp; done) | (simp; omega))))
      have kw3 : Below w.heap.size w w3 := (by repeat (first | (with_reducible exact Below.refl _ _) | (with_reducible assumption) | (with_reducible refine Below.drew ?_) | (with_reducible refine Below.drewN ?_) | ((with_reducible refine Below.al ?_ ?_); · first | omega | (simp; done) | (simp; omega)) | ((with_reducible refine Below.sc ?_ ?_); · first | omega | (simp; done) | (simp; omega)) | ((with_reducible refine Below.thru hb ?_ ?_); · first | omega | (simp; done) | (simp; omega))))
      have b4 := B4.p2
      have f0 := B4.free 0
      have f1 := B4.free 1
      have lB4 := B4.lt
      have HO := Lib.hid O
      clear hb O
      generalize rnL p S S.length S.length = X at *
      generalize rnL p T S.length S.length = Y at *
      go_wp2
      refine ret_at (v := .tuple #[.agg #[.slice xa X.length xc, .slice ya Y.length yc], .int .i64 0]) (fun w' => Blk w' (w.heap.size + 1) 27 (#[.slice xa X.length xc, .slice ya Y.length yc])) (by repeat (first | (with_reducible assumption) | ((with_reducible refine Blk.new ?_); · first | omega | (simp; done) | (simp; omega)) | (with_reducible apply Blk.set4) | (with_reducible apply Blk.set3) | (with_reducible apply Blk.set2) | ((with_reducible refine Blk.put ?_ ?_); · first | omega | (simp; omega)) | (with_reducible refine Blk.old ?_) | (with_reducible refine Blk.drew ?_) | (with_reducible refine Blk.drewN ?_) | ((with_reducible refine Blk.below hb ?_ ?_); · first | omega | (simp; done) | (simp; omega)))) (fun w' hB => by have q := hB.p2; simp [results, Try.results27, go_sem, q]) rfl ?_
      exact ⟨_, _, by rw [HF.out.1], by rw [HF.out.2]; exact ((HO.out.put (by omega)).put (by omega)).mono (by omega), (by repeat (first | (with_reducible exact Below.refl _ _) | (with_reducible assumption) | (with_reducible refine Below.drew ?_) | (with_reducible refine Below.drewN ?_) | ((with_reducible refine Below.al ?_ ?_); · first | omega | (simp; done) | (simp; omega)) | ((with_reducible refine Below.sc ?_ ?_); · first | omega | (simp; done) | (simp; omega)) | ((with_reducible refine Below.thru hb ?_ ?_); · first | omega | (simp; done) | (simp; omega))))⟩

set_option maxHeartbeats 2000000 in
theorem specRenumberAction_any (s t v : Value) (S T p : List Int) (w : World) (h : SlIn w .i64 s S ∧ SlIn w .i64 t T) (hv : SlIn w .i64 v p) (hl : S.length ≤ 1048576 ∧ T.length ≤ 1048576) (hp : p.length ≤ 1048576) :
    Calls Try.prog 25 #[.agg #[s, t], v] w (GivesRn S T p w) := by
  have HI := Lib.hid h
  have HV := Lib.hid hv
  have HL := Lib.hid hl
  obtain ⟨sa, sc, hsa, _⟩ := h.1.form
  obtain ⟨ta, tc, hta, _⟩ := h.2.form
  obtain ⟨va, vc, hva, _⟩ := hv.form
  subst hsa hta hva
  clear h hl hv
  cases hq : isA S T with
  | false =>
    have HF := Lib.hid (show rnCode S T p = 1 ∧ rnAct S T p = ⟨[], []⟩ by unfold rnCode rnAct; rw [hq]; exact ⟨rfl, rfl⟩)
    go_enter Try.func25, Try.ntmps25
    go_wp2_with fail
    refine (l10Is_any _ _ S T _ (SlIn2.below HI.out (by repeat (first | (with_reducible exact Below.refl _ _) | (with_reducible assumption) | (with_reducible refine Below.drew ?_) | (with_reducible refine Below.drewN ?_) | ((with_reducible refine Below.al ?_ ?_); · first | omega | (simp; done) | (simp; omega)) | ((with_reducible refine Below.sc ?_ ?_); · first | omega | (simp; done) | (simp; omega)) | ((with_reducible refine Below.thru hb ?_ ?_); · first | omega | (simp; done) | (simp; omega))))) HL.out).mono ?_
    rw [hq]
    clear hq
    rintro e w1 ⟨rfl, hb⟩
    have B1 : Blk w1 (w.heap.size + 1) 27 #[.slice none 0 0, .slice none 0 0] := (by repeat (first | (with_reducible assumption) | ((with_reducible refine Blk.new ?_); · first | omega | (simp; done) | (simp; omega)) | (with_reducible apply Blk.set4) | (with_reducible apply Blk.set3) | (with_reducible apply Blk.set2) | ((with_reducible refine Blk.put ?_ ?_); · first | omega | (simp; omega)) | (with_reducible refine Blk.old ?_) | (with_reducible refine Blk.drew ?_) | (with_reducible refine Blk.drewN ?_) | ((with_reducible refine Blk.below hb ?_ ?_); · first | omega | (simp; done) | (simp; omega))))
    have kw1 : Below w.heap.size w w1 := (by repeat (first | (with_reducible exact Below.refl _ _) | (with_reducible assumption) | (with_reducible refine Below.drew ?_) | (with_reducible refine Below.drewN ?_) | ((with_reducible refine Below.al ?_ ?_); · first | omega | (simp; done) | (simp; omega)) | ((with_reducible refine Below.sc ?_ ?_); · first | omega | (simp; done) | (simp; omega)) | ((with_reducible refine Below.thru hb ?_ ?_); · first | omega | (simp; done) | (simp; omega))))
    have b1 := B1.p2
    have f0 := B1.free 0
    have f1 := B1.free 1
    have lB1 := B1.lt
    clear hb
    go_wp2
    refine ret_at (v := .tuple #[.agg #[.slice none 0 0, .slice none 0 0], .int .i64 1]) (fun w' => Blk w' (w.heap.size + 1) 27 (#[.slice none 0 0, .slice none 0 0])) (by repeat (first | (with_reducible assumption) | ((with_reducible refine Blk.new ?_); · first | omega | (simp; done) | (simp; omega)) | (with_reducible apply Blk.set4) | (with_reducible apply Blk.set3) | (with_reducible apply Blk.set2) | ((with_reducible refine Blk.put ?_ ?_); · first | omega | (simp; omega)) | (with_reducible refine Blk.old ?_) | (with_reducible refine Blk.drew ?_) | (with_reducible refine Blk.drewN ?_) | ((with_reducible refine Blk.below hb ?_ ?_); · first | omega | (simp; done) | (simp; omega)))) (fun w' hB => by have q := hB.p2; simp [results, Try.results25, go_sem, q]) rfl ?_
    exact ⟨_, _, by rw [HF.out.1], by rw [HF.out.2]; exact OwnA.nil _ _, (by repeat (first | (with_reducible exact Below.refl _ _) | (with_reducible assumption) | (with_reducible refine Below.drew ?_) | (with_reducible refine Below.drewN ?_) | ((with_reducible refine Below.al ?_ ?_); · first | omega | (simp; done) | (simp; omega)) | ((with_reducible refine Below.sc ?_ ?_); · first | omega | (simp; done) | (simp; omega)) | ((with_reducible refine Below.thru hb ?_ ?_); · first | omega | (simp; done) | (simp; omega))))⟩
  | true =>
    have HP := Lib.hid (isA_spec hq)
    cases hpp : decide (permB p S.length) with
    | false =>
      have HF := Lib.hid (show rnCode S T p = 2 ∧ rnAct S T p = ⟨[], []⟩ by unfold rnCode rnAct; rw [hq, if_pos rfl, if_pos rfl, if_neg (of_decide_eq_false hpp), if_neg (of_decide_eq_false hpp)]; exact ⟨rfl, rfl⟩)
      have h72 := HP.out.1
      go_enter Try.func25, Try.ntmps25
      go_wp2_with fail
      refine (l10Is_any _ _ S T _ (SlIn2.below HI.out (by repeat (first | (with_reducible exact Below.refl _ _) | (with_reducible assumption) | (with_reducible refine Below.drew ?_) | (with_reducible refine Below.drewN ?_) | ((with_reducible refine Below.al ?_ ?_); · first | omega | (simp; done) | (simp; omega)) | ((with_reducible refine Below.sc ?_ ?_); · first | omega | (simp; done) | (simp; omega)) | ((with_reducible refine Below.thru hb ?_ ?_); · first | omega | (simp; done) | (simp; omega))))) HL.out).mono ?_
      rw [hq]
      clear hq
      rintro e w1 ⟨rfl, hb⟩
      have B0 : Blk w1 w.heap.size 27 #[.slice sa S.length sc, .slice ta T.length tc] := (by repeat (first | (with_reducible assumption) | ((with_reducible refine Blk.new ?_); · first | omega | (simp; done) | (simp; omega)) | (with_reducible apply Blk.set4) | (with_reducible apply Blk.set3) | (with_reducible apply Blk.set2) | ((with_reducible refine Blk.put ?_ ?_); · first | omega | (simp; omega)) | (with_reducible refine Blk.old ?_) | (with_reducible refine Blk.drew ?_) | (with_reducible refine Blk.drewN ?_) | ((with_reducible refine Blk.below hb ?_ ?_); · first | omega | (simp; done) | (simp; omega))))
      have B1 : Blk w1 (w.heap.size + 1) 27 #[.slice none 0 0, .slice none 0 0] := (by repeat (first | (with_reducible assumption) | ((with_reducible refine Blk.new ?_); · first | omega | (simp; done) | (simp; omega)) | (with_reducible apply Blk.set4) | (with_reducible apply Blk.set3) | (with_reducible apply Blk.set2) | ((with_reducible refine Blk.put ?_ ?_); · first | omega | (simp; omega)) | (with_reducible refine Blk.old ?_) | (with_reducible refine Blk.drew ?_) | (with_reducible refine Blk.drewN ?_) | ((with_reducible refine Blk.below hb ?_ ?_); · first | omega | (simp; done) | (simp; omega))))
      have kw1 : Below w.heap.size w w1 := (by repeat (first | (with_reducible exact Below.refl _ _) | (with_reducible assumption) | (with_reducible refine Below.drew ?_) | (with_reducible refine Below.drewN ?_) | ((with_reducible refine Below.al ?_ ?_); · first | omega | (simp; done) | (simp; omega)) | ((with_reducible refine Below.sc ?_ ?_); · first | omega | (simp; done) | (simp; omega)) | ((with_reducible refine Below.thru hb ?_ ?_); · first | omega | (simp; done) | (simp; omega))))
      have b0 := B0.p2
      have lB1 := B1.lt
      clear hb
      go_wp2_with fail
      refine (l10Order_b _ p S.length false _ hpp (HV.out.below (by repeat (first | (with_reducible exact Below.refl _ _) | (with_reducible assumption) | (with_reducible refine Below.drew ?_) | (with_reducible refine Below.drewN ?_) | ((with_reducible refine Below.al ?_ ?_); · first | omega | (simp; done) | (simp; omega)) | ((with_reducible refine Below.sc ?_ ?_); · first | omega | (simp; done) | (simp; omega)) | ((with_reducible refine Below.thru hb ?_ ?_); · first | omega | (simp; done) | (simp; omega))))) hp (by omega)).mono ?_
      clear hpp
      rintro e w2 ⟨rfl, hb⟩
      have B2 : Blk w2 (w.heap.size + 1) 27 #[.slice none 0 0, .slice none 0 0] := (by repeat (first | (with_reducible assumption) | ((with_reducible refine Blk.new ?_); · first | omega | (simp; done) | (simp; omega)) | (with_reducible apply Blk.set4) | (with_reducible apply Blk.set3) | (with_reducible apply Blk.set2) | ((with_reducible refine Blk.put ?_ ?_); · first | omega | (simp; omega)) | (with_reducible refine Blk.old ?_) | (with_reducible refine Blk.drew ?_) | (with_reducible refine Blk.drewN ?_) | ((with_reducible refine Blk.below hb ?_ ?_); · first | omega | (simp; done) | (simp; omega))))
      have sw1 := kw1.size
      have kw2 : Below w.heap.size w w2 := (by repeat (first | (with_reducible exact Below.refl _ _) | (with_reducible assumption) | (with_reducible refine Below.drew ?_) | (with_reducible refine Below.drewN ?_) | ((with_reducible refine Below.al ?_ ?_); · first | omega | (simp; done) | (simp; omega)) | ((with_reducible refine Below.sc ?_ ?_); · first | omega | (simp; done) | (simp; omega)) | ((with_reducible refine Below.thru hb ?_ ?_); · first | omega | (simp; done) | (simp; omega))))
      have b2 := B2.p2
      have f0 := B2.free 0
      have f1 := B2.free 1
      have lB2 := B2.lt
      clear hb b0 B0 B1 kw1
      go_wp2
      refine ret_at (v := .tuple #[.agg #[.slice none 0 0, .slice none 0 0], .int .i64 2]) (fun w' => Blk w' (w.heap.size + 1) 27 (#[.slice none 0 0, .slice none 0 0])) (by repeat (first | (with_reducible assumption) | ((with_reducible refine Blk.new ?_); · first | omega | (simp; done) | (simp; omega)) | (with_reducible apply Blk.set4) | (with_reducible apply Blk.set3) | (with_reducible apply Blk.set2) | ((with_reducible refine Blk.put ?_ ?_); · first | omega | (simp; omega)) | (with_reducible refine Blk.old ?_) | (with_reducible refine Blk.drew ?_) | (with_reducible refine Blk.drewN ?_) | ((with_reducible refine Blk.below hb ?_ ?_); · first | omega | (simp; done) | (simp; omega)))) (fun w' hB => by have q := hB.p2; simp [results, Try.results25, go_sem, q]) rfl ?_
      exact ⟨_, _, by rw [HF.out.1], by rw [HF.out.2]; exact OwnA.nil _ _, (by repeat (first | (with_reducible exact Below.refl _ _) | (with_reducible assumption) | (with_reducible refine Below.drew ?_) | (with_reducible refine Below.drewN ?_) | ((with_reducible refine Below.al ?_ ?_); · first | omega | (simp; done) | (simp; omega)) | ((with_reducible refine Below.sc ?_ ?_); · first | omega | (simp; done) | (simp; omega)) | ((with_reducible refine Below.thru hb ?_ ?_); · first | omega | (simp; done) | (simp; omega))))⟩
    | true =>
      have HF := Lib.hid (show rnCode S T p = 0 ∧ rnAct S T p = ⟨rnL p S S.length S.length, rnL p T S.length S.length⟩ by unfold rnCode rnAct; rw [hq, if_pos rfl, if_pos rfl, if_pos (of_decide_eq_true hpp), if_pos (of_decide_eq_true hpp)]; exact ⟨rfl, rfl⟩)
      have HPP := Lib.hid (of_decide_eq_true hpp)
      have h72 := HP.out.1
      go_enter Try.func25, Try.ntmps25
      go_wp2_with fail
      refine (l10Is_any _ _ S T _ (SlIn2.below HI.out (by repeat (first | (with_reducible exact Below.refl _ _) | (with_reducible assumption) | (with_reducible refine Below.drew ?_) | (with_reducible refine Below.drewN ?_) | ((with_reducible refine Below.al ?_ ?_); · first | omega | (simp; done) | (simp; omega)) | ((with_reducible refine Below.sc ?_ ?_); · first | omega | (simp; done) | (simp; omega)) | ((with_reducible refine Below.thru hb ?_ ?_); · first | omega | (simp; done) | (simp; omega))))) HL.out).mono ?_
      rw [hq]
      clear hq
      rintro e w1 ⟨rfl, hb⟩
      have B0 : Blk w1 w.heap.size 27 #[.slice sa S.length sc, .slice ta T.length tc] := (by repeat (first | (with_reducible assumption) | ((with_reducible refine Blk.new ?_); · first | omega | (simp; done) | (simp; omega)) | (with_reducible apply Blk.set4) | (with_reducible apply Blk.set3) | (with_reducible apply Blk.set2) | ((with_reducible refine Blk.put ?_ ?_); · first | omega | (simp; omega)) | (with_reducible refine Blk.old ?_) | (with_reducible refine Blk.drew ?_) | (with_reducible refine Blk.drewN ?_) | ((with_reducible refine Blk.below hb ?_ ?_); · first | omega | (simp; done) | (simp; omega))))
      have B1 : Blk w1 (w.heap.size + 1) 27 #[.slice none 0 0, .slice none 0 0] := (by repeat (first | (with_reducible assumption) | ((with_reducible refine Blk.new ?_); · first | omega | (simp; done) | (simp; omega)) | (with_reducible apply Blk.set4) | (with_reducible apply Blk.set3) | (with_reducible apply Blk.set2) | ((with_reducible refine Blk.put ?_ ?_); · first | omega | (simp; omega)) | (with_reducible refine Blk.old ?_) | (with_reducible refine Blk.drew ?_) | (with_reducible refine Blk.drewN ?_) | ((with_reducible refine Blk.below hb ?_ ?_); · first | omega | (simp; done) | (simp; omega))))
      have kw1 : Below w.heap.size w w1 := (by repeat (first | (with_reducible exact Below.refl _ _) | (with_reducible assumption) | (with_reducible refine Below.drew ?_) | (with_reducible refine Below.drewN ?_) | ((with_reducible refine Below.al ?_ ?_); · first | omega | (simp; done) | (simp; omega)) | ((with_reducible refine Below.sc ?_ ?_); · first | omega | (simp; done) | (simp; omega)) | ((with_reducible refine Below.thru hb ?_ ?_); · first | omega | (simp; done) | (simp; omega))))
      have b0 := B0.p2
      have lB1 := B1.lt
      clear hb
      go_wp2_with fail
      refine (l10Order_b _ p S.length true _ hpp (HV.out.below (by repeat (first | (with_reducible exact Below.refl _ _) | (with_reducible assumption) | (with_reducible refine Below.drew ?_) | (with_reducible refine Below.drewN ?_) | ((with_reducible refine Below.al ?_ ?_); · first | omega | (simp; done) | (simp; omega)) | ((with_reducible refine Below.sc ?_ ?_); · first | omega | (simp; done) | (simp; omega)) | ((with_reducible refine Below.thru hb ?_ ?_); · first | omega | (simp; done) | (simp; omega))))) hp (by omega)).mono ?_
      clear hpp
      rintro e w2 ⟨rfl, hb⟩
      have B3 : Blk w2 w.heap.size 27 #[.slice sa S.length sc, .slice ta T.length tc] := (by repeat (first | (with_reducible assumption) | ((with_reducible refine Blk.new ?_); · first | omega | (simp; done) | (simp; omega)) | (with_reducible apply Blk.set4) | (with_reducible apply Blk.set3) | (with_reducible apply Blk.set2) | ((with_reducible refine Blk.put ?_ ?_); · first | omega | (simp; omega)) | (with_reducible refine Blk.old ?_) | (with_reducible refine Blk.drew ?_) | (with_reducible refine Blk.drewN ?_) | ((with_reducible refine Blk.below hb ?_ ?_); · first | omega | (simp; done) | (simp; omega))))
      have B2 : Blk w2 (w.heap.size + 1) 27 #[.slice none 0 0, .slice none 0 0] := (by repeat (first | (with_reducible assumption) | ((with_reducible refine Blk.new ?_); · first | omega | (simp; done) | (simp; omega)) | (with_reducible apply Blk.set4) | (with_reducible apply Blk.set3) | (with_reducible apply Blk.set2) | ((with_reducible refine Blk.put ?_ ?_); · first | omega | (simp; omega)) | (with_reducible refine Blk.old ?_) | (with_reducible refine Blk.drew ?_) | (with_reducible refine Blk.drewN ?_) | ((with_reducible refine Blk.below hb ?_ ?_); · first | omega | (simp; done) | (simp; omega))))
      have sw1 := kw1.size
      have kw2 : Below w.heap.size w w2 := (by repeat (first | (with_reducible exact Below.refl _ _) | (with_reducible assumption) | (with_reducible refine Below.drew ?_) | (with_reducible refine Below.drewN ?_) | ((with_reducible refine Below.al ?_ ?_); · first | omega | (simp; done) | (simp; omega)) | ((with_reducible refine Below.sc ?_ ?_); · first | omega | (simp; done) | (simp; omega)) | ((with_reducible refine Below.thru hb ?_ ?_); · first | omega | (simp; done) | (simp; omega))))
      have sw2 := kw2.size
      have b3 := B3.p2
      have lB2 := B2.lt
      clear hb b0 B0 B1 kw1
      go_wp2_with fail
      refine (l10Renumbered_any _ _ _ S T p S.length _ (SlIn2.below HI.out (by repeat (first | (with_reducible exact Below.refl _ _) | (with_reducible assumption) | (with_reducible refine Below.drew ?_) | (with_reducible refine Below.drewN ?_) | ((with_reducible refine Below.al ?_ ?_); · first | omega | (simp; done) | (simp; omega)) | ((with_reducible refine Below.sc ?_ ?_); · first | omega | (simp; done) | (simp; omega)) | ((with_reducible refine Below.thru hb ?_ ?_); · first | omega | (simp; done) | (simp; omega))))) (HV.out.below (by repeat (first | (with_reducible exact Below.refl _ _) | (with_reducible assumption) | (with_reducible refine Below.drew ?_) | (with_reducible refine Below.drewN ?_) | ((with_reducible refine Below.al ?_ ?_); · first | omega | (simp; done) | (simp; omega)) | ((with_reducible refine Below.sc ?_ ?_); · first | omega | (simp; done) | (simp; omega)) | ((with_reducible refine Below.thru hb ?_ ?_); · first | omega | (simp; done) | (simp; omega))))) HP.out.2.1 HP.out.2.2.1 HPP.out.pts h72.1 h72.2).mono ?_
      rintro e w3 ⟨s', t', rfl, O, hb⟩
      obtain ⟨xa, xc, hx, _⟩ := O.1.slIn.form
      obtain ⟨ya, yc, hy, _⟩ := O.2.1.slIn.form
      subst hx hy
      have B4 : Blk w3 (w.heap.size + 1) 27 #[.slice none 0 0, .slice none 0 0] := (by repeat (first | (with_reducible assumption) | ((with_reducible refine Blk.new ?_); · first | omega | (simp; done) | (simp; omega)) | (with_reducible apply Blk.set4) | (with_reducible apply Blk.set3) | (with_reducible apply Blk.set2) | ((with_reducible refine Blk.put ?_ ?_); · first | omega | (simp; omega)) | (with_reducible refine Blk.old ?_) | (with_reducible refine Blk.drew ?_) | (with_reducible refine Blk.drewN ?_) | ((with_reducible refine Blk.below hb ?_ ?_); · first | omega | (simp; done) | (simp; omega))))
      have kw3 : Below w.heap.size w w3 := (by repeat (first | (with_reducible exact Below.refl _ _) | (with_reducible assumption) | (with_reducible refine Below.drew ?_) | (with_reducible refine Below.drewN ?_) | ((with_reducible refine Below.al ?_ ?_); · first | omega | (simp; done) | (simp; omega)) | ((with_reducible refine Below.sc ?_ ?_); · first | omega | (simp; done) | (simp; omega)) | ((with_reducible refine Below.thru hb ?_ ?_); · first | omega | (simp; done) | (simp; omega))))
      have b4 := B4.p2
      have f0 := B4.free 0
      have f1 := B4.free 1
      have lB4 := B4.lt
      have HO := Lib.hid O
      clear hb O
      generalize rnL p S S.length S.length = X at *
      generalize rnL p T S.length S.length = Y at *
      go_wp2
      refine ret_at (v := .tuple #[.agg #[.slice xa X.length xc, .slice ya Y.length yc], .int .i64 0]) (fun w' => Blk w' (w.heap.size + 1) 27 (#[.slice xa X.length xc, .slice ya Y.length yc])) (by repeat (first | (with_reducible assumption) | ((with_reducible refine Blk.new ?_); · first | omega | (simp; done) | (simp; omega)) | (with_reducible apply Blk.set4) | (with_reducible apply Blk.set3) | (with_reducible apply Blk.set2) | ((with_reducible refine Blk.put ?_ ?_); · first | omega | (simp; omega)) | (with_reducible refine Blk.old ?_) | (with_reducible refine Blk.drew ?_) | (with_reducible refine Blk.drewN ?_) | ((with_reducible refine Blk.below hb ?_ ?_); · first | omega | (simp; done) | (simp; omega)))) (fun w' hB => by have q := hB.p2; simp [results, Try.results25, go_sem, q]) rfl ?_
      exact ⟨_, _, by rw [HF.out.1], by rw [HF.out.2]; exact ((HO.out.put (by omega)).put (by omega)).mono (by omega), (by repeat (first | (with_reducible exact Below.refl _ _) | (with_reducible assumption) | (with_reducible refine Below.drew ?_) | (with_reducible refine Below.drewN ?_) | ((with_reducible refine Below.al ?_ ?_); · first | omega | (simp; done) | (simp; omega)) | ((with_reducible refine Below.sc ?_ ?_); · first | omega | (simp; done) | (simp; omega)) | ((with_reducible refine Below.thru hb ?_ ?_); · first | omega | (simp; done) | (simp; omega))))⟩

theorem rnAct_len (S T p : List Int) : (rnAct S T p).S.length ≤ 1048576 ∧ (rnAct S T p).T.length ≤ 1048576 := by
  unfold rnAct
  split
  · rename_i h
    have := (isA_spec h).1
    split
    · simp only [rnL_len]; omega
    · simp
  · simp
/-- What a function gives whose result is an action and a code. -/
def GivesAct (X Y : List Int) (c : Int) (w : World) (e : Ending) (w' : World) : Prop :=
  ∃ s' t', e = .returned (.tuple #[.agg #[s', t'], .int .i64 c]) ∧ OwnA w' w.heap.size s' t' ⟨X, Y⟩ ∧ Below w.heap.size w w'
theorem RenumberAction_R (s t v : Value) (S T p X Y : List Int) (c : Int) (w : World) (hR : rnAct S T p = ⟨X, Y⟩) (hC : rnCode S T p = c) (h : SlIn w .i64 s S ∧ SlIn w .i64 t T) (hv : SlIn w .i64 v p) (hl : S.length ≤ 1048576 ∧ T.length ≤ 1048576) (hp : p.length ≤ 1048576) :
    Calls Try.prog 27 #[.agg #[s, t], v] w (GivesAct X Y c w) := by
  subst hC
  have := RenumberAction_any s t v S T p w h hv hl hp
  unfold GivesRn at this
  rw [hR] at this
  exact this
theorem specRenumberAction_R (s t v : Value) (S T p X Y : List Int) (c : Int) (w : World) (hR : rnAct S T p = ⟨X, Y⟩) (hC : rnCode S T p = c) (h : SlIn w .i64 s S ∧ SlIn w .i64 t T) (hv : SlIn w .i64 v p) (hl : S.length ≤ 1048576 ∧ T.length ≤ 1048576) (hp : p.length ≤ 1048576) :
    Calls Try.prog 25 #[.agg #[s, t], v] w (GivesAct X Y c w) := by
  subst hC
  have := specRenumberAction_any s t v S T p w h hv hl hp
  unfold GivesRn at this
  rw [hR] at this
  exact this

end Go.Proofs.Ytamkbgodenkboaa
