/- CyclesOf: both. -/
import Derived.Test.YtamkbgodenkboaaCysS
import Derived.Test.YtamkbgodenkboaaSSW
namespace Go.Proofs.Ytamkbgodenkboaa
open Go.RowKit

def cysR (S T : List Int) : List (List Nat) := if isA S T then cysL (fn T) S.length S.length else []
def cysC (S T : List Int) : Int := if isA S T then 0 else 1
/-- What CyclesOf gives. -/
def GivesCy (css : List (List Nat)) (c : Int) (w : World) (e : Ending) (w' : World) : Prop := ∃ v vs, e = .returned (.tuple #[v, .int .i64 c]) ∧ OwnSS w' w.heap.size v vs css ∧ Below w.heap.size w w'
theorem cysL_all (g : Nat → Nat) (n : Nat) (hg : ∀ a, a < n → g a < n) (hj : Inj g n) (hn : n ≤ 72) (k : Nat) (hk : k ≤ n) : ∀ c ∈ cysL g n k, c.length ≤ 72 := by
  induction k with
  | zero => simp [cysL]
  | succ k ih =>
    intro c hc
    simp only [cysL] at hc
    split at hc
    · rcases List.mem_append.1 hc with h | h
      · exact ih (by omega) c h
      · simp at h
        subst h
        unfold cyL
        rw [cyK_len]
        have := per_le hg hj (i := k) (by omega)
        omega
    · exact ih (by omega) c hc
theorem cysR_ok (S T : List Int) : (cysR S T).length ≤ 72 ∧ ∀ c ∈ cysR S T, c.length ≤ 72 := by
  unfold cysR
  split
  · rename_i h
    have hp := isA_spec h
    have h1 := cysL_len (fn T) S.length S.length
    have h2 := hp.1
    exact ⟨by omega, cysL_all _ _ (fun a h => fn_lt hp.2.2.1 h) (perm_inj hp.2.2.1) hp.1.2 _ (Nat.le_refl _)⟩
  · simp

set_option maxRecDepth 8000 in
set_option maxHeartbeats 1000000 in
theorem CyclesOf_R (s t : Value) (S T : List Int) (css : List (List Nat)) (c : Int) (w : World) (hR : cysR S T = css) (hC : cysC S T = c) (h : SlIn w .i64 s S ∧ SlIn w .i64 t T) (hl : S.length ≤ 1048576 ∧ T.length ≤ 1048576) :
    Calls Try.prog 41 #[.agg #[s, t]] w (GivesCy css c w) := by
  subst hR hC
  have HI := Lib.hid h
  have HL := Lib.hid hl
  obtain ⟨sa, sc, hsa, -⟩ := h.1.form
  obtain ⟨ta, tc, hta, -⟩ := h.2.form
  subst hsa hta
  clear h hl
  cases hq : isA S T with
  | false =>
    have HF := Lib.hid (show cysR S T = [] ∧ cysC S T = 1 by unfold cysR cysC; rw [hq]; exact ⟨rfl, rfl⟩)
    go_enter Try.func41, Try.ntmps41
    go_wp2_with fail
    refine (IsAction_any _ _ S T _ (SlIn2.below HI.out (by repeat (first | (with_reducible exact Below.refl _ _) | (with_reducible assumption) | (with_reducible refine Below.drew ?_) | (with_reducible refine Below.drewN ?_) | ((with_reducible refine Below.al ?_ ?_); · first | omega | (simp; done) | (simp; omega)) | ((with_reducible refine Below.sc ?_ ?_); · first | omega | (simp; done) | (simp; omega)) | ((with_reducible refine Below.thru hb ?_ ?_); · first | omega | (simp; done) | (simp; omega))))) HL.out).mono ?_
    rw [hq]
    clear hq
    rintro e w1 ⟨rfl, hb⟩
    have kw1 : Below w.heap.size w w1 := (by repeat (first | (with_reducible exact Below.refl _ _) | (with_reducible assumption) | (with_reducible refine Below.drew ?_) | (with_reducible refine Below.drewN ?_) | ((with_reducible refine Below.al ?_ ?_); · first | omega | (simp; done) | (simp; omega)) | ((with_reducible refine Below.sc ?_ ?_); · first | omega | (simp; done) | (simp; omega)) | ((with_reducible refine Below.thru hb ?_ ?_); · first | omega | (simp; done) | (simp; omega))))
    clear hb
    go_wp2
    go_ret2
    exact ⟨_, [], by rw [HF.out.2]; rfl, by rw [HF.out.1]; exact ⟨OwnK.nil _ _, trivial⟩, kw1⟩
  | true =>
    have HP := Lib.hid (isA_spec hq)
    have HF := Lib.hid (show cysR S T = cysL (fn T) S.length S.length ∧ cysC S T = 0 by unfold cysR cysC; rw [hq]; exact ⟨rfl, rfl⟩)
    go_enter Try.func41, Try.ntmps41
    go_wp2_with fail
    refine (IsAction_any _ _ S T _ (SlIn2.below HI.out (by repeat (first | (with_reducible exact Below.refl _ _) | (with_reducible assumption) | (with_reducible refine Below.drew ?_) | (with_reducible refine Below.drewN ?_) | ((with_reducible refine Below.al ?_ ?_); · first | omega | (simp; done) | (simp; omega)) | ((with_reducible refine Below.sc ?_ ?_); · first | omega | (simp; done) | (simp; omega)) | ((with_reducible refine Below.thru hb ?_ ?_); · first | omega | (simp; done) | (simp; omega))))) HL.out).mono ?_
    rw [hq]
    clear hq
    rintro e w1 ⟨rfl, hb⟩
    have B1 : Blk w1 w.heap.size 27 #[.slice sa S.length sc, .slice ta T.length tc] := (by repeat (first | (with_reducible assumption) | ((with_reducible refine Blk.new ?_); · first | omega | (simp; done) | (simp; omega)) | (with_reducible apply Blk.set4) | (with_reducible apply Blk.set3) | (with_reducible apply Blk.set2) | ((with_reducible refine Blk.put ?_ ?_); · first | omega | (simp; omega)) | (with_reducible refine Blk.old ?_) | (with_reducible refine Blk.drew ?_) | (with_reducible refine Blk.drewN ?_) | ((with_reducible refine Blk.below hb ?_ ?_); · first | omega | (simp; done) | (simp; omega))))
    have kw1 : Below w.heap.size w w1 := (by repeat (first | (with_reducible exact Below.refl _ _) | (with_reducible assumption) | (with_reducible refine Below.drew ?_) | (with_reducible refine Below.drewN ?_) | ((with_reducible refine Below.al ?_ ?_); · first | omega | (simp; done) | (simp; omega)) | ((with_reducible refine Below.sc ?_ ?_); · first | omega | (simp; done) | (simp; omega)) | ((with_reducible refine Below.thru hb ?_ ?_); · first | omega | (simp; done) | (simp; omega))))
    have c1 := B1.p2
    have sw1 := kw1.size
    clear hb
    go_wp2_with fail
    refine (cycles_any _ _ S T S.length _ (SlIn2.below HI.out kw1) HP.out.2.2.1 HP.out.1.1 HP.out.1.2).mono ?_
    rintro e w2 ⟨v, vs, rfl, O, R, hb⟩
    have kw2 : Below w.heap.size w w2 := (by repeat (first | (with_reducible exact Below.refl _ _) | (with_reducible assumption) | (with_reducible refine Below.drew ?_) | (with_reducible refine Below.drewN ?_) | ((with_reducible refine Below.al ?_ ?_); · first | omega | (simp; done) | (simp; omega)) | ((with_reducible refine Below.sc ?_ ?_); · first | omega | (simp; done) | (simp; omega)) | ((with_reducible refine Below.thru hb ?_ ?_); · first | omega | (simp; done) | (simp; omega))))
    have HO := Lib.hid (show OwnSS w2 w.heap.size v vs (cysL (fn T) S.length S.length) from OwnSS.mono ⟨O, R⟩ (by omega))
    clear hb O R
    go_wp2
    go_ret2
    exact ⟨_, vs, by rw [HF.out.2]; rfl, by rw [HF.out.1]; exact HO.out, kw2⟩

set_option maxRecDepth 8000 in
set_option maxHeartbeats 1000000 in
theorem specCyclesOf_R (s t : Value) (S T : List Int) (css : List (List Nat)) (c : Int) (w : World) (hR : cysR S T = css) (hC : cysC S T = c) (h : SlIn w .i64 s S ∧ SlIn w .i64 t T) (hl : S.length ≤ 1048576 ∧ T.length ≤ 1048576) :
    Calls Try.prog 40 #[.agg #[s, t]] w (GivesCy css c w) := by
  subst hR hC
  have HI := Lib.hid h
  have HL := Lib.hid hl
  obtain ⟨sa, sc, hsa, -⟩ := h.1.form
  obtain ⟨ta, tc, hta, -⟩ := h.2.form
  subst hsa hta
  clear h hl
  cases hq : isA S T with
  | false =>
    have HF := Lib.hid (show cysR S T = [] ∧ cysC S T = 1 by unfold cysR cysC; rw [hq]; exact ⟨rfl, rfl⟩)
    go_enter Try.func40, Try.ntmps40
    go_wp2_with fail
    refine (l10Is_any _ _ S T _ (SlIn2.below HI.out (by repeat (first | (with_reducible exact Below.refl _ _) | (with_reducible assumption) | (with_reducible refine Below.drew ?_) | (with_reducible refine Below.drewN ?_) | ((with_reducible refine Below.al ?_ ?_); · first | omega | (simp; done) | (simp; omega)) | ((with_reducible refine Below.sc ?_ ?_); · first | omega | (simp; done) | (simp; omega)) | ((with_reducible refine Below.thru hb ?_ ?_); · first | omega | (simp; done) | (simp; omega))))) HL.out).mono ?_
    rw [hq]
    clear hq
    rintro e w1 ⟨rfl, hb⟩
    have kw1 : Below w.heap.size w w1 := (by repeat (first | (with_reducible exact Below.refl _ _) | (with_reducible assumption) | (with_reducible refine Below.drew ?_) | (with_reducible refine Below.drewN ?_) | ((with_reducible refine Below.al ?_ ?_); · first | omega | (simp; done) | (simp; omega)) | ((with_reducible refine Below.sc ?_ ?_); · first | omega | (simp; done) | (simp; omega)) | ((with_reducible refine Below.thru hb ?_ ?_); · first | omega | (simp; done) | (simp; omega))))
    clear hb
    go_wp2
    go_ret2
    exact ⟨_, [], by rw [HF.out.2]; rfl, by rw [HF.out.1]; exact ⟨OwnK.nil _ _, trivial⟩, kw1⟩
  | true =>
    have HP := Lib.hid (isA_spec hq)
    have HF := Lib.hid (show cysR S T = cysL (fn T) S.length S.length ∧ cysC S T = 0 by unfold cysR cysC; rw [hq]; exact ⟨rfl, rfl⟩)
    go_enter Try.func40, Try.ntmps40
    go_wp2_with fail
    refine (l10Is_any _ _ S T _ (SlIn2.below HI.out (by repeat (first | (with_reducible exact Below.refl _ _) | (with_reducible assumption) | (with_reducible refine Below.drew ?_) | (with_reducible refine Below.drewN ?_) | ((with_reducible refine Below.al ?_ ?_); · first | omega | (simp; done) | (simp; omega)) | ((with_reducible refine Below.sc ?_ ?_); · first | omega | (simp; done) | (simp; omega)) | ((with_reducible refine Below.thru hb ?_ ?_); · first | omega | (simp; done) | (simp; omega))))) HL.out).mono ?_
    rw [hq]
    clear hq
    rintro e w1 ⟨rfl, hb⟩
    have B1 : Blk w1 w.heap.size 27 #[.slice sa S.length sc, .slice ta T.length tc] := (by repeat (first | (with_reducible assumption) | ((with_reducible refine Blk.new ?_); · first | omega | (simp; done) | (simp; omega)) | (with_reducible apply Blk.set4) | (with_reducible apply Blk.set3) | (with_reducible apply Blk.set2) | ((with_reducible refine Blk.put ?_ ?_); · first | omega | (simp; omega)) | (with_reducible refine Blk.old ?_) | (with_reducible refine Blk.drew ?_) | (with_reducible refine Blk.drewN ?_) | ((with_reducible refine Blk.below hb ?_ ?_); · first | omega | (simp; done) | (simp; omega))))
    have kw1 : Below w.heap.size w w1 := (by repeat (first | (with_reducible exact Below.refl _ _) | (with_reducible assumption) | (with_reducible refine Below.drew ?_) | (with_reducible refine Below.drewN ?_) | ((with_reducible refine Below.al ?_ ?_); · first | omega | (simp; done) | (simp; omega)) | ((with_reducible refine Below.sc ?_ ?_); · first | omega | (simp; done) | (simp; omega)) | ((with_reducible refine Below.thru hb ?_ ?_); · first | omega | (simp; done) | (simp; omega))))
    have c1 := B1.p2
    have sw1 := kw1.size
    clear hb
    go_wp2_with fail
    refine (l10Cycles_any _ _ S T S.length _ (SlIn2.below HI.out kw1) HP.out.2.2.1 HP.out.1.1 HP.out.1.2).mono ?_
    rintro e w2 ⟨v, vs, rfl, O, R, hb⟩
    have kw2 : Below w.heap.size w w2 := (by repeat (first | (with_reducible exact Below.refl _ _) | (with_reducible assumption) | (with_reducible refine Below.drew ?_) | (with_reducible refine Below.drewN ?_) | ((with_reducible refine Below.al ?_ ?_); · first | omega | (simp; done) | (simp; omega)) | ((with_reducible refine Below.sc ?_ ?_); · first | omega | (simp; done) | (simp; omega)) | ((with_reducible refine Below.thru hb ?_ ?_); · first | omega | (simp; done) | (simp; omega))))
    have HO := Lib.hid (show OwnSS w2 w.heap.size v vs (cysL (fn T) S.length S.length) from OwnSS.mono ⟨O, R⟩ (by omega))
    clear hb O R
    go_wp2
    go_ret2
    exact ⟨_, vs, by rw [HF.out.2]; rfl, by rw [HF.out.1]; exact HO.out, kw2⟩

end Go.Proofs.Ytamkbgodenkboaa
