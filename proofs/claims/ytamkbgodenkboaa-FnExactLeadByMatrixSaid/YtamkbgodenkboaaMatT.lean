/- LeadByMatrix of the reference. -/
import Derived.Test.YtamkbgodenkboaaMatS
namespace Go.Proofs.Ytamkbgodenkboaa
open Go.RowKit

set_option maxRecDepth 8000 in
set_option maxHeartbeats 1000000 in
theorem specLeadByMatrix_any (s t : Value) (S T : List Int) (m : M) (i : Int) (w : World) (h : SlIn w .i64 s S ∧ SlIn w .i64 t T) (hl : S.length ≤ 1048576 ∧ T.length ≤ 1048576) :
    Calls Try.prog 47 #[.agg #[s, t], .agg #[.int .i64 m.a, .int .i64 m.b, .int .i64 m.c, .int .i64 m.d], .int .i64 i] w fun e w' => ∃ r, e = .returned (.tuple #[.int .i64 r.1, .int .i64 r.2]) ∧ LeadM S T m i r ∧ Below w.heap.size w w' := by
  have HI := Lib.hid h
  have HL := Lib.hid hl
  obtain ⟨sa, sc, hsa, -⟩ := h.1.form
  obtain ⟨ta, tc, hta, -⟩ := h.2.form
  subst hsa hta
  clear h hl
  cases hm : m.ok with
  | false =>
    have HF := Lib.hid (show LeadM S T m i (0, 1) by unfold LeadM; rw [hm, Bool.and_false]; exact ⟨fun _ => rfl, fun h => by simp at h, fun h => by simp at h⟩)
    go_enter Try.func47, Try.ntmps47
    go_wp2_with fail
    refine (l01Is_any m _).mono ?_
    rw [hm]
    clear hm
    rintro e w2 ⟨rfl, hb⟩
    have kw2 : Below w.heap.size w w2 := (by repeat (first | (with_reducible exact Below.refl _ _) | (with_reducible assumption) | (with_reducible refine Below.drew ?_) | (with_reducible refine Below.drewN ?_) | ((with_reducible refine Below.al ?_ ?_); · first | omega | (simp; done) | (simp; omega)) | ((with_reducible refine Below.sc ?_ ?_); · first | omega | (simp; done) | (simp; omega)) | ((with_reducible refine Below.thru hb ?_ ?_); · first | omega | (simp; done) | (simp; omega))))
    clear hb
    go_wp2
    go_ret2
    exact ⟨(0, 1), rfl, HF.out, kw2⟩
  | true =>
    have HCH := Lib.hid (M.ok_ch hm)
    by_cases hc : formCode S T i = 0
    · have hq : isA S T = true := by
        cases hq : isA S T with
        | true => rfl
        | false => unfold formCode at hc; rw [hq] at hc; simp at hc
      have hp : ptB i S.length = true := by
        cases hp : ptB i S.length with
        | true => rfl
        | false => unfold formCode at hc; rw [hq, hp] at hc; simp at hc
      have HP := Lib.hid (isA_spec hq)
      have HLM := Lib.hid (show (isA S T && m.ok) = true by rw [hq, hm]; rfl)
      have HC := Lib.hid hc
      obtain ⟨p, hpi⟩ : ∃ p : Nat, i = (p : Int) := ⟨i.toNat, by unfold ptB at hp; have := inB_true hp; omega⟩
      have hpn : p < S.length := by unfold ptB at hp; have := inB_true hp; omega
      subst hpi
      have HR := Lib.hid (fun k (hk : ChEnds m k) => (show LeadM S T m (p : Int) ((ldAt S T S.length (chL m k) p (chL m k).length : Int), 0) from ⟨fun h => by rw [HLM.out] at h; simp at h, fun _ h => by rw [hp] at h; simp at h, fun _ _ => ⟨k, hk, rfl⟩⟩))
      clear hq hp hc
      go_enter Try.func47, Try.ntmps47
      go_wp2_with fail
      refine (l01Is_any m _).mono ?_
      rw [hm]
      clear hm
      rintro e w2 ⟨rfl, hb⟩
      have B2 : Blk w2 w.heap.size 27 #[.slice sa S.length sc, .slice ta T.length tc] := (by repeat (first | (with_reducible assumption) | ((with_reducible refine Blk.new ?_); · first | omega | (simp; done) | (simp; omega)) | (with_reducible apply Blk.set4) | (with_reducible apply Blk.set3) | (with_reducible apply Blk.set2) | ((with_reducible refine Blk.put ?_ ?_); · first | omega | (simp; omega)) | (with_reducible refine Blk.old ?_) | (with_reducible refine Blk.drew ?_) | (with_reducible refine Blk.drewN ?_) | ((with_reducible refine Blk.below hb ?_ ?_); · first | omega | (simp; done) | (simp; omega))))
      have M2 : Blk w2 (w.heap.size + 1) 58 (mcs m) := (by repeat (first | (with_reducible assumption) | ((with_reducible refine Blk.new ?_); · first | omega | (simp; done) | (simp; omega)) | (with_reducible apply Blk.set4) | (with_reducible apply Blk.set3) | (with_reducible apply Blk.set2) | ((with_reducible refine Blk.put ?_ ?_); · first | omega | (simp; omega)) | (with_reducible refine Blk.old ?_) | (with_reducible refine Blk.drew ?_) | (with_reducible refine Blk.drewN ?_) | ((with_reducible refine Blk.below hb ?_ ?_); · first | omega | (simp; done) | (simp; omega))))
      have kw2 : Below w.heap.size w w2 := (by repeat (first | (with_reducible exact Below.refl _ _) | (with_reducible assumption) | (with_reducible refine Below.drew ?_) | (with_reducible refine Below.drewN ?_) | ((with_reducible refine Below.al ?_ ?_); · first | omega | (simp; done) | (simp; omega)) | ((with_reducible refine Below.sc ?_ ?_); · first | omega | (simp; done) | (simp; omega)) | ((with_reducible refine Below.thru hb ?_ ?_); · first | omega | (simp; done) | (simp; omega))))
      have sw2 := kw2.size
      have b2 := B2.p2
      have lB2 := B2.lt
      have lM2 := M2.lt
      clear hb
      go_wp2_with fail
      refine (l10Code_any _ _ S T (p : Int) _ (SlIn2.below HI.out (by repeat (first | (with_reducible exact Below.refl _ _) | (with_reducible assumption) | (with_reducible refine Below.drew ?_) | (with_reducible refine Below.drewN ?_) | ((with_reducible refine Below.al ?_ ?_); · first | omega | (simp; done) | (simp; omega)) | ((with_reducible refine Below.sc ?_ ?_); · first | omega | (simp; done) | (simp; omega)) | ((with_reducible refine Below.thru hb ?_ ?_); · first | omega | (simp; done) | (simp; omega))))) HL.out).mono ?_
      rw [HC.out]
      rintro e w3 ⟨rfl, hb⟩
      have B3 : Blk w3 w.heap.size 27 #[.slice sa S.length sc, .slice ta T.length tc] := (by repeat (first | (with_reducible assumption) | ((with_reducible refine Blk.new ?_); · first | omega | (simp; done) | (simp; omega)) | (with_reducible apply Blk.set4) | (with_reducible apply Blk.set3) | (with_reducible apply Blk.set2) | ((with_reducible refine Blk.put ?_ ?_); · first | omega | (simp; omega)) | (with_reducible refine Blk.old ?_) | (with_reducible refine Blk.drew ?_) | (with_reducible refine Blk.drewN ?_) | ((with_reducible refine Blk.below hb ?_ ?_); · first | omega | (simp; done) | (simp; omega))))
      have M3 : Blk w3 (w.heap.size + 1) 58 (mcs m) := (by repeat (first | (with_reducible assumption) | ((with_reducible refine Blk.new ?_); · first | omega | (simp; done) | (simp; omega)) | (with_reducible apply Blk.set4) | (with_reducible apply Blk.set3) | (with_reducible apply Blk.set2) | ((with_reducible refine Blk.put ?_ ?_); · first | omega | (simp; omega)) | (with_reducible refine Blk.old ?_) | (with_reducible refine Blk.drew ?_) | (with_reducible refine Blk.drewN ?_) | ((with_reducible refine Blk.below hb ?_ ?_); · first | omega | (simp; done) | (simp; omega))))
      have kw3 : Below w.heap.size w w3 := (by repeat (first | (with_reducible exact Below.refl _ _) | (with_reducible assumption) | (with_reducible refine Below.drew ?_) | (with_reducible refine Below.drewN ?_) | ((with_reducible refine Below.al ?_ ?_); · first | omega | (simp; done) | (simp; omega)) | ((with_reducible refine Below.sc ?_ ?_); · first | omega | (simp; done) | (simp; omega)) | ((with_reducible refine Below.thru hb ?_ ?_); · first | omega | (simp; done) | (simp; omega))))
      have sw3 := kw3.size
      have b3 := B3.p2
      have q3 := M3.m
      clear hb B2 M2 b2 kw2
      go_wp2_with fail
      refine (l10Lead_any _ _ S T m S.length p _ (SlIn2.below HI.out (by repeat (first | (with_reducible exact Below.refl _ _) | (with_reducible assumption) | (with_reducible refine Below.drew ?_) | (with_reducible refine Below.drewN ?_) | ((with_reducible refine Below.al ?_ ?_); · first | omega | (simp; done) | (simp; omega)) | ((with_reducible refine Below.sc ?_ ?_); · first | omega | (simp; done) | (simp; omega)) | ((with_reducible refine Below.thru hb ?_ ?_); · first | omega | (simp; done) | (simp; omega))))) HP.out.2.1 HP.out.2.2.1 hpn HP.out.1.2 HCH.out).mono ?_
      rintro e w4 ⟨k, rfl, hk, hb⟩
      have HRK := Lib.hid (HR.out k hk)
      have kw4 : Below w.heap.size w w4 := (by repeat (first | (with_reducible exact Below.refl _ _) | (with_reducible assumption) | (with_reducible refine Below.drew ?_) | (with_reducible refine Below.drewN ?_) | ((with_reducible refine Below.al ?_ ?_); · first | omega | (simp; done) | (simp; omega)) | ((with_reducible refine Below.sc ?_ ?_); · first | omega | (simp; done) | (simp; omega)) | ((with_reducible refine Below.thru hb ?_ ?_); · first | omega | (simp; done) | (simp; omega))))
      clear hb
      go_wp2
      go_ret2
      exact ⟨_, rfl, HRK.out, kw4⟩
    · have HF := Lib.hid (show LeadM S T m i (0, formCode S T i) by
        unfold LeadM
        refine ⟨fun h => ?_, fun h1 h2 => ?_, fun h1 h2 => ?_⟩
        · rw [hm, Bool.and_true] at h
          unfold formCode; rw [h]; rfl
        · rw [hm, Bool.and_true] at h1
          unfold formCode; rw [h1, h2]; rfl
        · rw [hm, Bool.and_true] at h1
          unfold formCode at hc; rw [h1, h2] at hc; exact absurd rfl hc)
      generalize hfc : formCode S T i = c at *
      have HC := Lib.hid hfc
      clear hfc
      go_enter Try.func47, Try.ntmps47
      go_wp2_with fail
      refine (l01Is_any m _).mono ?_
      rw [hm]
      clear hm
      rintro e w2 ⟨rfl, hb⟩
      have B2 : Blk w2 w.heap.size 27 #[.slice sa S.length sc, .slice ta T.length tc] := (by repeat (first | (with_reducible assumption) | ((with_reducible refine Blk.new ?_); · first | omega | (simp; done) | (simp; omega)) | (with_reducible apply Blk.set4) | (with_reducible apply Blk.set3) | (with_reducible apply Blk.set2) | ((with_reducible refine Blk.put ?_ ?_); · first | omega | (simp; omega)) | (with_reducible refine Blk.old ?_) | (with_reducible refine Blk.drew ?_) | (with_reducible refine Blk.drewN ?_) | ((with_reducible refine Blk.below hb ?_ ?_); · first | omega | (simp; done) | (simp; omega))))
      have kw2 : Below w.heap.size w w2 := (by repeat (first | (with_reducible exact Below.refl _ _) | (with_reducible assumption) | (with_reducible refine Below.drew ?_) | (with_reducible refine Below.drewN ?_) | ((with_reducible refine Below.al ?_ ?_); · first | omega | (simp; done) | (simp; omega)) | ((with_reducible refine Below.sc ?_ ?_); · first | omega | (simp; done) | (simp; omega)) | ((with_reducible refine Below.thru hb ?_ ?_); · first | omega | (simp; done) | (simp; omega))))
      have sw2 := kw2.size
      have b2 := B2.p2
      clear hb
      go_wp2_with fail
      refine (l10Code_any _ _ S T i _ (SlIn2.below HI.out (by repeat (first | (with_reducible exact Below.refl _ _) | (with_reducible assumption) | (with_reducible refine Below.drew ?_) | (with_reducible refine Below.drewN ?_) | ((with_reducible refine Below.al ?_ ?_); · first | omega | (simp; done) | (simp; omega)) | ((with_reducible refine Below.sc ?_ ?_); · first | omega | (simp; done) | (simp; omega)) | ((with_reducible refine Below.thru hb ?_ ?_); · first | omega | (simp; done) | (simp; omega))))) HL.out).mono ?_
      rw [HC.out]
      rintro e w3 ⟨rfl, hb⟩
      have kw3 : Below w.heap.size w w3 := (by repeat (first | (with_reducible exact Below.refl _ _) | (with_reducible assumption) | (with_reducible refine Below.drew ?_) | (with_reducible refine Below.drewN ?_) | ((with_reducible refine Below.al ?_ ?_); · first | omega | (simp; done) | (simp; omega)) | ((with_reducible refine Below.sc ?_ ?_); · first | omega | (simp; done) | (simp; omega)) | ((with_reducible refine Below.thru hb ?_ ?_); · first | omega | (simp; done) | (simp; omega))))
      clear hb
      go_wp2
      go_ret2
      exact ⟨(0, c), rfl, HF.out, kw3⟩

end Go.Proofs.Ytamkbgodenkboaa
