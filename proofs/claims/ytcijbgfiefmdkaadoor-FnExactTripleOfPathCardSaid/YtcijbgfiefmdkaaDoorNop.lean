/- NumberOfPath: both walks. -/
import Derived.Test.YtcijbgfiefmdkaaDoorWFnExactWordOfPath
import Derived.Test.YtcijbgfiefmdkaaDoorMol
namespace Go.Proofs.YtcijbgfiefmdkaaDoor
open Go.RowKit
open Go.Proofs.YtcijbgfiefmdkaaDoor.PFnExactWordOfPath Go.Proofs.YtcijbgfiefmdkaaDoorW.PrintWords
set_option linter.unusedSimpArgs false

/-- All letters are a or b. -/
def abS (s : ByteArray) : Prop := ∀ c ∈ s.data.toList, c = 97 ∨ c = 98
theorem abS.all {s : ByteArray} (h : abS s) : allIn s [97, 98] = true := by
  unfold allIn
  rw [List.all_eq_true]
  intro c hc
  rcases h c hc with rfl | rfl <;> rfl
theorem abS.append {s t : ByteArray} (h : abS s) (k : abS t) : abS (s ++ t) := by
  intro c hc
  rw [ByteArray.data_append, Array.toList_append, List.mem_append] at hc
  rcases hc with hc | hc
  · exact h c hc
  · exact k c hc
theorem wrds_ab (s : ByteArray) (k : Nat) : abS (wrds s k).1 ∧ abS (wrds s k).2 := by
  induction k with
  | zero => exact ⟨fun c hc => .inl (by simpa [wrds] using hc), fun c hc => .inr (by simpa [wrds] using hc)⟩
  | succ k ih =>
    simp only [wrds]
    split
    · exact ⟨ih.1, ih.1.append ih.2⟩
    · exact ⟨ih.1.append ih.2, ih.2⟩
theorem abS_empty : abS ⟨#[]⟩ := fun c hc => by simp at hc
theorem pairR_ab (s : ByteArray) : abS (pairR s).1 ∧ abS (pairR s).2.1 := by
  unfold pairR
  split
  · exact ⟨abS_empty, abS_empty⟩
  · split
    · exact ⟨abS_empty, abS_empty⟩
    · split
      · exact ⟨abS_empty, abS_empty⟩
      · exact wrds_ab s s.size
theorem wordR_ab (s : ByteArray) : abS (wordR s) := (pairR_ab s).1.append (pairR_ab s).2
theorem wordR_size (s : ByteArray) : (wordR s).size ≤ 400 := by
  unfold wordR
  rw [ByteArray.size_append]
  exact pairR_size s
/-- What NumberOfPath gives. -/
def nopR (s : ByteArray) : Int × Int := if (pairR s).2.2 = 0 then (match matR (wordR s) with | some m => (m.b, 0) | none => (0, 3)) else (0, (pairR s).2.2)
theorem nopR_ok {s : ByteArray} {r : M} {c : Int} (h : (pairR s).2.2 = 0) (hp : prodRes (matR (wordR s)) = .tuple #[mv r, .int .i64 c]) : nopR s = (r.b, c) := by
  unfold nopR
  rw [if_pos h]
  cases hm : matR (wordR s) with
  | some m =>
    rw [hm] at hp
    simp only [prodRes, Value.tuple.injEq, Array.mk.injEq, List.cons.injEq, Value.agg.injEq, Value.int.injEq, true_and, and_true] at hp
    simp only
    rw [hp.1.2.1, hp.2]
  | none =>
    rw [hm] at hp
    simp only [prodRes, Value.tuple.injEq, Array.mk.injEq, List.cons.injEq, Value.agg.injEq, Value.int.injEq, true_and, and_true] at hp
    simp only
    rw [← hp.1.2.1, ← hp.2]

set_option maxRecDepth 8000 in
set_option maxHeartbeats 2000000 in
theorem NumberOfPath_any (s : ByteArray) (w : World) (hs : s.size ≤ 1048576) : Calls Tryd.prog 13 #[.string s] w fun e w' => e = .returned (.tuple #[.int .i64 (nopR s).1, .int .i64 (nopR s).2]) ∧ Below w.heap.size w w' := by
  have HW := Lib.hid (fun w' : World => WordOfPath_any s w' hs)
  by_cases h0 : (pairR s).2.2 = 0
  · have HO := Lib.hid (fun w' : World => ofLetters_any (wordR s) w' (wordR_size s) (wordR_ab s).all)
    obtain ⟨r, c, hrc⟩ := prodRes_form (matR (wordR s))
    have HN := Lib.hid (nopR_ok h0 hrc)
    rw [hrc] at HO
    rw [h0] at HW
    clear hrc h0
    generalize wordR s = wd at *
    go_enter Tryd.func13, Tryd.ntmps13
    go_wp2_with fail
    refine (HW.out _).mono ?_
    rintro e w1 ⟨rfl, hb⟩
    have k1 : Below w.heap.size w w1 := (by repeat (first | (with_reducible exact Below.refl _ _) | (with_reducible assumption) | (with_reducible refine Below.drew ?_) | (with_reducible refine Below.drewN ?_) | ((with_reducible refine Below.al ?_ ?_); · first | omega | (simp; done) | (simp; omega)) | ((with_reducible refine Below.sc ?_ ?_); · first | omega | (simp; done) | (simp; omega)) | ((with_reducible refine Below.thru hb ?_ ?_); · first | omega | (simp; done) | (simp; omega))))
    have s1 := k1.size
    clear hb
    go_wp2_with fail
    refine (HO.out _).mono ?_
    rintro e w2 ⟨rfl, hb⟩
    have k2 : Below w.heap.size w w2 := (by repeat (first | (with_reducible exact Below.refl _ _) | (with_reducible assumption) | (with_reducible refine Below.drew ?_) | (with_reducible refine Below.drewN ?_) | ((with_reducible refine Below.al ?_ ?_); · first | omega | (simp; done) | (simp; omega)) | ((with_reducible refine Below.sc ?_ ?_); · first | omega | (simp; done) | (simp; omega)) | ((with_reducible refine Below.thru hb ?_ ?_); · first | omega | (simp; done) | (simp; omega))))
    have s2 := k2.size
    have hbs := hb.size
    try simp at hbs
    clear hb
    go_wp2
    go_ret2
    exact ⟨by rw [HN.out]; rfl, (by repeat (first | (with_reducible exact Below.refl _ _) | (with_reducible assumption) | (with_reducible refine Below.drew ?_) | (with_reducible refine Below.drewN ?_) | ((with_reducible refine Below.al ?_ ?_); · first | omega | (simp; done) | (simp; omega)) | ((with_reducible refine Below.sc ?_ ?_); · first | omega | (simp; done) | (simp; omega)) | ((with_reducible refine Below.thru hb ?_ ?_); · first | omega | (simp; done) | (simp; omega))))⟩
  · have HN := Lib.hid (show nopR s = (0, (pairR s).2.2) by unfold nopR; rw [if_neg h0])
    obtain ⟨c, hc⟩ : ∃ c, (pairR s).2.2 = c := ⟨_, rfl⟩
    rw [hc] at HN h0 HW
    clear hc
    generalize wordR s = wd at *
    go_enter Tryd.func13, Tryd.ntmps13
    go_wp2_with fail
    refine (HW.out _).mono ?_
    rintro e w1 ⟨rfl, hb⟩
    have k1 : Below w.heap.size w w1 := (by repeat (first | (with_reducible exact Below.refl _ _) | (with_reducible assumption) | (with_reducible refine Below.drew ?_) | (with_reducible refine Below.drewN ?_) | ((with_reducible refine Below.al ?_ ?_); · first | omega | (simp; done) | (simp; omega)) | ((with_reducible refine Below.sc ?_ ?_); · first | omega | (simp; done) | (simp; omega)) | ((with_reducible refine Below.thru hb ?_ ?_); · first | omega | (simp; done) | (simp; omega))))
    clear hb
    go_wp2
    go_ret2
    exact ⟨by rw [HN.out]; rfl, k1⟩

set_option maxRecDepth 8000 in
set_option maxHeartbeats 2000000 in
theorem specNumberOfPath_any (s : ByteArray) (w : World) (_ : s.size ≤ 1048576) : Calls Tryd.prog 12 #[.string s] w fun e w' => e = .returned (.tuple #[.int .i64 (nopR s).1, .int .i64 (nopR s).2]) ∧ Below w.heap.size w w' := by
  have HW := Lib.hid (fun w' : World => spec_l09Pair.calls 64 s (pairR s).1 (pairR s).2.1 (pairR s).2.2 w' (pair_f s))
  have hsz := pairR_size s
  by_cases h0 : (pairR s).2.2 = 0
  · have HO := Lib.hid (fun w' : World => l09Matrix_any (wordR s) w' (wordR_size s))
    obtain ⟨r, c, hrc⟩ := prodRes_form (matR (wordR s))
    have HN := Lib.hid (nopR_ok h0 hrc)
    rw [hrc] at HO
    have HE := Lib.hid (show wordR s = (pairR s).1 ++ (pairR s).2.1 from rfl)
    rw [HE.out] at HO
    clear hrc HE
    generalize pairR s = p at *
    obtain ⟨u, v, pc⟩ := p
    simp only at HO hsz HW h0
    subst h0
    have hlt : ¬ 9223372036854775807 < u.size + v.size := by omega
    go_enter Tryd.func12, Tryd.ntmps12
    go_wp2_with fail
    refine (HW.out _).mono ?_
    rintro e w1 ⟨rfl, hd⟩
    have hb := hd.below
    have k1 : Below w.heap.size w w1 := (by repeat (first | (with_reducible exact Below.refl _ _) | (with_reducible assumption) | (with_reducible refine Below.drew ?_) | (with_reducible refine Below.drewN ?_) | ((with_reducible refine Below.al ?_ ?_); · first | omega | (simp; done) | (simp; omega)) | ((with_reducible refine Below.sc ?_ ?_); · first | omega | (simp; done) | (simp; omega)) | ((with_reducible refine Below.thru hb ?_ ?_); · first | omega | (simp; done) | (simp; omega))))
    have s1 := k1.size
    clear hb hd
    go_wp2_with fail
    refine (HO.out _).mono ?_
    rintro e w2 ⟨rfl, hb⟩
    have k2 : Below w.heap.size w w2 := (by repeat (first | (with_reducible exact Below.refl _ _) | (with_reducible assumption) | (with_reducible refine Below.drew ?_) | (with_reducible refine Below.drewN ?_) | ((with_reducible refine Below.al ?_ ?_); · first | omega | (simp; done) | (simp; omega)) | ((with_reducible refine Below.sc ?_ ?_); · first | omega | (simp; done) | (simp; omega)) | ((with_reducible refine Below.thru hb ?_ ?_); · first | omega | (simp; done) | (simp; omega))))
    have s2 := k2.size
    have hbs := hb.size
    try simp at hbs
    clear hb
    go_wp2
    go_ret2
    exact ⟨by rw [HN.out]; rfl, (by repeat (first | (with_reducible exact Below.refl _ _) | (with_reducible assumption) | (with_reducible refine Below.drew ?_) | (with_reducible refine Below.drewN ?_) | ((with_reducible refine Below.al ?_ ?_); · first | omega | (simp; done) | (simp; omega)) | ((with_reducible refine Below.sc ?_ ?_); · first | omega | (simp; done) | (simp; omega)) | ((with_reducible refine Below.thru hb ?_ ?_); · first | omega | (simp; done) | (simp; omega))))⟩
  · have HN := Lib.hid (show nopR s = (0, (pairR s).2.2) by unfold nopR; rw [if_neg h0])
    generalize pairR s = p at *
    obtain ⟨u, v, pc⟩ := p
    simp only at hsz HW h0 HN
    go_enter Tryd.func12, Tryd.ntmps12
    go_wp2_with fail
    refine (HW.out _).mono ?_
    rintro e w1 ⟨rfl, hd⟩
    have hb := hd.below
    have k1 : Below w.heap.size w w1 := (by repeat (first | (with_reducible exact Below.refl _ _) | (with_reducible assumption) | (with_reducible refine Below.drew ?_) | (with_reducible refine Below.drewN ?_) | ((with_reducible refine Below.al ?_ ?_); · first | omega | (simp; done) | (simp; omega)) | ((with_reducible refine Below.sc ?_ ?_); · first | omega | (simp; done) | (simp; omega)) | ((with_reducible refine Below.thru hb ?_ ?_); · first | omega | (simp; done) | (simp; omega))))
    clear hb hd
    go_wp2
    go_ret2
    exact ⟨by rw [HN.out]; rfl, k1⟩

end Go.Proofs.YtcijbgfiefmdkaaDoor
