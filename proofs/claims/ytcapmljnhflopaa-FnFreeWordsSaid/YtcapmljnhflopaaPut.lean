/- A letter put to a free word: both contracts. -/
import Derived.Test.YtcapmljnhflopaaFree
import Derived.Test.YtcapmljnhflopaaRow
import Derived.Test.YtcapmljnhflopaaPFreeWordx1
import Derived.Test.YtcapmljnhflopaaPl02Freex1
namespace Go.Proofs.Ytcapmljnhflopaa
open Go.RowKit
open Go.Proofs.Ytcapmljnhflopaa.PFreeWord Go.Proofs.Ytcapmljnhflopaa.Pl02Free Go.Proofs.YtcapmljnhflopaaW.PrintWords
set_option linter.unusedSimpArgs false

def encB : Enc UInt8 := ⟨1, fun b => [.int .u8 b.toNat], fun _ => rfl, by decide, fun x u hu => by simp at hu; subst hu; rfl⟩
def tI (b : UInt8) : Int := (b.toNat : Int)
theorem tI_inj {a b : UInt8} : tI a = tI b ↔ a = b := by
  unfold tI
  constructor
  · intro h; exact UInt8.toNat_inj.1 (by omega)
  · rintro rfl; rfl
theorem kd_of {w : World} {B : Nat} {v : Value} {l : List UInt8} (h : OwnK encB 5 w B v l) : Kd.R (Kd.int .u8) 5 w B (fun _ => True) v (l.map tI) := by
  refine ⟨fun _ _ => trivial, l.flatMap encB.enc, ?_, ?_, ?_⟩
  · rw [List.length_map]; exact h
  · rw [flat_len, List.length_map]; rfl
  · intro j p hp
    have hj : j < l.length := by have := (List.getElem?_eq_some_iff.1 hp).1; simpa using this
    have e : l[j]? = some l[j] := List.getElem?_eq_getElem hj
    have hp2 : p = tI l[j] := by
      rw [List.getElem?_map, e] at hp
      simpa using hp.symm
    have e2 := flat_get encB l j 0 l[j] (.int .u8 (tI l[j])) e rfl
    show List.take 1 (List.drop (j * 1) _) = [Value.int .u8 p]
    rw [hp2]
    have hlt : j * 1 < (l.flatMap encB.enc).length := by rw [flat_len]; show j * 1 < l.length * 1; omega
    rw [List.drop_eq_getElem_cons hlt]
    have e3 : (l.flatMap encB.enc)[j * 1]? = some (.int .u8 (tI l[j])) := e2
    rw [List.getElem?_eq_getElem hlt] at e3
    rw [Option.some.inj e3]
    rfl
theorem of_kd {w : World} {B : Nat} {P : Nat → Prop} {v : Value} {l : List UInt8} (h : Kd.R (Kd.int .u8) 5 w B P v (l.map tI)) : OwnK encB 5 w B v l := by
  obtain ⟨-, inner, h1, h2, h3⟩ := h
  rw [List.length_map] at h1 h2
  have hin : inner = l.flatMap encB.enc := by
    apply List.ext_getElem?
    intro j
    by_cases hj : j < l.length
    · have e : l[j]? = some l[j] := List.getElem?_eq_getElem hj
      have e2 := flat_get encB l j 0 l[j] (.int .u8 (tI l[j])) e rfl
      have e3 : (l.flatMap encB.enc)[j]? = some (.int .u8 (tI l[j])) := by
        rw [← e2]; show _ = (l.flatMap encB.enc)[j * 1 + 0]?; rw [Nat.mul_one, Nat.add_zero]
      rw [e3]
      have h4 := h3 j (tI l[j]) (by rw [List.getElem?_map, e]; rfl)
      have h5 : List.take 1 (List.drop (j * 1) inner) = [Value.int .u8 (tI l[j])] := h4
      rw [Nat.mul_one] at h5
      have hlt : j < inner.length := by rw [h2]; show j < l.length * 1; omega
      rw [List.drop_eq_getElem_cons hlt] at h5
      simp only [List.take_succ_cons, List.take_zero, List.cons.injEq, and_true] at h5
      rw [List.getElem?_eq_getElem hlt, h5]
    · have h4 : inner.length ≤ j := by rw [h2]; show l.length * 1 ≤ j; omega
      rw [List.getElem?_eq_none h4, List.getElem?_eq_none (by rw [flat_len]; show l.length * 1 ≤ j; omega)]
  subst hin
  exact h1

theorem rd_last (z : List UInt8) (x : UInt8) : rd ((z ++ [x]).map tI) (z.length : Int) = tI x := by
  unfold rd
  rw [Int.toNat_natCast, List.getD, List.map_append, List.getElem?_append_right (by simp)]
  simp
theorem beq_tI (x : UInt8) : (tI x == 83) = (x == 83) := by
  rw [Bool.eq_iff_iff, beq_iff_eq, beq_iff_eq]
  exact tI_inj (b := 83)
theorem take_last (z : List UInt8) (x : UInt8) : ((z ++ [x]).map tI).take z.length = z.map tI := by
  rw [List.map_append, List.take_append_of_le_length (by simp), List.take_of_length_le (by simp)]
theorem bne_tI (x b : UInt8) : (tI x != tI b) = decide (x ≠ b) := by
  rw [Bool.eq_iff_iff, bne_iff_ne, decide_eq_true_iff, ne_eq, tI_inj]

theorem implPut_f (l : List UInt8) (b : UInt8) (hl : l.length < 1000000) : impl_put.f 3 (l.map tI) (tI b) = some ((putL l b).map tI) := by
  rcases List.eq_nil_or_concat l with rfl | ⟨z, x, rfl⟩
  · simp [impl_put.f, impl_put.j0, putL_nil]
  · rw [List.concat_eq_append] at *
    rw [List.length_append, List.length_singleton] at hl
    have h1 : wrap64 (((z ++ [x]).map tI).length - 1 : Int) = (z.length : Int) := by
      rw [List.length_map, List.length_append]; unfold wrap64; simp; omega
    have h2 : ((z ++ [x]).map tI).length = z.length + 1 := by simp
    rw [putL_snoc]
    unfold impl_put.f
    rw [if_neg (by rw [h2]; omega), h1, if_pos (by omega), if_pos (by rw [h2]; omega), rd_last, beq_tI, beq_tI]
    simp only [impl_put.j0]
    rw [h1]
    cases hc : ((x == 83) != (b == 83)) with
    | true =>
      rw [if_pos rfl, if_pos (by rw [h2]; omega), if_pos rfl]
      simp
    | false =>
      rw [if_neg Bool.false_ne_true, if_pos (by omega), if_pos (by rw [h2]; omega), if_pos (by rw [h2]; omega), if_neg Bool.false_ne_true]
      simp only [Int.toNat_natCast, Option.bind_some]
      rw [take_last, rd_last, bne_tI]
      by_cases h83 : b = 83
      · subst h83
        rw [if_pos (show tI 83 = 83 from rfl), if_pos (.inl rfl)]
        simp [impl_put.j1]
      · rw [if_neg (show ¬ tI b = 83 from fun e => h83 (tI_inj.1 (show tI b = tI 83 from e)))]
        simp only [impl_put.j1]
        by_cases hx : x = b
        · subst hx
          have hn : ¬ (x = 83 ∨ x ≠ x) := fun h => by rcases h with h | h; exact h83 h; exact h rfl
          have hd : decide (x ≠ x) = false := by simp
          have hz : (z.map tI).length < 140737488355328 := by rw [List.length_map]; omega
          rw [hd, if_neg Bool.false_ne_true, if_neg hn]
          by_cases h85 : x = 85
          · have h85' : tI x = 85 := by rw [h85]; rfl
            rw [if_pos h85', if_pos hz, if_pos h85]
            simp [tI]
          · have h85' : ¬ tI x = 85 := fun e => h85 (tI_inj.1 (show tI x = tI 85 from e))
            rw [if_neg h85', if_pos hz, if_neg h85]
            simp [tI]
        · rw [if_pos (by simpa using hx), if_pos (.inr hx)]
theorem specPut_f (l : List UInt8) (b : UInt8) (hl : l.length < 1000000) : spec_l02Put.f 3 (l.map tI) (tI b) = some ((putL l b).map tI) := by
  rcases List.eq_nil_or_concat l with rfl | ⟨z, x, rfl⟩
  · simp [spec_l02Put.f, spec_l02Put.j0, putL_nil]
  · rw [List.concat_eq_append] at *
    rw [List.length_append, List.length_singleton] at hl
    have h1 : wrap64 (((z ++ [x]).map tI).length - 1 : Int) = (z.length : Int) := by
      rw [List.length_map, List.length_append]; unfold wrap64; simp; omega
    have h2 : ((z ++ [x]).map tI).length = z.length + 1 := by simp
    rw [putL_snoc]
    unfold spec_l02Put.f
    rw [if_neg (by rw [h2]; omega), h1, if_pos (by omega), if_pos (by rw [h2]; omega), rd_last, beq_tI, beq_tI]
    simp only [spec_l02Put.j0]
    rw [h1]
    cases hc : ((x == 83) != (b == 83)) with
    | true =>
      rw [if_pos rfl, if_pos (by rw [h2]; omega), if_pos rfl]
      simp
    | false =>
      rw [if_neg Bool.false_ne_true, if_pos (by omega), if_pos (by rw [h2]; omega), if_pos (by rw [h2]; omega), if_neg Bool.false_ne_true]
      simp only [Int.toNat_natCast, Option.bind_some]
      rw [take_last, rd_last, bne_tI]
      by_cases h83 : b = 83
      · subst h83
        rw [if_pos (show tI 83 = 83 from rfl), if_pos (.inl rfl)]
        simp [spec_l02Put.j1]
      · rw [if_neg (show ¬ tI b = 83 from fun e => h83 (tI_inj.1 (show tI b = tI 83 from e)))]
        simp only [spec_l02Put.j1]
        by_cases hx : x = b
        · subst hx
          have hn : ¬ (x = 83 ∨ x ≠ x) := fun h => by rcases h with h | h; exact h83 h; exact h rfl
          have hd : decide (x ≠ x) = false := by simp
          have hz : (z.map tI).length < 140737488355328 := by rw [List.length_map]; omega
          rw [hd, if_neg Bool.false_ne_true, if_neg hn]
          by_cases h85 : x = 85
          · have h85' : tI x = 85 := by rw [h85]; rfl
            rw [if_pos h85', if_pos hz, if_pos h85]
            simp [tI]
          · have h85' : ¬ tI x = 85 := fun e => h85 (tI_inj.1 (show tI x = tI 85 from e))
            rw [if_neg h85', if_pos hz, if_neg h85]
            simp [tI]
        · rw [if_pos (by simpa using hx), if_pos (.inr hx)]

/-- What put gives: the word with the letter, in a slice of the call's own. -/
def GivesW (w0 : World) (l : List UInt8) (e : Ending) (w' : World) : Prop := ∃ v, e = .returned v ∧ OwnK encB 5 w' w0.heap.size v l ∧ Below w0.heap.size w0 w'
theorem implPut_any (b : UInt8) (v : Value) (l : List UInt8) (w0 w : World) (hB : Below w0.heap.size w0 w) (h : OwnK encB 5 w w0.heap.size v l) (hl : l.length < 1000000) :
    Calls Try.prog 17 #[v, .int .u8 (tI b)] w (GivesW w0 (putL l b)) :=
  (impl_put.calls 3 (fun _ => True) v (l.map tI) (tI b) ((putL l b).map tI) w0 w hB (kd_of h) (implPut_f l b hl)).mono fun _ _ ⟨v0, he, hR, hb, _⟩ => ⟨v0, he, of_kd hR, hb⟩
theorem specPut_any (b : UInt8) (v : Value) (l : List UInt8) (w0 w : World) (hB : Below w0.heap.size w0 w) (h : OwnK encB 5 w w0.heap.size v l) (hl : l.length < 1000000) :
    Calls Try.prog 34 #[v, .int .u8 (tI b)] w (GivesW w0 (putL l b)) :=
  (spec_l02Put.calls 3 (fun _ => True) v (l.map tI) (tI b) ((putL l b).map tI) w0 w hB (kd_of h) (specPut_f l b hl)).mono fun _ _ ⟨v0, he, hR, hb, _⟩ => ⟨v0, he, of_kd hR, hb⟩

end Go.Proofs.Ytcapmljnhflopaa
