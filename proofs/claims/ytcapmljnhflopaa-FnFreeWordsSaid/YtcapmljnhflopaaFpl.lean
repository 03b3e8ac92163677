/- Free words and their matrices: what the law asks (plain law). -/
import Derived.Test.YtcapmljnhflopaaFms
import Derived.Test.YtcapmljnhflopaaFreeS
import Derived.Test.YtcapmljnhflopaaSrh
namespace Go.Proofs.Ytcapmljnhflopaa
open Go.RowKit
set_option linter.unusedSimpArgs false

theorem altB_of : ∀ (l : List UInt8), (∀ j (h : j + 1 < l.length), (l[j] == 83) ≠ (l[j + 1] == 83)) → altB (l.headD 0 == 83) l
  | [], _ => trivial
  | [_], _ => ⟨rfl, trivial⟩
  | x :: y :: t, h => by
    have h0 := h 0 (by simp)
    have ih := altB_of (y :: t) (fun j hj => h (j + 1) (by simpa using hj))
    refine ⟨rfl, ?_⟩
    have e : (y == 83) = !(x == 83) := by
      have h1 : (x == 83) ≠ (y == 83) := h0
      cases hx : (x == 83) <;> cases hy : (y == 83) <;> simp_all
    show altB (!((x :: y :: t).headD 0 == 83)) (y :: t)
    rw [show ((x :: y :: t).headD 0 == 83) = (x == 83) from rfl, ← e]
    exact ih
theorem altB_ne : ∀ (l : List UInt8) (s : Bool), altB s l → ∀ j (h : j + 1 < l.length), (l[j] == 83) ≠ (l[j + 1] == 83)
  | [], _, _, j, h => absurd h (by simp)
  | [_], _, _, j, h => absurd h (by simp)
  | x :: y :: t, s, ha, 0, h => by
    obtain ⟨h1, h2, -⟩ := ha
    show (x == 83) ≠ (y == 83)
    rw [h1, h2]
    cases s <;> decide
  | x :: y :: t, s, ha, j + 1, h => altB_ne (y :: t) (!s) ha.2 j (by simpa using h)
theorem free3_wd {s : ByteArray} (h : Free3 s) : Wd s.data.toList ∧ s.data.toList.length ≤ 200 := by
  have hl : s.data.toList.length = s.size := by rw [Array.length_toList]; rfl
  refine ⟨⟨fun x hx => ?_, _, altB_of _ fun j hj => ?_⟩, by rw [hl]; exact h.2.2⟩
  · obtain ⟨k, hk, rfl⟩ := List.mem_iff_getElem.1 hx
    have hk2 : k < s.size := by rw [← hl]; exact hk
    rw [bytes_get hk2]
    exact h.2.1 k hk2
  · have hj2 : j + 1 < s.size := by rw [← hl]; exact hj
    rw [bytes_get (show j < s.size by omega), bytes_get hj2]
    exact h.1 j hj2
theorem wd_free3 {l : List UInt8} (h : Wd l) (hl : l.length ≤ 200) : Free3 ⟨l.toArray⟩ := by
  have hs : (⟨l.toArray⟩ : ByteArray).size = l.length := by simp [ByteArray.size]
  have hg : ∀ j (hj : j < (⟨l.toArray⟩ : ByteArray).size), (⟨l.toArray⟩ : ByteArray)[j] = l[j]'(by rw [← hs]; exact hj) := fun j hj => by
    rw [← bytes_get hj]
  obtain ⟨hL, s, ha⟩ := h
  refine ⟨fun j hj => ?_, fun j hj => ?_, by rw [hs]; exact hl⟩
  · rw [hg j (by omega), hg (j + 1) hj]
    exact altB_ne l s ha j (by rw [← hs]; exact hj)
  · rw [hg j hj]
    exact hL _ (List.getElem_mem _)
theorem prodFrom_X3 : ∀ (l : List UInt8) (m r : M), prodFrom m (l.map lm3) = some r → r = m.mul (X3 l)
  | [], m, r, h => by
    cases h
    exact (mul_one3 m).symm
  | x :: l, m, r, h => by
    rw [List.map_cons, prodFrom_cons] at h
    split at h
    · rw [prodFrom_X3 l _ r h]
      exact mul_assoc3 _ _ _
    · cases h
theorem prodFrom_ents3 : ∀ (l : List M) (m r : M), m.ents = true → prodFrom m l = some r → r.ents = true
  | [], m, r, hm, h => by
    rw [prodFrom_nil] at h
    cases h
    exact hm
  | n :: l, m, r, hm, h => by
    rw [prodFrom_cons] at h
    split at h
    · rename_i he
      exact prodFrom_ents3 l _ r he h
    · cases h
theorem det_mul3 (a b : M) : (a.mul b).det = a.det * b.det := by
  simp only [M.mul, M.det]
  grind
theorem X3_det (l : List UInt8) : (X3 l).det = 1 := by
  induction l with
  | nil => rfl
  | cons x l ih =>
    show ((lm3 x).mul (X3 l)).det = 1
    rw [det_mul3, ih]
    unfold lm3
    split
    · rfl
    · split <;> rfl
theorem mat3_X3 {s : ByteArray} {r : M} (h : mat3 s = some r) : r = X3 s.data.toList ∧ r.ok = true := by
  have e : ms3 s s.size = s.data.toList.map lm3 := by
    unfold ms3
    rw [List.take_of_length_le (by rw [Array.length_toList]; exact Nat.le_refl _)]
  unfold mat3 at h
  have he := prodFrom_ents3 _ _ _ (by decide) h
  rw [e] at h
  have h1 := prodFrom_X3 _ _ _ h
  rw [one_mul3] at h1
  refine ⟨h1, ?_⟩
  have hd : r.det = 1 := by rw [h1]; exact X3_det _
  unfold M.ok
  rw [he, hd]
  rfl
/-- What FreeWord answers. -/
def FW (m : M) (r : ByteArray × Int) : Prop := (m.ok = true ∧ ∃ k, ChEnds m k ∧ r = resF (chAll m k)) ∨ (m.ok = false ∧ r = (⟨#[]⟩, 1))
theorem FW.unique {m : M} {r r' : ByteArray × Int} (h : FW m r) (h' : FW m r') : r = r' := by
  rcases h with ⟨h1, k, h2, rfl⟩ | ⟨h1, rfl⟩ <;> rcases h' with ⟨g1, k', g2, rfl⟩ | ⟨g1, rfl⟩
  · rw [h2.unique g2]
  · rw [h1] at g1; cases g1
  · rw [h1] at g1; cases g1
  · rfl
/-- A free word that is given: its matrix and its form. -/
theorem FW.yes {m : M} {s : ByteArray} {c : Int} (h : FW m (s, c)) : (c = 0 ∧ m.ok = true ∧ Free3 s ∧ Sg (X3 s.data.toList) m) ∨ (c ≠ 0 ∧ s = ⟨#[]⟩) := by
  rcases h with ⟨h1, k, h2, h3⟩ | ⟨h1, h3⟩
  · unfold resF at h3
    by_cases hl : 200 < (freeL (chAll m k)).length
    · rw [if_pos hl] at h3
      cases h3
      exact .inr ⟨by decide, rfl⟩
    · rw [if_neg hl] at h3
      cases h3
      refine .inl ⟨rfl, h1, wd_free3 (freeL_wd _) (by omega), ?_⟩
      exact freeL_sg (M.ok_ch h1) h2
  · cases h3
    exact .inr ⟨by decide, rfl⟩
/-- What MatrixOfFree answers. -/
def MF (s : ByteArray) (m : M) (c : Int) : Prop := (c = 0 ∧ Free3 s ∧ mat3 s = some m) ∨ (c = 3 ∧ m = ⟨0, 0, 0, 0⟩ ∧ Free3 s ∧ mat3 s = none) ∨ (c = 2 ∧ m = ⟨0, 0, 0, 0⟩ ∧ ¬ Free3 s)
theorem MF.unique {s : ByteArray} {m m' : M} {c c' : Int} (h : MF s m c) (h' : MF s m' c') : m = m' ∧ c = c' := by
  rcases h with ⟨rfl, h1, h2⟩ | ⟨rfl, rfl, h1, h2⟩ | ⟨rfl, rfl, h1⟩ <;> rcases h' with ⟨rfl, g1, g2⟩ | ⟨rfl, rfl, g1, g2⟩ | ⟨rfl, rfl, g1⟩
  · rw [h2] at g2; cases g2; exact ⟨rfl, rfl⟩
  · rw [h2] at g2; cases g2
  · exact absurd h1 g1
  · rw [h2] at g2; cases g2
  · exact ⟨rfl, rfl⟩
  · exact absurd h1 g1
  · exact absurd g1 h1
  · exact absurd g1 h1
  · exact ⟨rfl, rfl⟩
/-- The matrix of a free word has that word. -/
theorem MF.back {s : ByteArray} {m : M} {r : ByteArray × Int} (h : MF s m 0) (hr : FW m r) : r = (s, 0) := by
  rcases h with ⟨-, h1, h2⟩ | ⟨h, -⟩ | ⟨h, -⟩
  · obtain ⟨e, hok⟩ := mat3_X3 h2
    obtain ⟨hw, hl⟩ := free3_wd h1
    rcases hr with ⟨-, k, h3, rfl⟩ | ⟨h3, -⟩
    · have hsg := freeL_sg (M.ok_ch hok) h3
      rw [e] at hsg
      have hu := free_uniq _ _ (freeL_wd _) hw hsg
      unfold resF
      rw [← e] at hu
      rw [hu, if_neg (by omega)]
    · rw [hok] at h3; cases h3
  · cases h
  · cases h
theorem MF.form {s : ByteArray} {m : M} {c : Int} (h : MF s m c) (hs : Free3 s) : (c = 0 ∧ m = X3 s.data.toList ∧ m.ok = true) ∨ c = 3 := by
  rcases h with ⟨rfl, -, h2⟩ | ⟨rfl, -⟩ | ⟨-, -, h⟩
  · exact .inl ⟨rfl, mat3_X3 h2⟩
  · exact .inr rfl
  · exact absurd hs h
theorem mf_of {s : ByteArray} {w w' : World} {e : Ending} (h : GivesMF s w e w') : ∃ m c, MF s m c ∧ e = .returned (.tuple #[mv m, .int .i64 c]) ∧ Below w.heap.size w w' := by
  obtain ⟨hb, ⟨h1, rfl⟩ | ⟨h1, rfl⟩⟩ := h
  · cases hm : mat3 s with
    | some r => exact ⟨r, 0, .inl ⟨rfl, h1, hm⟩, rfl, hb⟩
    | none => exact ⟨⟨0, 0, 0, 0⟩, 3, .inr (.inl ⟨rfl, rfl, h1, hm⟩), rfl, hb⟩
  · exact ⟨⟨0, 0, 0, 0⟩, 2, .inr (.inr ⟨rfl, rfl, h1⟩), rfl, hb⟩
theorem FreeWord_fw (m : M) (w : World) : Calls Try.prog 6 #[mv m] w fun e w' => ∃ s c, FW m (s, c) ∧ e = .returned (.tuple #[.string s, .int .i64 c]) ∧ Below w.heap.size w w' := by
  cases h : m.ok with
  | true =>
    refine (FreeWord_in m w h).mono ?_
    rintro e w' ⟨⟨k, h2, he⟩, hb⟩
    exact ⟨_, _, .inl ⟨h, k, h2, rfl⟩, he, hb⟩
  | false =>
    refine Calls.mono (R := fun e w' => e = .returned (.tuple #[.string ⟨#[]⟩, .int .i64 1]) ∧ Below w.heap.size w w') ?_ ?_
    · have HI := Lib.hid (fun w' => IsMatrix_any m w')
      rw [h] at HI
      clear h
      go_enter Try.func6, Try.ntmps6
      go_wp2_with fail
      refine (HI.out _).mono ?_
      rintro e w1 ⟨rfl, hb⟩
      have k1 : Below w.heap.size w w1 := (by repeat (first | (with_reducible exact Below.refl _ _) | (with_reducible assumption) | (with_reducible refine Below.drew ?_) | (with_reducible refine Below.drewN ?_) | ((with_reducible refine Below.al ?_ ?_); · first | omega | (simp; done) | (simp; omega)) | ((with_reducible refine Below.sc ?_ ?_); · first | omega | (simp; done) | (simp; omega)) | ((with_reducible refine Below.thru hb ?_ ?_); · first | omega | (simp; done) | (simp; omega))))
      clear hb
      go_wp2
      go_ret2
      exact ⟨rfl, k1⟩
    · rintro e w' ⟨rfl, hb⟩
      exact ⟨⟨#[]⟩, 1, .inr ⟨h, rfl⟩, rfl, hb⟩
theorem specFreeWord_fw (m : M) (w : World) : Calls Try.prog 7 #[mv m] w fun e w' => ∃ s c, FW m (s, c) ∧ e = .returned (.tuple #[.string s, .int .i64 c]) ∧ Below w.heap.size w w' := by
  cases h : m.ok with
  | true =>
    refine (specFreeWord_in m w h).mono ?_
    rintro e w' ⟨⟨k, h2, he⟩, hb⟩
    exact ⟨_, _, .inl ⟨h, k, h2, rfl⟩, he, hb⟩
  | false =>
    refine Calls.mono (R := fun e w' => e = .returned (.tuple #[.string ⟨#[]⟩, .int .i64 1]) ∧ Below w.heap.size w w') ?_ ?_
    · have HI := Lib.hid (fun w' => l01Is_any m w')
      rw [h] at HI
      clear h
      go_enter Try.func7, Try.ntmps7
      go_wp2_with fail
      refine (HI.out _).mono ?_
      rintro e w1 ⟨rfl, hb⟩
      have k1 : Below w.heap.size w w1 := (by repeat (first | (with_reducible exact Below.refl _ _) | (with_reducible assumption) | (with_reducible refine Below.drew ?_) | (with_reducible refine Below.drewN ?_) | ((with_reducible refine Below.al ?_ ?_); · first | omega | (simp; done) | (simp; omega)) | ((with_reducible refine Below.sc ?_ ?_); · first | omega | (simp; done) | (simp; omega)) | ((with_reducible refine Below.thru hb ?_ ?_); · first | omega | (simp; done) | (simp; omega))))
      clear hb
      go_wp2
      go_ret2
      exact ⟨rfl, k1⟩
    · rintro e w' ⟨rfl, hb⟩
      exact ⟨⟨#[]⟩, 1, .inr ⟨h, rfl⟩, rfl, hb⟩

end Go.Proofs.Ytcapmljnhflopaa
