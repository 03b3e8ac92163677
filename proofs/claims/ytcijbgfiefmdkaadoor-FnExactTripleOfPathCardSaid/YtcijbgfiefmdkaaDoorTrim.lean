/- Paths of steps and their words: both walks. -/
import Derived.Test.YtcijbgfiefmdkaaDoorShelfTrim
import Derived.Test.YtcijbgfiefmdkaaDoorCore
import Derived.Test.YtcijbgfiefmdkaaDoorPFnExactWordOfPathx
namespace Go.Proofs.YtcijbgfiefmdkaaDoor
open Go.RowKit Go.Shelf Go.Lib
open Go.Proofs.YtcijbgfiefmdkaaDoor.PFnExactWordOfPath Go.Proofs.YtcijbgfiefmdkaaDoorW.PrintWords

/-- Are all bytes of the string among these? -/
def allIn (s : ByteArray) (cs : List UInt8) : Bool := s.data.toList.all (cs.contains ·)
theorem dropWhile_nil {α : Type} (p : α → Bool) (l : List α) : l.dropWhile p = [] ↔ l.all p = true := by
  induction l with
  | nil => simp
  | cons x l ih =>
    rw [List.dropWhile_cons, List.all_cons]
    cases h : p x with
    | true => simp [ih]
    | false => simp
theorem dropWhile_last {α : Type} (p : α → Bool) (l : List α) : l.dropWhile p = [] ∨ ∃ x t, l.dropWhile p = x :: t ∧ p x = false := by
  induction l with
  | nil => exact .inl rfl
  | cons x l ih =>
    rw [List.dropWhile_cons]
    cases h : p x with
    | true => simpa using ih
    | false => exact .inr ⟨x, l, by simp, h⟩
theorem trimS_nil (l cs : List UInt8) : trimS l cs = [] ↔ l.all (cs.contains ·) = true := by
  unfold trimS trimLeftS trimRightS
  constructor
  · intro h
    rw [dropWhile_nil] at h
    rcases dropWhile_last (cs.contains ·) l.reverse with h1 | ⟨x, t, h1, h2⟩
    · rw [dropWhile_nil] at h1
      simpa using h1
    · rw [h1] at h
      simp only [List.reverse_cons, List.all_append, List.all_cons, List.all_nil, Bool.and_true, Bool.and_eq_true] at h
      rw [h2] at h
      cases h.2
  · intro h
    have : l.reverse.dropWhile (cs.contains ·) = [] := by rw [dropWhile_nil]; simpa using h
    rw [this]
    rfl
theorem trim_empty (s : ByteArray) (cs : List UInt8) (h : allIn s cs = true) : (⟨(trimS s.data.toList cs).toArray⟩ : ByteArray) = ⟨#[]⟩ := by
  rw [(trimS_nil _ _).2 h]
theorem trim_left (s : ByteArray) (cs : List UInt8) (h : allIn s cs = false) : (⟨(trimS s.data.toList cs).toArray⟩ : ByteArray) ≠ ⟨#[]⟩ := by
  intro e
  have e1 : trimS s.data.toList cs = [] := by
    have := congrArg (fun x : ByteArray => x.data.toList) e
    simpa using this
  rw [trimS_nil] at e1
  unfold allIn at h
  rw [e1] at h
  cases h

theorem str_ne {r : ByteArray} (h : r ≠ ⟨#[]⟩) : r.toList.isEmpty = false := by
  rw [List.isEmpty_eq_false_iff]
  intro e
  apply h
  rw [ByteArray.toList_eq] at e
  have : r.data = #[] := Array.toList_inj.1 (by simpa using e)
  cases r
  simp only at this
  rw [this]
theorem bt_get {s : ByteArray} {j : Nat} (h : j < s.size) : bt s (j : Int) = (s[j].toNat : Int) := by
  unfold bt
  rw [dif_pos (by simpa using h)]
  simp
theorem allIn_iff {s : ByteArray} {a b : UInt8} : allIn s [a, b] = true ↔ ∀ j : Nat, j < s.size → bt s (j : Int) = (a.toNat : Int) ∨ bt s (j : Int) = (b.toNat : Int) := by
  unfold allIn
  rw [List.all_eq_true]
  have key : ∀ c : UInt8, ([a, b].contains c = true) ↔ ((c.toNat : Int) = (a.toNat : Int) ∨ (c.toNat : Int) = (b.toNat : Int)) := by
    intro c
    simp only [List.contains_cons, List.contains_nil, Bool.or_false, Bool.or_eq_true, beq_iff_eq]
    constructor
    · rintro (rfl | rfl)
      · exact .inl rfl
      · exact .inr rfl
    · rintro (h | h)
      · exact .inl (UInt8.toNat_inj.1 (by omega))
      · exact .inr (UInt8.toNat_inj.1 (by omega))
  constructor
  · intro h j hj
    rw [bt_get hj]
    exact (key _).1 (h _ (by rw [show s[j] = s.data.toList[j]'(by simpa using hj) from rfl]; exact List.getElem_mem _))
  · intro h c hc
    obtain ⟨j, hj, rfl⟩ := List.mem_iff_getElem.1 hc
    have hj2 : j < s.size := by simpa using hj
    have := h j hj2
    rw [bt_get hj2] at this
    rw [key]
    exact this

/-- The two words after the first k steps. -/
def wrds (s : ByteArray) : Nat → ByteArray × ByteArray
  | 0 => (⟨#[97]⟩, ⟨#[98]⟩)
  | k + 1 => if bt s (k : Int) = 76 then ((wrds s k).1, (wrds s k).1 ++ (wrds s k).2) else ((wrds s k).1 ++ (wrds s k).2, (wrds s k).2)
theorem wrds_size (s : ByteArray) (k : Nat) : (wrds s k).1.size + (wrds s k).2.size ≤ 2 ^ (k + 1) := by
  induction k with
  | zero => exact Nat.le_refl 2
  | succ k ih =>
    rw [Nat.pow_succ]
    simp only [wrds]
    split <;> simp only [ByteArray.size_append] <;> omega
theorem wrds_small {s : ByteArray} {k : Nat} (hk : k ≤ 12) : (wrds s k).1.size + (wrds s k).2.size ≤ 8192 := by
  have := wrds_size s k
  have h2 : 2 ^ (k + 1) ≤ 2 ^ 13 := Nat.pow_le_pow_right (by decide) (by omega)
  omega
theorem wrap_k {k : Nat} (hk : k ≤ 100000) : wrap64 ((k : Int) + 1) = ((k + 1 : Nat) : Int) := by unfold wrap64; omega

theorem wordsOf_l (s : ByteArray) (hs : s.size ≤ 12) (d : Nat) : ∀ (k f : Nat), k + d = s.size → d < f → impl_wordsOf.l0 f s (wrds s k).1 (wrds s k).2 (s.size : Int) (k : Int) = some (wrds s s.size) := by
  induction d with
  | zero =>
    intro k f hk hf
    obtain ⟨f, rfl⟩ : ∃ m, f = m + 1 := ⟨f - 1, by omega⟩
    obtain rfl : k = s.size := by omega
    simp only [impl_wordsOf.l0]
    rw [if_neg (by omega)]
  | succ d ih =>
    intro k f hk hf
    obtain ⟨f, rfl⟩ : ∃ m, f = m + 1 := ⟨f - 1, by omega⟩
    have hz := wrds_small (s := s) (k := k) (by omega)
    have := ih (k + 1) f (by omega) (by omega)
    simp only [impl_wordsOf.l0]
    rw [if_pos (by omega), if_pos (by omega), if_pos (by omega), wrap_k (by omega)]
    simp only [wrds] at this
    by_cases hb : bt s (k : Int) = 76
    · rw [if_pos hb] at this ⊢
      rw [if_pos (by omega)]
      exact this
    · rw [if_neg hb] at this ⊢
      rw [if_pos (by omega)]
      exact this
theorem wordsOf_f (s : ByteArray) (hs : s.size ≤ 12) : impl_wordsOf.f 64 s = some ((wrds s s.size).1, (wrds s s.size).2) := wordsOf_l s hs s.size 0 64 (by omega) (by omega)

/-- The pair of a path, and the code. -/
def pairR (s : ByteArray) : ByteArray × ByteArray × Int :=
  if s.size > 12 then (⟨#[]⟩, ⟨#[]⟩, 2) else if allIn s [76, 82] = false then (⟨#[]⟩, ⟨#[]⟩, 2) else if (wrds s s.size).1.size + (wrds s s.size).2.size > 400 then (⟨#[]⟩, ⟨#[]⟩, 3) else ((wrds s s.size).1, (wrds s s.size).2, 0)

theorem pair_l1 (s : ByteArray) (hs : s.size ≤ 12) (d : Nat) : ∀ (k f : Nat), k + d = s.size → d < f → spec_l09Pair.l1 f s (wrds s k).1 (wrds s k).2 (k : Int) = some (if (wrds s s.size).1.size + (wrds s s.size).2.size > 400 then (⟨#[]⟩, ⟨#[]⟩, 3) else ((wrds s s.size).1, (wrds s s.size).2, 0)) := by
  induction d with
  | zero =>
    intro k f hk hf
    obtain ⟨f, rfl⟩ : ∃ m, f = m + 1 := ⟨f - 1, by omega⟩
    obtain rfl : k = s.size := by omega
    have hz := wrds_small (s := s) (k := s.size) (by omega)
    simp only [spec_l09Pair.l1]
    rw [if_neg (by omega)]
    by_cases h4 : (wrds s s.size).1.size + (wrds s s.size).2.size > 400
    · rw [if_pos (by unfold wrap64; omega), if_pos h4]
    · rw [if_neg (by unfold wrap64; omega), if_neg h4]
  | succ d ih =>
    intro k f hk hf
    obtain ⟨f, rfl⟩ : ∃ m, f = m + 1 := ⟨f - 1, by omega⟩
    have hz := wrds_small (s := s) (k := k) (by omega)
    have := ih (k + 1) f (by omega) (by omega)
    simp only [spec_l09Pair.l1]
    rw [if_pos (by omega), if_pos (by omega), wrap_k (by omega)]
    simp only [wrds] at this
    by_cases hb : bt s (k : Int) = 76
    · rw [if_pos hb] at this ⊢
      rw [if_pos (by omega)]
      exact this
    · rw [if_neg hb] at this ⊢
      rw [if_pos (by omega)]
      exact this
open Classical in
theorem pair_l0 (s : ByteArray) (hs : s.size ≤ 12) (d : Nat) : ∀ (k f : Nat), k + d = s.size → d + 20 < f → spec_l09Pair.l0 f s (k : Int) = some (if (∀ j : Nat, k ≤ j → j < s.size → bt s (j : Int) = 76 ∨ bt s (j : Int) = 82) then (if (wrds s s.size).1.size + (wrds s s.size).2.size > 400 then (⟨#[]⟩, ⟨#[]⟩, 3) else ((wrds s s.size).1, (wrds s s.size).2, 0)) else (⟨#[]⟩, ⟨#[]⟩, 2)) := by
  induction d with
  | zero =>
    intro k f hk hf
    obtain ⟨f, rfl⟩ : ∃ m, f = m + 1 := ⟨f - 1, by omega⟩
    obtain rfl : k = s.size := by omega
    simp only [spec_l09Pair.l0]
    rw [if_neg (by omega), if_pos (fun j h1 h2 => by omega)]
    exact pair_l1 s hs s.size 0 f (by omega) (by omega)
  | succ d ih =>
    intro k f hk hf
    obtain ⟨f, rfl⟩ : ∃ m, f = m + 1 := ⟨f - 1, by omega⟩
    have := ih (k + 1) f (by omega) (by omega)
    simp only [spec_l09Pair.l0]
    rw [if_pos (by omega), if_pos (by omega), wrap_k (by omega)]
    have key : ∀ {α : Type} (x y : α), (bt s (k : Int) = 76 ∨ bt s (k : Int) = 82) → (if (∀ j : Nat, k + 1 ≤ j → j < s.size → bt s (j : Int) = 76 ∨ bt s (j : Int) = 82) then x else y) = (if (∀ j : Nat, k ≤ j → j < s.size → bt s (j : Int) = 76 ∨ bt s (j : Int) = 82) then x else y) := by
      intro α x y hb
      by_cases h : ∀ j : Nat, k + 1 ≤ j → j < s.size → bt s (j : Int) = 76 ∨ bt s (j : Int) = 82
      · rw [if_pos h, if_pos]
        intro j h1 h2
        by_cases e : j = k
        · subst e; exact hb
        · exact h j (by omega) h2
      · rw [if_neg h, if_neg]
        intro h'
        exact h fun j h1 h2 => h' j (by omega) h2
    by_cases hb : bt s (k : Int) = 76
    · rw [if_pos hb, this, key _ _ (.inl hb)]
    · rw [if_neg hb]
      by_cases hc : bt s (k : Int) = 82
      · rw [if_pos hc, this, key _ _ (.inr hc)]
      · rw [if_neg hc, if_neg]
        intro h
        rcases h k (Nat.le_refl _) (by omega) with h | h
        · exact hb h
        · exact hc h
open Classical in
theorem pair_f (s : ByteArray) : spec_l09Pair.f 64 s = some (pairR s) := by
  unfold spec_l09Pair.f pairR
  by_cases h : s.size > 12
  · rw [if_pos (by omega), if_pos h]
  · rw [if_neg (by omega), if_neg h]
    have := pair_l0 s (by omega) s.size 0 64 (by omega) (by omega)
    rw [show ((0 : Nat) : Int) = 0 from rfl] at this
    rw [this]
    have hi := allIn_iff (s := s) (a := 76) (b := 82)
    cases ha : allIn s [76, 82] with
    | true =>
      have h' : ∀ j : Nat, 0 ≤ j → j < s.size → bt s (j : Int) = 76 ∨ bt s (j : Int) = 82 := fun j _ h2 => hi.1 ha j h2
      rw [if_pos h', if_neg (show ¬ (true = false) by decide)]
    | false =>
      rw [if_neg, if_pos rfl]
      intro h'
      rw [hi.2 (fun j h2 => h' j (Nat.zero_le _) h2)] at ha
      cases ha
theorem pairR_size (s : ByteArray) : (pairR s).1.size + (pairR s).2.1.size ≤ 400 := by
  unfold pairR
  split
  · decide
  · split
    · decide
    · split
      · decide
      · simp only; omega
theorem word_f (s : ByteArray) : spec_WordOfPath.f 64 s = some ((pairR s).1 ++ (pairR s).2.1, (pairR s).2.2) := by
  unfold spec_WordOfPath.f
  rw [pair_f]
  have := pairR_size s
  simp only [Option.bind_some]
  rw [if_pos (by omega)]

set_option maxRecDepth 8000 in
set_option maxHeartbeats 1000000 in
theorem pathCode_any (s : ByteArray) (w : World) (hs : s.size ≤ 1048576) : Calls Tryd.prog 18 #[.string s] w fun e w' => e = .returned (.int .i64 (pairR s).2.2) ∧ Below w.heap.size w w' := by
  by_cases h12 : s.size > 12
  · have HF := Lib.hid (show (pairR s).2.2 = 2 by unfold pairR; rw [if_pos h12])
    have h13 : (12 : Int) < (s.size : Int) := by omega
    go_enter Tryd.func18, Tryd.ntmps18
    go_wp2
    go_ret
    exact ⟨ret_int HF.out.symm, (by repeat (first | (with_reducible exact Below.refl _ _) | (with_reducible assumption) | (with_reducible refine Below.drew ?_) | (with_reducible refine Below.drewN ?_) | ((with_reducible refine Below.al ?_ ?_); · first | omega | (simp; done) | (simp; omega)) | ((with_reducible refine Below.sc ?_ ?_); · first | omega | (simp; done) | (simp; omega)) | ((with_reducible refine Below.thru hb ?_ ?_); · first | omega | (simp; done) | (simp; omega))))⟩
  · have h13 : ¬ (12 : Int) < (s.size : Int) := by omega
    have hcon := Lib.hid (fun w' : World => Any.strings_Trim_laid Tryd.lays160 (by kernel_rfl) s ⟨#[76, 82]⟩ w' (by omega) (by decide) (ascii_of_all (by decide)))
    cases ha : allIn s [76, 82] with
    | false =>
      have HF := Lib.hid (show (pairR s).2.2 = 2 by unfold pairR; rw [if_neg h12, if_pos ha])
      have hne0 := trim_left s [76, 82] ha
      have hcon2 : Hid (∀ w' : World, Calls Tryd.prog 21 #[.string s, .string ⟨#[76, 82]⟩] w' (fun e w'' => e = .returned (.string ⟨(trimS s.data.toList [76, 82]).toArray⟩) ∧ Below w'.heap.size w' w'')) := hcon
      clear hcon ha
      generalize (⟨(trimS s.data.toList [76, 82]).toArray⟩ : ByteArray) = r at *
      have hne := str_ne hne0
      clear hne0
      go_enter Tryd.func18, Tryd.ntmps18
      go_wp2_with fail
      refine (hcon2.out _).mono ?_
      rintro e w1 ⟨rfl, hb⟩
      have k1 : Below w.heap.size w w1 := (by repeat (first | (with_reducible exact Below.refl _ _) | (with_reducible assumption) | (with_reducible refine Below.drew ?_) | (with_reducible refine Below.drewN ?_) | ((with_reducible refine Below.al ?_ ?_); · first | omega | (simp; done) | (simp; omega)) | ((with_reducible refine Below.sc ?_ ?_); · first | omega | (simp; done) | (simp; omega)) | ((with_reducible refine Below.thru hb ?_ ?_); · first | omega | (simp; done) | (simp; omega))))
      clear hb
      go_wp2
      go_ret
      exact ⟨ret_int HF.out.symm, k1⟩
    | true =>
      have hcon2 : Hid (∀ w' : World, Calls Tryd.prog 21 #[.string s, .string ⟨#[76, 82]⟩] w' (fun e w'' => e = .returned (.string ⟨#[]⟩) ∧ Below w'.heap.size w' w'')) := by
        rw [← trim_empty s [76, 82] ha]
        exact hcon
      have HW := Lib.hid (fun w' : World => impl_wordsOf.calls 64 s _ _ w' (wordsOf_f s (by omega)))
      have HF := Lib.hid (show (pairR s).2.2 = if (wrds s s.size).1.size + (wrds s s.size).2.size > 400 then 3 else 0 by unfold pairR; rw [if_neg h12, if_neg (by rw [ha]; decide)]; split <;> rfl)
      have hz := wrds_small (s := s) (k := s.size) (by omega)
      clear hcon ha
      generalize wrds s s.size = p at *
      obtain ⟨u, v⟩ := p
      simp only at HW HF hz
      by_cases h4 : u.size + v.size > 400
      · have h5 : (400 : Int) < (u.size : Int) + (v.size : Int) := by omega
        rw [if_pos h4] at HF
        go_enter Tryd.func18, Tryd.ntmps18
        go_wp2_with fail
        refine (hcon2.out _).mono ?_
        rintro e w1 ⟨rfl, hb⟩
        have k1 : Below w.heap.size w w1 := (by repeat (first | (with_reducible exact Below.refl _ _) | (with_reducible assumption) | (with_reducible refine Below.drew ?_) | (with_reducible refine Below.drewN ?_) | ((with_reducible refine Below.al ?_ ?_); · first | omega | (simp; done) | (simp; omega)) | ((with_reducible refine Below.sc ?_ ?_); · first | omega | (simp; done) | (simp; omega)) | ((with_reducible refine Below.thru hb ?_ ?_); · first | omega | (simp; done) | (simp; omega))))
        have s1 := k1.size
        clear hb
        go_wp2_with fail
        refine (HW.out _).mono ?_
        rintro e w2 ⟨rfl, hd⟩
        have hb := hd.below
        have k2 : Below w.heap.size w w2 := (by repeat (first | (with_reducible exact Below.refl _ _) | (with_reducible assumption) | (with_reducible refine Below.drew ?_) | (with_reducible refine Below.drewN ?_) | ((with_reducible refine Below.al ?_ ?_); · first | omega | (simp; done) | (simp; omega)) | ((with_reducible refine Below.sc ?_ ?_); · first | omega | (simp; done) | (simp; omega)) | ((with_reducible refine Below.thru hb ?_ ?_); · first | omega | (simp; done) | (simp; omega))))
        clear hb hd
        go_wp2
        go_ret
        exact ⟨ret_int HF.out.symm, k2⟩
      · have h5 : ¬ (400 : Int) < (u.size : Int) + (v.size : Int) := by omega
        rw [if_neg h4] at HF
        go_enter Tryd.func18, Tryd.ntmps18
        go_wp2_with fail
        refine (hcon2.out _).mono ?_
        rintro e w1 ⟨rfl, hb⟩
        have k1 : Below w.heap.size w w1 := (by repeat (first | (with_reducible exact Below.refl _ _) | (with_reducible assumption) | (with_reducible refine Below.drew ?_) | (with_reducible refine Below.drewN ?_) | ((with_reducible refine Below.al ?_ ?_); · first | omega | (simp; done) | (simp; omega)) | ((with_reducible refine Below.sc ?_ ?_); · first | omega | (simp; done) | (simp; omega)) | ((with_reducible refine Below.thru hb ?_ ?_); · first | omega | (simp; done) | (simp; omega))))
        have s1 := k1.size
        clear hb
        go_wp2_with fail
        refine (HW.out _).mono ?_
        rintro e w2 ⟨rfl, hd⟩
        have hb := hd.below
        have k2 : Below w.heap.size w w2 := (by repeat (first | (with_reducible exact Below.refl _ _) | (with_reducible assumption) | (with_reducible refine Below.drew ?_) | (with_reducible refine Below.drewN ?_) | ((with_reducible refine Below.al ?_ ?_); · first | omega | (simp; done) | (simp; omega)) | ((with_reducible refine Below.sc ?_ ?_); · first | omega | (simp; done) | (simp; omega)) | ((with_reducible refine Below.thru hb ?_ ?_); · first | omega | (simp; done) | (simp; omega))))
        clear hb hd
        go_wp2
        go_ret
        exact ⟨ret_int HF.out.symm, k2⟩

end Go.Proofs.YtcijbgfiefmdkaaDoor
