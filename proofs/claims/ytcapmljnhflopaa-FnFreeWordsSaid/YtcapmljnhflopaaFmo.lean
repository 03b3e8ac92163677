/- A matrix has one free word: plain law. -/
import Derived.Test.YtcapmljnhflopaaCyl
import Derived.Test.Ytcapmljnhflopaa01b
import Derived.Test.YtcapmljnhflopaaRow
import Derived.Lib.Bytealg
import Derived.Laws.Externs
import Derived.Deep.OwnRows
namespace Go.Proofs.Ytcapmljnhflopaa
open Go.RowKit
set_option linter.unusedSimpArgs false

/-- A matrix acts on pairs of numbers. -/
def act2 (m : M) (v : Int × Int) : Int × Int := (m.a * v.1 + m.b * v.2, m.c * v.1 + m.d * v.2)
theorem act2_mul (m n : M) (v : Int × Int) : act2 (m.mul n) v = act2 m (act2 n v) := by
  simp only [act2, M.mul]
  refine Prod.ext ?_ ?_ <;> simp only <;> grind
/-- Of the same sign; of different signs; the first greater; the second greater. -/
def PV (v : Int × Int) : Prop := (0 < v.1 ∧ 0 < v.2) ∨ (v.1 < 0 ∧ v.2 < 0)
def NV (v : Int × Int) : Prop := (0 < v.1 ∧ v.2 < 0) ∨ (v.1 < 0 ∧ 0 < v.2)
def GV (v : Int × Int) : Prop := (0 < v.2 ∧ v.2 < v.1) ∨ (v.1 < v.2 ∧ v.2 < 0)
def HV (v : Int × Int) : Prop := (0 < v.1 ∧ v.1 < v.2) ∨ (v.2 < v.1 ∧ v.1 < 0)
def regV (x : UInt8) (v : Int × Int) : Prop := if x = 83 then NV v else if x = 85 then GV v else HV v
/-- Where a word may begin. -/
def stV (l : List UInt8) (v : Int × Int) : Prop := (l.getLastD 0 = 83 → PV v) ∧ (l.getLastD 0 ≠ 83 → NV v)
theorem reg_S {v : Int × Int} (h : PV v) : regV 83 (act2 (lm3 83) v) := by
  obtain ⟨p, q⟩ := v
  show NV (act2 ⟨0, -1, 1, 0⟩ (p, q))
  simp only [PV, NV, act2] at *
  omega
theorem reg_U {v : Int × Int} (h : NV v) : regV 85 (act2 (lm3 85) v) := by
  obtain ⟨p, q⟩ := v
  show GV (act2 ⟨1, -1, 1, 0⟩ (p, q))
  simp only [GV, NV, act2] at *
  omega
theorem reg_V {v : Int × Int} (h : NV v) : regV 86 (act2 (lm3 86) v) := by
  obtain ⟨p, q⟩ := v
  show HV (act2 ⟨0, -1, 1, -1⟩ (p, q))
  simp only [HV, NV, act2] at *
  omega
theorem reg_pos {x : UInt8} {v : Int × Int} (h : regV x v) (hx : x ≠ 83) : PV v := by
  obtain ⟨p, q⟩ := v
  unfold regV at h
  rw [if_neg hx] at h
  simp only [PV, GV, HV] at *
  split at h <;> omega
theorem act2_reg (t : List UInt8) : ∀ (x : UInt8) (v : Int × Int), Let3 (x :: t) → altB (x == 83) (x :: t) → stV (x :: t) v → regV x (act2 (X3 (x :: t)) v) := by
  induction t with
  | nil =>
    intro x v hl _ hs
    have hx := hl.head
    rw [show X3 [x] = lm3 x from X3_one x]
    rcases hx with rfl | rfl | rfl
    · exact reg_S (hs.1 rfl)
    · exact reg_U (hs.2 (by show (85 : UInt8) ≠ 83; decide))
    · exact reg_V (hs.2 (by show (86 : UInt8) ≠ 83; decide))
  | cons y t ih =>
    intro x v hl ha hs
    have hx := hl.head
    have ha2 : altB (!(x == 83)) (y :: t) := ha.2
    have hy : (y == 83) = !(x == 83) := ha2.1
    have h1 := ih y v hl.tail (by rw [hy]; exact ha2) hs
    show regV x (act2 ((lm3 x).mul (X3 (y :: t))) v)
    rw [act2_mul]
    generalize act2 (X3 (y :: t)) v = u at h1
    rcases hx with rfl | rfl | rfl
    · exact reg_S (reg_pos h1 (fun e => by subst e; exact absurd hy (by decide)))
    · have e : y = 83 := by simpa using hy
      subst e
      exact reg_U h1
    · have e : y = 83 := by simpa using hy
      subst e
      exact reg_V h1
theorem act2_one {m : M} (h : Sg m M.one) (v : Int × Int) : act2 m v = v ∨ act2 m v = (-v.1, -v.2) := by
  rcases h with rfl | rfl
  · left
    show (1 * v.1 + 0 * v.2, 0 * v.1 + 1 * v.2) = v
    exact Prod.ext (by simp) (by simp)
  · right
    show (-1 * v.1 + -0 * v.2, -0 * v.1 + -1 * v.2) = (-v.1, -v.2)
    exact Prod.ext (by simp) (by simp)
/-- A word that is the identity, but for the sign, is empty. -/
theorem one_nil {l : List UInt8} (h : Wd l) (hs : Sg (X3 l) M.one) : l = [] := by
  cases l with
  | nil => rfl
  | cons x t =>
    exfalso
    obtain ⟨hl, s, ha⟩ := h
    have hxs : (x == 83) = s := ha.1
    rw [← hxs] at ha
    by_cases hlast : (x :: t).getLastD 0 = 83
    · have key : ∀ v, PV v → regV x v ∨ regV x (-v.1, -v.2) := fun v hv => by
        have h1 := act2_reg t x v hl ha ⟨fun _ => hv, fun h => absurd hlast h⟩
        rcases act2_one hs v with e | e <;> rw [e] at h1
        · exact .inl h1
        · exact .inr h1
      rcases hl.head with rfl | rfl | rfl
      · have := key (1, 1) (.inl ⟨by decide, by decide⟩)
        simp only [regV, if_true, NV] at this
        omega
      · have := key (1, 2) (.inl ⟨by decide, by decide⟩)
        rw [show regV 85 = GV from rfl] at this
        simp only [GV] at this
        omega
      · have := key (2, 1) (.inl ⟨by decide, by decide⟩)
        rw [show regV 86 = HV from rfl] at this
        simp only [HV] at this
        omega
    · by_cases hx : x = 83
      · subst hx
        cases t with
        | nil => exact hlast rfl
        | cons y t =>
          have ha2 : altB false (y :: t) := ha.2
          have hy : (y == 83) = false := ha2.1
          have key : ∀ v, NV v → ∃ u, regV y u ∧ (act2 (lm3 83) u = v ∨ act2 (lm3 83) u = (-v.1, -v.2)) := fun v hv => by
            have h1 := act2_reg t y v hl.tail (by rw [hy]; exact ha2) ⟨fun h => absurd h hlast, fun _ => hv⟩
            refine ⟨_, h1, ?_⟩
            have := act2_one hs v
            rw [show X3 (83 :: y :: t) = (lm3 83).mul (X3 (y :: t)) from rfl, act2_mul] at this
            exact this
          rcases hl.tail.head with rfl | rfl | rfl
          · exact absurd hy (by decide)
          · obtain ⟨⟨p, q⟩, hu, e⟩ := key (2, -1) (.inl ⟨by decide, by decide⟩)
            rw [show regV 85 = GV from rfl] at hu
            rw [show lm3 83 = ⟨0, -1, 1, 0⟩ from rfl] at e
            simp only [GV, act2, Prod.mk.injEq] at hu e
            omega
          · obtain ⟨⟨p, q⟩, hu, e⟩ := key (1, -2) (.inl ⟨by decide, by decide⟩)
            rw [show regV 86 = HV from rfl] at hu
            rw [show lm3 83 = ⟨0, -1, 1, 0⟩ from rfl] at e
            simp only [HV, act2, Prod.mk.injEq] at hu e
            omega
      · have h1 := act2_reg t x (1, -1) hl ha ⟨fun h => absurd h hlast, fun _ => .inl ⟨by decide, by decide⟩⟩
        have h2 := reg_pos h1 hx
        rcases act2_one hs (1, -1) with e | e <;> rw [e] at h2
        · simp only [PV] at h2; omega
        · simp only [PV] at h2; omega
def inv3 (x : UInt8) : UInt8 := if x = 83 then 83 else if x = 85 then 86 else 85
theorem inv3_L {x : UInt8} (h : L3 x) : L3 (inv3 x) ∧ (inv3 x == 83) = (x == 83) ∧ Sg ((lm3 (inv3 x)).mul (lm3 x)) M.one := by
  rcases h with rfl | rfl | rfl
  · exact ⟨L3.b83, rfl, by unfold Sg lm3; decide⟩
  · exact ⟨L3.b86, by decide, by unfold Sg lm3; decide⟩
  · exact ⟨L3.b85, by decide, by unfold Sg lm3; decide⟩
theorem Let3.cons {x : UInt8} {l : List UInt8} (hx : L3 x) (h : Let3 l) : Let3 (x :: l) := fun y hy => by
  rcases List.mem_cons.1 hy with rfl | hy
  · exact hx
  · exact h y hy
theorem X3_cancel {x : UInt8} {a : List UInt8} {m : M} (hx : L3 x) (h : Sg (X3 (x :: a)) m) : Sg (X3 a) ((lm3 (inv3 x)).mul m) := by
  have h1 := (Sg.refl (lm3 (inv3 x))).mul h
  rw [show X3 (x :: a) = (lm3 x).mul (X3 a) from rfl, ← mul_assoc3] at h1
  have h2 := ((inv3_L hx).2.2).mul (Sg.refl (X3 a))
  rw [one_mul3] at h2
  exact h2.symm.trans h1
/-- Two words that begin with letters of different kinds are the same, but for the sign, only if both are empty. -/
theorem move3 : ∀ (a b : List UInt8) (s : Bool), Let3 a → Let3 b → altB s a → altB (!s) b → Sg (X3 a) (X3 b) → a = [] ∧ b = []
  | [], b, s, _, hb, _, hb2, h => ⟨rfl, one_nil ⟨hb, _, hb2⟩ h.symm⟩
  | x :: a, b, s, ha, hb, ha2, hb2, h => by
    exfalso
    obtain ⟨i1, i2, i3⟩ := inv3_L ha.head
    have h1 := X3_cancel ha.head h
    have := move3 a (inv3 x :: b) (!s) ha.tail (Let3.cons i1 hb) ha2.2 ⟨by rw [i2, Bool.not_not]; exact ha2.1, by rw [Bool.not_not]; exact hb2⟩ h1
    exact absurd this.2 (by simp)
/-- A matrix has one free word. -/
theorem free_uniq : ∀ (a b : List UInt8), Wd a → Wd b → Sg (X3 a) (X3 b) → a = b
  | [], b, _, hb, h => (one_nil hb h.symm).symm
  | x :: a, [], ha, _, h => absurd (one_nil ha h) (by simp)
  | x :: a, y :: b, ha, hb, h => by
    obtain ⟨la, s, aa⟩ := ha
    obtain ⟨lb, t, ab⟩ := hb
    by_cases e : x = y
    · subst e
      have h1 := X3_cancel la.head h
      have h2 := ((inv3_L la.head).2.2).mul (Sg.refl (X3 b))
      rw [one_mul3, mul_assoc3] at h2
      rw [free_uniq a b ⟨la.tail, _, aa.2⟩ ⟨lb.tail, _, ab.2⟩ (h1.trans h2)]
    · exfalso
      by_cases hs : s = t
      · subst hs
        have hx : (x == 83) = s := aa.1
        have hy : (y == 83) = s := ab.1
        have hs : s = false := by
          cases s with
          | false => rfl
          | true => exact absurd ((eq_of_beq hx).trans (eq_of_beq hy).symm) e
        subst hs
        have h1 := X3_cancel la.head h
        rw [show X3 (y :: b) = (lm3 y).mul (X3 b) from rfl, ← mul_assoc3] at h1
        have h2 : Sg ((lm3 (inv3 x)).mul (lm3 y)) (lm3 x) := by
          rcases la.head with rfl | rfl | rfl <;> rcases lb.head with rfl | rfl | rfl <;> first | (exfalso; exact e rfl) | (exfalso; revert hx; decide) | (exfalso; revert hy; decide) | (unfold Sg lm3; decide)
        have h3 := move3 a (x :: b) true la.tail (Let3.cons la.head lb.tail) aa.2 ⟨hx, ab.2⟩ (h1.trans (h2.mul (Sg.refl _)))
        exact absurd h3.2 (by simp)
      · have hst : t = !s := by cases s <;> cases t <;> simp_all
        subst hst
        have h3 := move3 (x :: a) (y :: b) s la lb aa ab h
        exact absurd h3.1 (by simp)

end Go.Proofs.Ytcapmljnhflopaa

/- The matrices of free words: both walks. -/
namespace Go.Proofs.Ytcapmljnhflopaa
open Go.RowKit
set_option linter.unusedSimpArgs false

set_option maxRecDepth 100000 in
set_option maxHeartbeats 1000000 in
theorem sliteIndexByte3_any (s : ByteArray) (c : Int) (w : World) :
    Calls Try.prog 55 #[.string s, .int .u8 c] w fun e w' => e = .returned (.int .i64 (Lib.indexByte s.data.toList c.toNat.toUInt8)) ∧ w = w' := by
  go_enter Try.func55, Try.ntmps55
  go_wp2
  rw [run_callFunc_extern Try.func57 (by kernel_rfl) (by kernel_rfl) (by kernel_rfl) (e := Extern.BytealgIndexByte.indexByte) (by kernel_rfl), Lib.run_indexByteString]
  simp only [Result.andThen]
  rw [Oper.upon_value]
  go_wp2
  go_ret
  exact ⟨rfl, rfl⟩
set_option maxRecDepth 100000 in
set_option maxHeartbeats 1000000 in
theorem stringsIndexByte3_any (s : ByteArray) (c : Int) (w : World) :
    Calls Try.prog 47 #[.string s, .int .u8 c] w fun e w' => e = .returned (.int .i64 (Lib.indexByte s.data.toList c.toNat.toUInt8)) ∧ w = w' := by
  go_enter Try.func47, Try.ntmps47
  go_wp2_with (go_at_call 55; refine (sliteIndexByte3_any _ _ _).mono ?_; rintro e w' ⟨rfl, rfl⟩)
  go_ret
  exact ⟨rfl, rfl⟩
def l3B (c : UInt8) : Bool := c == 83 || c == 85 || c == 86
theorem l3B_iff (c : UInt8) : l3B c = true ↔ L3 c := by
  unfold l3B L3
  simp only [Bool.or_eq_true, beq_iff_eq, or_assoc]
theorem l3B_index (c : UInt8) : (decide (Lib.indexByte [83, 85, 86] c < 0)) = !l3B c := by
  by_cases h1 : c = 83
  · subst h1; decide
  by_cases h2 : c = 85
  · subst h2; decide
  by_cases h3 : c = 86
  · subst h3; decide
  have e1 : ((83 : UInt8) == c) = false := beq_eq_false_iff_ne.2 (fun e => h1 e.symm)
  have e2 : ((85 : UInt8) == c) = false := beq_eq_false_iff_ne.2 (fun e => h2 e.symm)
  have e3 : ((86 : UInt8) == c) = false := beq_eq_false_iff_ne.2 (fun e => h3 e.symm)
  have f1 : (c == 83) = false := beq_eq_false_iff_ne.2 h1
  have f2 : (c == 85) = false := beq_eq_false_iff_ne.2 h2
  have f3 : (c == 86) = false := beq_eq_false_iff_ne.2 h3
  simp only [Lib.indexByte, l3B, e1, e2, e3, f1, f2, f3]
  rfl
theorem indexByte3_any (c : UInt8) (w : World) :
    Calls Try.prog 47 #[.string ⟨#[83, 85, 86]⟩, .int .u8 (c.toNat : Int)] w fun e w' => e = .returned (.int .i64 (Lib.indexByte [83, 85, 86] c)) ∧ w = w' := by
  have := stringsIndexByte3_any ⟨#[83, 85, 86]⟩ (c.toNat : Int) w
  rw [Int.toNat_natCast, show c.toNat.toUInt8 = c by simp] at this
  exact this
/-- Is it a word of these letters? -/
def Word3 (s : ByteArray) : Prop := (∀ j (h : j < s.size), L3 s[j]) ∧ s.size ≤ 200
set_option maxRecDepth 100000 in
set_option maxHeartbeats 1000000 in
theorem isWord3_any (s : ByteArray) (w : World) (hs : s.size ≤ 1000) :
    Calls Try.prog 35 #[.string s, .string ⟨#[83, 85, 86]⟩] w fun e w' => ∃ b : Bool, e = .returned (.bool b) ∧ (b = true ↔ Word3 s) ∧ Below w.heap.size w w' := by
  go_enter Try.func35, Try.ntmps35
  go_wp2
  go_loopw [8] (fun i wr => ∃ k : Nat, k ≤ s.size ∧ i = .int .i64 k ∧ Hid (∀ j (h : j < s.size), j < k → L3 s[j]) ∧ Below w.heap.size w wr) (fun i _ => s.size - (intOf i).toNat)
  case atStart => exact ⟨0, Nat.zero_le _, rfl, Lib.hid (fun j h hj => absurd hj (by omega)), (by repeat (first | (with_reducible exact Below.refl _ _) | (with_reducible assumption) | (with_reducible refine Below.drew ?_) | (with_reducible refine Below.drewN ?_) | ((with_reducible refine Below.al ?_ ?_); · first | omega | (simp; done) | (simp; omega)) | ((with_reducible refine Below.sc ?_ ?_); · first | omega | (simp; done) | (simp; omega)) | ((with_reducible refine Below.thru hb ?_ ?_); · first | omega | (simp; done) | (simp; omega))))⟩
  case round =>
    obtain ⟨k, hk, rfl, hp, kwr⟩ := hrel
    have swr := kwr.size
    by_cases hlt : k < s.size
    · have i0 : (0 : Int) ≤ (k : Int) := by omega
      have i1 : (k : Int) < (s.size : Int) := by omega
      have HN := Lib.hid (show l3B s[k] = false → ¬ Word3 s from fun h g => by rw [(l3B_iff _).2 (g.1 k hlt)] at h; cases h)
      have HS := Lib.hid (fun (h : l3B s[k] = true) => (show ∀ j (h : j < s.size), j < k + 1 → L3 s[j] from fun j h1 h2 => if e : j < k then hp.out j h1 e else by
        obtain rfl : j = k := by omega
        exact (l3B_iff _).1 h))
      have HI := l3B_index s[k]
      go_wp2_with fail
      refine (indexByte3_any s[k] _).mono ?_
      generalize Lib.indexByte [83, 85, 86] s[k] = r at *
      rintro e w1 ⟨rfl, rfl⟩
      cases hl : l3B s[k] with
      | false =>
        rw [hl] at HI
        have HF := Lib.hid (HN.out hl)
        have hr : r < 0 := of_decide_eq_true HI
        clear HI hl
        go_wp2
        go_ret
        exact ⟨false, rfl, ⟨fun h => (by cases h), fun h => absurd h HF.out⟩, kwr⟩
      | true =>
        rw [hl] at HI
        have HF := Lib.hid (HS.out hl)
        have hr : ¬ r < 0 := of_decide_eq_false HI
        clear HI hl
        go_wp2
        go_roundw
        case rel => exact ⟨k + 1, by omega, by go_num, HF, kwr⟩
        case measure => simp [intOf]; omega
    · obtain rfl : k = s.size := by omega
      have HF := Lib.hid (show (decide ((s.size : Int) ≤ 200) = true ↔ Word3 s) by
        rw [decide_eq_true_iff]
        exact ⟨fun h => ⟨fun j hj => hp.out j hj hj, by omega⟩, fun h => by have := h.2; omega⟩)
      go_wp2
      go_ret
      exact ⟨_, rfl, HF.out, kwr⟩
/-- Is it a free word? -/
def Free3 (s : ByteArray) : Prop := (∀ j (h : j + 1 < s.size), (s[j] == 83) ≠ (s[j + 1] == 83)) ∧ Word3 s
set_option maxRecDepth 100000 in
set_option maxHeartbeats 1000000 in
theorem isFree_any (s : ByteArray) (w : World) (hs : s.size ≤ 1000) :
    Calls Try.prog 22 #[.string s] w fun e w' => ∃ b : Bool, e = .returned (.bool b) ∧ (b = true ↔ Free3 s) ∧ Below w.heap.size w w' := by
  have HW := Lib.hid (fun w' => isWord3_any s w' hs)
  go_enter Try.func22, Try.ntmps22
  go_wp2_with fail
  go_loopw [3] (fun i wr => ∃ k n : Nat, Hid (n = k + 1) ∧ i = .int .i64 (n : Int) ∧ Hid (∀ j (h : j + 1 < s.size), j < k → (s[j] == 83) ≠ (s[j + 1] == 83)) ∧ Below w.heap.size w wr) (fun i _ => s.size + 1 - (intOf i).toNat)
  case atStart => exact ⟨0, 1, Lib.hid rfl, rfl, Lib.hid (fun j h hj => absurd hj (by omega)), (by repeat (first | (with_reducible exact Below.refl _ _) | (with_reducible assumption) | (with_reducible refine Below.drew ?_) | (with_reducible refine Below.drewN ?_) | ((with_reducible refine Below.al ?_ ?_); · first | omega | (simp; done) | (simp; omega)) | ((with_reducible refine Below.sc ?_ ?_); · first | omega | (simp; done) | (simp; omega)) | ((with_reducible refine Below.thru hb ?_ ?_); · first | omega | (simp; done) | (simp; omega))))⟩
  case round =>
    obtain ⟨k, n, hnk, rfl, hp, kwr⟩ := hrel
    have swr := kwr.size
    by_cases hlt : n < s.size
    · have i0 : (0 : Int) ≤ (n : Int) := by omega
      have i1 : (n : Int) < (s.size : Int) := by omega
      have j0 : (0 : Int) ≤ (k : Int) := by omega
      have hkl : k < s.size := by have := hnk.out; omega
      have j1 : (k : Int) < (s.size : Int) := by omega
      have hw2 : IntKind.i64.wrap ((n : Int) - 1) = (k : Int) := by have := hnk.out; rw [IntKind.wrap_i64]; omega
      have HK := Lib.hid (show s[n] = s[k + 1]'(by have := hnk.out; omega) by simp only [hnk.out])
      have hx : ((s[k].toNat : Int) == 83) = (s[k] == 83) := by
        rw [Bool.eq_iff_iff, beq_iff_eq, beq_iff_eq]
        exact ⟨fun h => UInt8.toNat_inj.1 (by show s[k].toNat = 83; omega), fun h => by rw [h]; rfl⟩
      have hy : ((s[n].toNat : Int) == 83) = (s[n] == 83) := by
        rw [Bool.eq_iff_iff, beq_iff_eq, beq_iff_eq]
        exact ⟨fun h => UInt8.toNat_inj.1 (by show s[n].toNat = 83; omega), fun h => by rw [h]; rfl⟩
      have HT := Lib.hid (show ¬ (s[k] == 83) = (s[n] == 83) → ∀ j (h : j + 1 < s.size), j < k + 1 → (s[j] == 83) ≠ (s[j + 1] == 83) from fun h j h1 h2 => by
        by_cases e : j < k
        · exact hp.out j h1 e
        · obtain rfl : j = k := by omega
          rw [HK.out] at h
          exact h)
      have HNO := Lib.hid (show (s[k] == 83) = (s[n] == 83) → ¬ Free3 s from fun h g => by
        rw [HK.out] at h
        exact g.1 k (by have := hnk.out; omega) h)
      go_wp2_with fail
      go_quiet (fail)
      have kwq : Below w.heap.size w (wr.drewN nq) := (by repeat (first | (with_reducible exact Below.refl _ _) | (with_reducible assumption) | (with_reducible refine Below.drew ?_) | (with_reducible refine Below.drewN ?_) | ((with_reducible refine Below.al ?_ ?_); · first | omega | (simp; done) | (simp; omega)) | ((with_reducible refine Below.sc ?_ ?_); · first | omega | (simp; done) | (simp; omega)) | ((with_reducible refine Below.thru hb ?_ ?_); · first | omega | (simp; done) | (simp; omega))))
      generalize wr.drewN nq = wq at *
      cases hq : ((s[k] == 83) == (s[n] == 83)) with
      | true =>
        have HF := Lib.hid (HNO.out (by simpa using hq))
        clear hq hx hy
        go_wp2
        go_ret
        exact ⟨false, rfl, ⟨fun h => (by cases h), fun h => absurd h HF.out⟩, kwq⟩
      | false =>
        have HF := Lib.hid (HT.out (by intro h; rw [h] at hq; simp at hq))
        clear hq hx hy
        go_wp2
        go_roundw
        case rel => exact ⟨k + 1, n + 1, Lib.hid (by have := hnk.out; omega), by go_num, HF, kwq⟩
        case measure => simp [intOf]; omega
    · have HF := Lib.hid (show ∀ b : Bool, (b = true ↔ Word3 s) → (b = true ↔ Free3 s) from fun b hb => ⟨fun h => ⟨fun j hj => hp.out j hj (by have := hnk.out; omega), hb.1 h⟩, fun h => hb.2 h.2⟩)
      have i1 : ¬ (n : Int) < (s.size : Int) := by omega
      go_wp2_with fail
      refine (HW.out _).mono ?_
      rintro e w1 ⟨b, rfl, hb, k1⟩
      have kw1 : Below w.heap.size w w1 := kwr.trans (k1.mono swr)
      have HB := Lib.hid hb
      clear hb k1
      go_wp2
      go_ret
      exact ⟨b, rfl, HF.out b HB.out, kw1⟩
set_option maxRecDepth 100000 in
set_option maxHeartbeats 1000000 in
theorem namedS_any (w : World) :
    Calls Try.prog 48 #[.string ⟨#[83]⟩] w fun e w' => e = .returned (.tuple #[mv ⟨0, -1, 1, 0⟩, .bool true]) ∧ Below w.heap.size w w' := by
  go_enter Try.func48, Try.ntmps48
  go_wp2
  refine ret_at (v := .tuple #[mv ⟨0, -1, 1, 0⟩, .bool true]) (fun w' => Blk w' (w.heap.size) 25 (mcs ⟨0, -1, 1, 0⟩)) (by repeat (first | (with_reducible assumption) | ((with_reducible refine Blk.new ?_); · first | omega | (simp; done) | (simp; omega)) | (with_reducible apply Blk.set4) | (with_reducible apply Blk.set3) | (with_reducible apply Blk.set2) | ((with_reducible refine Blk.put ?_ ?_); · first | omega | (simp; omega)) | (with_reducible refine Blk.old ?_) | (with_reducible refine Blk.drew ?_) | (with_reducible refine Blk.drewN ?_) | ((with_reducible refine Blk.below hb ?_ ?_); · first | omega | (simp; done) | (simp; omega)))) (fun w' hB => by have q := hB.m; simp [results, Try.results48, go_sem, q]) rfl ?_
  exact ⟨rfl, (by repeat (first | (with_reducible exact Below.refl _ _) | (with_reducible assumption) | (with_reducible refine Below.drew ?_) | (with_reducible refine Below.drewN ?_) | ((with_reducible refine Below.al ?_ ?_); · first | omega | (simp; done) | (simp; omega)) | ((with_reducible refine Below.sc ?_ ?_); · first | omega | (simp; done) | (simp; omega)) | ((with_reducible refine Below.thru hb ?_ ?_); · first | omega | (simp; done) | (simp; omega))))⟩
set_option maxRecDepth 100000 in
set_option maxHeartbeats 1000000 in
theorem namedU_any (w : World) :
    Calls Try.prog 48 #[.string ⟨#[85]⟩] w fun e w' => e = .returned (.tuple #[mv ⟨1, -1, 1, 0⟩, .bool true]) ∧ Below w.heap.size w w' := by
  go_enter Try.func48, Try.ntmps48
  go_wp2
  refine ret_at (v := .tuple #[mv ⟨1, -1, 1, 0⟩, .bool true]) (fun w' => Blk w' (w.heap.size) 25 (mcs ⟨1, -1, 1, 0⟩)) (by repeat (first | (with_reducible assumption) | ((with_reducible refine Blk.new ?_); · first | omega | (simp; done) | (simp; omega)) | (with_reducible apply Blk.set4) | (with_reducible apply Blk.set3) | (with_reducible apply Blk.set2) | ((with_reducible refine Blk.put ?_ ?_); · first | omega | (simp; omega)) | (with_reducible refine Blk.old ?_) | (with_reducible refine Blk.drew ?_) | (with_reducible refine Blk.drewN ?_) | ((with_reducible refine Blk.below hb ?_ ?_); · first | omega | (simp; done) | (simp; omega)))) (fun w' hB => by have q := hB.m; simp [results, Try.results48, go_sem, q]) rfl ?_
  exact ⟨rfl, (by repeat (first | (with_reducible exact Below.refl _ _) | (with_reducible assumption) | (with_reducible refine Below.drew ?_) | (with_reducible refine Below.drewN ?_) | ((with_reducible refine Below.al ?_ ?_); · first | omega | (simp; done) | (simp; omega)) | ((with_reducible refine Below.sc ?_ ?_); · first | omega | (simp; done) | (simp; omega)) | ((with_reducible refine Below.thru hb ?_ ?_); · first | omega | (simp; done) | (simp; omega))))⟩
set_option maxRecDepth 100000 in
set_option maxHeartbeats 1000000 in
theorem letter_any (b : UInt8) (w : World) (hb : L3 b) :
    Calls Try.prog 36 #[.int .u8 (b.toNat : Int)] w fun e w' => e = .returned (mv (lm3 b)) ∧ Below w.heap.size w w' := by
  rcases hb with rfl | rfl | rfl
  · go_enter Try.func36, Try.ntmps36
    go_wp2_with fail
    rw [show Utf8.encode 83 = (⟨#[83]⟩ : ByteArray) from rfl]
    go_wp2_with fail
    refine (namedS_any _).mono ?_
    rintro e w1 ⟨rfl, hb⟩
    have B1 : Blk w1 (w.heap.size) 25 (mcs ⟨0, 0, 0, 0⟩) := (by repeat (first | (with_reducible assumption) | ((with_reducible refine Blk.new ?_); · first | omega | (simp; done) | (simp; omega)) | (with_reducible apply Blk.set4) | (with_reducible apply Blk.set3) | (with_reducible apply Blk.set2) | ((with_reducible refine Blk.put ?_ ?_); · first | omega | (simp; omega)) | (with_reducible refine Blk.old ?_) | (with_reducible refine Blk.drew ?_) | (with_reducible refine Blk.drewN ?_) | ((with_reducible refine Blk.below hb ?_ ?_); · first | omega | (simp; done) | (simp; omega))))
    have lB1 := B1.lt
    have kw1 : Below w.heap.size w w1 := (by repeat (first | (with_reducible exact Below.refl _ _) | (with_reducible assumption) | (with_reducible refine Below.drew ?_) | (with_reducible refine Below.drewN ?_) | ((with_reducible refine Below.al ?_ ?_); · first | omega | (simp; done) | (simp; omega)) | ((with_reducible refine Below.sc ?_ ?_); · first | omega | (simp; done) | (simp; omega)) | ((with_reducible refine Below.thru hb ?_ ?_); · first | omega | (simp; done) | (simp; omega))))
    have sw1 := kw1.size
    clear hb
    have q0 := B1.m
    have q1 := B1.mf
    go_wp2
    refine ret_at (v := mv ⟨0, -1, 1, 0⟩) (fun w' => Blk w' (w.heap.size) 25 (mcs ⟨0, -1, 1, 0⟩)) (by repeat (first | (with_reducible assumption) | ((with_reducible refine Blk.new ?_); · first | omega | (simp; done) | (simp; omega)) | (with_reducible apply Blk.set4) | (with_reducible apply Blk.set3) | (with_reducible apply Blk.set2) | ((with_reducible refine Blk.put ?_ ?_); · first | omega | (simp; omega)) | (with_reducible refine Blk.old ?_) | (with_reducible refine Blk.drew ?_) | (with_reducible refine Blk.drewN ?_) | ((with_reducible refine Blk.below hb ?_ ?_); · first | omega | (simp; done) | (simp; omega)))) (fun w' hB => by have q := hB.m; simp [results, Try.results36, go_sem, q]) rfl ?_
    exact ⟨rfl, (by repeat (first | (with_reducible exact Below.refl _ _) | (with_reducible assumption) | (with_reducible refine Below.drew ?_) | (with_reducible refine Below.drewN ?_) | ((with_reducible refine Below.al ?_ ?_); · first | omega | (simp; done) | (simp; omega)) | ((with_reducible refine Below.sc ?_ ?_); · first | omega | (simp; done) | (simp; omega)) | ((with_reducible refine Below.thru hb ?_ ?_); · first | omega | (simp; done) | (simp; omega))))⟩
  · go_enter Try.func36, Try.ntmps36
    go_wp2_with fail
    rw [show Utf8.encode 85 = (⟨#[85]⟩ : ByteArray) from rfl]
    go_wp2_with fail
    refine (namedU_any _).mono ?_
    rintro e w1 ⟨rfl, hb⟩
    have B1 : Blk w1 (w.heap.size) 25 (mcs ⟨0, 0, 0, 0⟩) := (by repeat (first | (with_reducible assumption) | ((with_reducible refine Blk.new ?_); · first | omega | (simp; done) | (simp; omega)) | (with_reducible apply Blk.set4) | (with_reducible apply Blk.set3) | (with_reducible apply Blk.set2) | ((with_reducible refine Blk.put ?_ ?_); · first | omega | (simp; omega)) | (with_reducible refine Blk.old ?_) | (with_reducible refine Blk.drew ?_) | (with_reducible refine Blk.drewN ?_) | ((with_reducible refine Blk.below hb ?_ ?_); · first | omega | (simp; done) | (simp; omega))))
    have lB1 := B1.lt
    have kw1 : Below w.heap.size w w1 := (by repeat (first | (with_reducible exact Below.refl _ _) | (with_reducible assumption) | (with_reducible refine Below.drew ?_) | (with_reducible refine Below.drewN ?_) | ((with_reducible refine Below.al ?_ ?_); · first | omega | (simp; done) | (simp; omega)) | ((with_reducible refine Below.sc ?_ ?_); · first | omega | (simp; done) | (simp; omega)) | ((with_reducible refine Below.thru hb ?_ ?_); · first | omega | (simp; done) | (simp; omega))))
    have sw1 := kw1.size
    clear hb
    have q0 := B1.m
    have q1 := B1.mf
    go_wp2
    refine ret_at (v := mv ⟨1, -1, 1, 0⟩) (fun w' => Blk w' (w.heap.size) 25 (mcs ⟨1, -1, 1, 0⟩)) (by repeat (first | (with_reducible assumption) | ((with_reducible refine Blk.new ?_); · first | omega | (simp; done) | (simp; omega)) | (with_reducible apply Blk.set4) | (with_reducible apply Blk.set3) | (with_reducible apply Blk.set2) | ((with_reducible refine Blk.put ?_ ?_); · first | omega | (simp; omega)) | (with_reducible refine Blk.old ?_) | (with_reducible refine Blk.drew ?_) | (with_reducible refine Blk.drewN ?_) | ((with_reducible refine Blk.below hb ?_ ?_); · first | omega | (simp; done) | (simp; omega)))) (fun w' hB => by have q := hB.m; simp [results, Try.results36, go_sem, q]) rfl ?_
    exact ⟨rfl, (by repeat (first | (with_reducible exact Below.refl _ _) | (with_reducible assumption) | (with_reducible refine Below.drew ?_) | (with_reducible refine Below.drewN ?_) | ((with_reducible refine Below.al ?_ ?_); · first | omega | (simp; done) | (simp; omega)) | ((with_reducible refine Below.sc ?_ ?_); · first | omega | (simp; done) | (simp; omega)) | ((with_reducible refine Below.thru hb ?_ ?_); · first | omega | (simp; done) | (simp; omega))))⟩
  · go_enter Try.func36, Try.ntmps36
    go_wp2
    refine ret_at (v := mv ⟨0, -1, 1, -1⟩) (fun w' => Blk w' (w.heap.size) 25 (mcs ⟨0, -1, 1, -1⟩)) (by repeat (first | (with_reducible assumption) | ((with_reducible refine Blk.new ?_); · first | omega | (simp; done) | (simp; omega)) | (with_reducible apply Blk.set4) | (with_reducible apply Blk.set3) | (with_reducible apply Blk.set2) | ((with_reducible refine Blk.put ?_ ?_); · first | omega | (simp; omega)) | (with_reducible refine Blk.old ?_) | (with_reducible refine Blk.drew ?_) | (with_reducible refine Blk.drewN ?_) | ((with_reducible refine Blk.below hb ?_ ?_); · first | omega | (simp; done) | (simp; omega)))) (fun w' hB => by have q := hB.m; simp [results, Try.results36, go_sem, q]) rfl ?_
    exact ⟨rfl, (by repeat (first | (with_reducible exact Below.refl _ _) | (with_reducible assumption) | (with_reducible refine Below.drew ?_) | (with_reducible refine Below.drewN ?_) | ((with_reducible refine Below.al ?_ ?_); · first | omega | (simp; done) | (simp; omega)) | ((with_reducible refine Below.sc ?_ ?_); · first | omega | (simp; done) | (simp; omega)) | ((with_reducible refine Below.thru hb ?_ ?_); · first | omega | (simp; done) | (simp; omega))))⟩

theorem prodRes_form3 (o : Option M) : ∃ (r : M) (c : Int), prodRes o = .tuple #[mv r, .int .i64 c] := by
  cases o with
  | some r => exact ⟨r, 0, rfl⟩
  | none => exact ⟨⟨0, 0, 0, 0⟩, 3, rfl⟩

def encM3 : Enc M := ⟨4, fun m => [.int .i64 m.a, .int .i64 m.b, .int .i64 m.c, .int .i64 m.d], fun _ => rfl, by decide, fun x u hu => by simp at hu; rcases hu with rfl | rfl | rfl | rfl <;> rfl⟩
theorem infoM3 : (Try.prog.info? 25).map (fun i => (i.zero, i.size, i.bytes)) = some (some (.agg #[.int .i64 0, .int .i64 0, .int .i64 0, .int .i64 0]), 4, 32) := by kernel_rfl
theorem OwnK.mrow3 {w : World} {B g n cap : Nat} {ms : List M} (h : OwnK encM3 25 w B (.slice (some ⟨g, 0, none⟩) n cap) ms) : MRow w g 0 ms := by
  intro j hj
  have e := fun i u hu => OwnK.at (i := i) (u := u) h rfl (List.getElem?_eq_getElem hj) hu
  have e0 := e 0 _ rfl
  have e1 := e 1 _ rfl
  have e2 := e 2 _ rfl
  have e3 := e 3 _ rfl
  rw [Nat.zero_add]
  exact ⟨e0, e1, e2, e3⟩

/-- The letters' matrices, one behind the other. -/
def ms3 (s : ByteArray) (k : Nat) : List M := (s.data.toList.take k).map lm3
theorem bytes_get {s : ByteArray} {k : Nat} (h : k < s.size) : s.data.toList[k]'(by rw [Array.length_toList]; exact h) = s[k] := by rw [Array.getElem_toList]; rfl
theorem ms3_len (s : ByteArray) {k : Nat} (h : k ≤ s.size) : (ms3 s k).length = k := by
  unfold ms3
  rw [List.length_map, List.length_take, Array.length_toList]
  exact Nat.min_eq_left h
theorem ms3_succ (s : ByteArray) {k : Nat} (h : k < s.size) : ms3 s (k + 1) = ms3 s k ++ [lm3 s[k]] := by
  unfold ms3
  rw [List.take_succ_eq_append_getElem (by rw [Array.length_toList]; exact h), List.map_append, bytes_get h]
  rfl
theorem lm3_ents (b : UInt8) : (lm3 b).ents = true := by
  unfold lm3
  split
  · decide
  · split <;> decide
theorem ms3_ents (s : ByteArray) (k : Nat) : (ms3 s k).all M.ents = true := by
  unfold ms3
  rw [List.all_map, List.all_eq_true]
  intro b _
  exact lm3_ents b
/-- The product of a word's letters, if its numbers are not too great. -/
def mat3 (s : ByteArray) : Option M := prodFrom M.one (ms3 s s.size)
set_option maxRecDepth 8000 in
set_option maxHeartbeats 2000000 in
theorem ofWord_any (s : ByteArray) (w : World) (hs : s.size ≤ 400) (hall : ∀ j (h : j < s.size), L3 s[j]) :
    Calls Try.prog 23 #[.string s] w fun e w' => e = .returned (prodRes (mat3 s)) ∧ Below w.heap.size w w' := by
  have HINF := Lib.hid (info_parts infoM3)
  have HA := Lib.hid hall
  have HM := Lib.hid (show mat3 s = prodFrom M.one (ms3 s s.size) from rfl)
  obtain ⟨r, cd, hrc⟩ := prodRes_form3 (mat3 s)
  rw [hrc]
  have HRC := Lib.hid hrc
  clear hall hrc
  go_enter Try.func23, Try.ntmps23
  go_wp2_with fail
  refine forget (fun W_ => OwnK encM3 25 W_ (w.heap.size + 1) (.slice (some ⟨w.heap.size + 1, 0, none⟩) 0 0) [] ∧ Blk W_ w.heap.size 25 (mcs ⟨0, 0, 0, 0⟩) ∧ Below w.heap.size w W_) ⟨OwnK.of_blk (xs := []) (cs := #[]) (Blk.new (by simp)) (Nat.le_refl _) rfl (by simp [maxLen]), (by repeat (first | (with_reducible assumption) | ((with_reducible refine Blk.new ?_); · first | omega | (simp; done) | (simp; omega)) | (with_reducible apply Blk.set4) | (with_reducible apply Blk.set3) | (with_reducible apply Blk.set2) | ((with_reducible refine Blk.put ?_ ?_); · first | omega | (simp; omega)) | (with_reducible refine Blk.old ?_) | (with_reducible refine Blk.drew ?_) | (with_reducible refine Blk.drewN ?_) | ((with_reducible refine Blk.below hb ?_ ?_); · first | omega | (simp; done) | (simp; omega)))), (by repeat (first | (with_reducible exact Below.refl _ _) | (with_reducible assumption) | (with_reducible refine Below.drew ?_) | (with_reducible refine Below.drewN ?_) | ((with_reducible refine Below.al ?_ ?_); · first | omega | (simp; done) | (simp; omega)) | ((with_reducible refine Below.sc ?_ ?_); · first | omega | (simp; done) | (simp; omega)) | ((with_reducible refine Below.thru hb ?_ ?_); · first | omega | (simp; done) | (simp; omega))))⟩ ?_
  rintro w0 ⟨O0, B0, k0⟩
  go_loopw [4, 9] (fun v kk wr => ∃ (k g c : Nat), k ≤ s.size ∧ kk = .int .i64 k ∧ v = .slice (some ⟨g, 0, none⟩) k c ∧ OwnK encM3 25 wr (w.heap.size + 1) (.slice (some ⟨g, 0, none⟩) k c) (ms3 s k) ∧ Blk wr w.heap.size 25 (mcs ⟨0, 0, 0, 0⟩) ∧ Below w.heap.size w wr) (fun _ kk _ => s.size - (intOf kk).toNat)
  case atStart => exact ⟨0, _, _, Nat.zero_le _, rfl, rfl, O0, B0, k0⟩
  case round =>
    clear O0 B0 k0
    obtain ⟨k, g, c, hk, rfl, rfl, O, B, kwr⟩ := hrel
    have swr := kwr.size
    have lB := B.lt
    by_cases hlt : k < s.size
    · have i0 : (0 : Int) ≤ (k : Int) := by omega
      have i1 : (k : Int) < (s.size : Int) := by omega
      have HX := Lib.hid (ms3_succ s hlt)
      have HLT := Lib.hid (fun w' => letter_any s[k] w' (HA.out k hlt))
      obtain ⟨jM, hinf⟩ := HINF.out
      replace hinf := Lib.hid hinf
      have HL := Lib.hid (ms3_len s hk)
      go_wp2_with fail
      refine (HLT.out _).mono ?_
      rintro e w4 ⟨rfl, hb4⟩
      have O4 := O.below hb4
      have B4 := Blk.below hb4 lB B
      have k4 : Below w.heap.size w w4 := kwr.trans (hb4.mono swr)
      have s4 := k4.size
      have u4 := hb4.size
      clear hb4 O B kwr
      generalize lm3 s[k] = lm at *
      obtain ⟨ma, mb, mc, md⟩ := lm
      go_wp2_with (at_builtin; refine wpList_app encM3 rfl _ _ 62 25 32 rfl Try.underlying62 jM _ hinf.out.1 hinf.out.2.1 hinf.out.2.2.1 hinf.out.2.2.2 rfl (.slice (some ⟨g, 0, none⟩) k c) (ms3 s k) (w.heap.size + 1) w4.heap.size 1 #[.int .i64 ma, .int .i64 mb, .int .i64 mc, .int .i64 md] [⟨ma, mb, mc, md⟩] rfl ?o1 rfl ?b1 rfl ?l1 ?l2 (by simp; omega) ?_)
      case o1 => exact O4.alloc
      case b1 => exact Blk.new (by simp)
      case l1 => (try simp only [List.length_cons, List.length_nil]); have := HL.out; unfold maxLen; omega
      case l2 => (try simp only [List.length_cons, List.length_nil]); have := HL.out; omega
      intro v' w5 O5 hg
      rw [← HX.out] at O5
      have B5 : Blk w5 w.heap.size 25 (mcs ⟨0, 0, 0, 0⟩) := Blk.grownK hg (e := encM3) (E := 25) (B := w.heap.size + 1) (xs := ms3 s k) O4.alloc (by omega) (Blk.old B4)
      have k5 : Below w.heap.size w w5 := Below.grownK hg (e := encM3) (E := 25) (B := w.heap.size + 1) (xs := ms3 s k) O4.alloc (by omega) (by simp; omega) (by repeat (first | (with_reducible exact Below.refl _ _) | (with_reducible assumption) | (with_reducible refine Below.drew ?_) | (with_reducible refine Below.drewN ?_) | ((with_reducible refine Below.al ?_ ?_); · first | omega | (simp; done) | (simp; omega)) | ((with_reducible refine Below.sc ?_ ?_); · first | omega | (simp; done) | (simp; omega)) | ((with_reducible refine Below.thru hb ?_ ?_); · first | omega | (simp; done) | (simp; omega))))
      rcases O5.form with ⟨-, h2⟩ | ⟨g', c', h1, -⟩
      · rw [HX.out] at h2; simp at h2
      rw [ms3_len s hlt] at h1
      subst h1
      clear hg
      go_wp2
      go_roundw
      case rel => exact ⟨k + 1, g', c', by omega, by go_num, rfl, O5, B5, k5⟩
      case measure => simp [intOf]; omega
    · obtain rfl : k = s.size := by omega
      have HR := Lib.hid O.mrow3
      have hle : (ms3 s s.size).length ≤ 1000000 := by rw [ms3_len s (Nat.le_refl _)]; omega
      have HE := Lib.hid (ms3_ents s s.size)
      have HC := Lib.hid (fun (w' : World) (hx : MRow w' g 0 (ms3 s s.size)) => product_any g 0 c (ms3 s s.size) w' hle hx HE.out)
      rw [← HM.out, ms3_len s (Nat.le_refl _)] at HC
      rw [HRC.out] at HC
      clear hle O
      go_wp2_with fail
      refine (HC.out _ HR.out).mono ?_
      rintro e w6 ⟨rfl, hb⟩
      have B6 : Blk w6 w.heap.size 25 (mcs ⟨0, 0, 0, 0⟩) := (by repeat (first | (with_reducible assumption) | ((with_reducible refine Blk.new ?_); · first | omega | (simp; done) | (simp; omega)) | (with_reducible apply Blk.set4) | (with_reducible apply Blk.set3) | (with_reducible apply Blk.set2) | ((with_reducible refine Blk.put ?_ ?_); · first | omega | (simp; omega)) | (with_reducible refine Blk.old ?_) | (with_reducible refine Blk.drew ?_) | (with_reducible refine Blk.drewN ?_) | ((with_reducible refine Blk.below hb ?_ ?_); · first | omega | (simp; done) | (simp; omega))))
      have k6 : Below w.heap.size w w6 := (by repeat (first | (with_reducible exact Below.refl _ _) | (with_reducible assumption) | (with_reducible refine Below.drew ?_) | (with_reducible refine Below.drewN ?_) | ((with_reducible refine Below.al ?_ ?_); · first | omega | (simp; done) | (simp; omega)) | ((with_reducible refine Below.sc ?_ ?_); · first | omega | (simp; done) | (simp; omega)) | ((with_reducible refine Below.thru hb ?_ ?_); · first | omega | (simp; done) | (simp; omega))))
      have b6 := B6.m
      have f6 := B6.mf
      have lB6 := B6.lt
      clear hb
      go_wp2
      refine ret_at (v := .tuple #[mv r, .int .i64 cd]) (fun w' => Blk w' (w.heap.size) 25 (mcs r)) (by repeat (first | (with_reducible assumption) | ((with_reducible refine Blk.new ?_); · first | omega | (simp; done) | (simp; omega)) | (with_reducible apply Blk.set4) | (with_reducible apply Blk.set3) | (with_reducible apply Blk.set2) | ((with_reducible refine Blk.put ?_ ?_); · first | omega | (simp; omega)) | (with_reducible refine Blk.old ?_) | (with_reducible refine Blk.drew ?_) | (with_reducible refine Blk.drewN ?_) | ((with_reducible refine Blk.below hb ?_ ?_); · first | omega | (simp; done) | (simp; omega)))) (fun w' hB => by have q := hB.m; simp [results, Try.results23, go_sem, q]) rfl ?_
      exact ⟨rfl, (by repeat (first | (with_reducible exact Below.refl _ _) | (with_reducible assumption) | (with_reducible refine Below.drew ?_) | (with_reducible refine Below.drewN ?_) | ((with_reducible refine Below.al ?_ ?_); · first | omega | (simp; done) | (simp; omega)) | ((with_reducible refine Below.sc ?_ ?_); · first | omega | (simp; done) | (simp; omega)) | ((with_reducible refine Below.thru hb ?_ ?_); · first | omega | (simp; done) | (simp; omega))))⟩
/-- What MatrixOfFree gives. -/
def GivesMF (s : ByteArray) (w : World) (e : Ending) (w' : World) : Prop := Below w.heap.size w w' ∧ ((Free3 s ∧ e = .returned (prodRes (mat3 s))) ∨ (¬ Free3 s ∧ e = .returned (.tuple #[mv ⟨0, 0, 0, 0⟩, .int .i64 2])))
set_option maxRecDepth 8000 in
set_option maxHeartbeats 1000000 in
theorem MatrixOfFree_any (s : ByteArray) (w : World) (hs : s.size ≤ 400) : Calls Try.prog 9 #[.string s] w (GivesMF s w) := by
  have HF := Lib.hid (fun w' => isFree_any s w' (by omega))
  have HO := Lib.hid (fun w' h => ofWord_any s w' hs h)
  have HG := Lib.hid (show ∀ e w', Below w.heap.size w w' → ((Free3 s ∧ e = .returned (prodRes (mat3 s))) ∨ (¬ Free3 s ∧ e = .returned (.tuple #[mv ⟨0, 0, 0, 0⟩, .int .i64 2]))) → GivesMF s w e w' from fun e w' h1 h2 => ⟨h1, h2⟩)
  obtain ⟨r, cd, hrc⟩ := prodRes_form3 (mat3 s)
  rw [hrc] at HO HG
  generalize GivesMF s w = GF at *
  clear hrc
  go_enter Try.func9, Try.ntmps9
  go_wp2_with fail
  refine (HF.out _).mono ?_
  rintro e w1 ⟨b, rfl, hb, hb1⟩
  have B1 : Blk w1 w.heap.size 25 (mcs ⟨0, 0, 0, 0⟩) := Blk.below hb1 (by simp) (Blk.new rfl)
  have k1 : Below w.heap.size w w1 := ((Below.refl w.heap.size w).alloc (Nat.le_refl _) _).trans (hb1.mono (by simp))
  have HB := Lib.hid hb
  have s1 := k1.size
  clear hb hb1
  cases b with
  | false =>
    have HN := Lib.hid (show ¬ Free3 s from fun h => by have := HB.out.2 h; cases this)
    have q0 := B1.m
    have q1 := B1.mf
    have l1 := B1.lt
    go_wp2
    refine ret_at (v := .tuple #[mv ⟨0, 0, 0, 0⟩, .int .i64 2]) (fun w' => Blk w' (w.heap.size) 25 (mcs ⟨0, 0, 0, 0⟩)) (by repeat (first | (with_reducible assumption) | ((with_reducible refine Blk.new ?_); · first | omega | (simp; done) | (simp; omega)) | (with_reducible apply Blk.set4) | (with_reducible apply Blk.set3) | (with_reducible apply Blk.set2) | ((with_reducible refine Blk.put ?_ ?_); · first | omega | (simp; omega)) | (with_reducible refine Blk.old ?_) | (with_reducible refine Blk.drew ?_) | (with_reducible refine Blk.drewN ?_) | ((with_reducible refine Blk.below hb ?_ ?_); · first | omega | (simp; done) | (simp; omega)))) (fun w' hB => by have q := hB.m; simp [results, Try.results9, go_sem, q]) rfl ?_
    exact HG.out _ _ (by repeat (first | (with_reducible exact Below.refl _ _) | (with_reducible assumption) | (with_reducible refine Below.drew ?_) | (with_reducible refine Below.drewN ?_) | ((with_reducible refine Below.al ?_ ?_); · first | omega | (simp; done) | (simp; omega)) | ((with_reducible refine Below.sc ?_ ?_); · first | omega | (simp; done) | (simp; omega)) | ((with_reducible refine Below.thru hb ?_ ?_); · first | omega | (simp; done) | (simp; omega)))) (.inr ⟨HN.out, rfl⟩)
  | true =>
    have HN := Lib.hid (HB.out.1 rfl)
    have l1 := B1.lt
    go_wp2_with fail
    refine (HO.out _ HN.out.2.1).mono ?_
    rintro e w2 ⟨rfl, hb⟩
    have B2 : Blk w2 w.heap.size 25 (mcs ⟨0, 0, 0, 0⟩) := (by repeat (first | (with_reducible assumption) | ((with_reducible refine Blk.new ?_); · first | omega | (simp; done) | (simp; omega)) | (with_reducible apply Blk.set4) | (with_reducible apply Blk.set3) | (with_reducible apply Blk.set2) | ((with_reducible refine Blk.put ?_ ?_); · first | omega | (simp; omega)) | (with_reducible refine Blk.old ?_) | (with_reducible refine Blk.drew ?_) | (with_reducible refine Blk.drewN ?_) | ((with_reducible refine Blk.below hb ?_ ?_); · first | omega | (simp; done) | (simp; omega))))
    have k2 : Below w.heap.size w w2 := (by repeat (first | (with_reducible exact Below.refl _ _) | (with_reducible assumption) | (with_reducible refine Below.drew ?_) | (with_reducible refine Below.drewN ?_) | ((with_reducible refine Below.al ?_ ?_); · first | omega | (simp; done) | (simp; omega)) | ((with_reducible refine Below.sc ?_ ?_); · first | omega | (simp; done) | (simp; omega)) | ((with_reducible refine Below.thru hb ?_ ?_); · first | omega | (simp; done) | (simp; omega))))
    have q0 := B2.m
    have q1 := B2.mf
    have l2 := B2.lt
    clear hb
    go_wp2
    refine ret_at (v := .tuple #[mv r, .int .i64 cd]) (fun w' => Blk w' (w.heap.size) 25 (mcs r)) (by repeat (first | (with_reducible assumption) | ((with_reducible refine Blk.new ?_); · first | omega | (simp; done) | (simp; omega)) | (with_reducible apply Blk.set4) | (with_reducible apply Blk.set3) | (with_reducible apply Blk.set2) | ((with_reducible refine Blk.put ?_ ?_); · first | omega | (simp; omega)) | (with_reducible refine Blk.old ?_) | (with_reducible refine Blk.drew ?_) | (with_reducible refine Blk.drewN ?_) | ((with_reducible refine Blk.below hb ?_ ?_); · first | omega | (simp; done) | (simp; omega)))) (fun w' hB => by have q := hB.m; simp [results, Try.results9, go_sem, q]) rfl ?_
    exact HG.out _ _ (by repeat (first | (with_reducible exact Below.refl _ _) | (with_reducible assumption) | (with_reducible refine Below.drew ?_) | (with_reducible refine Below.drewN ?_) | ((with_reducible refine Below.al ?_ ?_); · first | omega | (simp; done) | (simp; omega)) | ((with_reducible refine Below.sc ?_ ?_); · first | omega | (simp; done) | (simp; omega)) | ((with_reducible refine Below.thru hb ?_ ?_); · first | omega | (simp; done) | (simp; omega)))) (.inl ⟨HN.out, rfl⟩)

end Go.Proofs.Ytcapmljnhflopaa
