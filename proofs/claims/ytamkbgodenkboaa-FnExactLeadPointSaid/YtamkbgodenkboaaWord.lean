/- Words of letters: both tests. -/
import Derived.Test.YtamkbgodenkboaaStep
import Derived.Lib.Bytealg
import Derived.Laws.Externs
namespace Go.Proofs.Ytamkbgodenkboaa
open Go.RowKit

set_option maxRecDepth 100000 in
set_option maxHeartbeats 1000000 in
theorem sliteIndexByte_any (s : ByteArray) (c : Int) (w : World) :
    Calls Try.prog 156 #[.string s, .int .u8 c] w fun e w' => e = .returned (.int .i64 (Lib.indexByte s.data.toList c.toNat.toUInt8)) ∧ w = w' := by
  go_enter Try.func156, Try.ntmps156
  go_wp2
  rw [run_callFunc_extern Try.func165 (by kernel_rfl) (by kernel_rfl) (by kernel_rfl) (e := Extern.BytealgIndexByte.indexByte) (by kernel_rfl), Lib.run_indexByteString]
  simp only [Result.andThen]
  rw [Oper.upon_value]
  go_wp2
  go_ret
  exact ⟨rfl, rfl⟩
set_option maxRecDepth 100000 in
set_option maxHeartbeats 1000000 in
theorem stringsIndexByte_any (s : ByteArray) (c : Int) (w : World) :
    Calls Try.prog 133 #[.string s, .int .u8 c] w fun e w' => e = .returned (.int .i64 (Lib.indexByte s.data.toList c.toNat.toUInt8)) ∧ w = w' := by
  go_enter Try.func133, Try.ntmps133
  go_wp2_with (go_at_call 156; refine (sliteIndexByte_any _ _ _).mono ?_; rintro e w' ⟨rfl, rfl⟩)
  go_ret
  exact ⟨rfl, rfl⟩

/-- Is it one of the letters S, T, t, L, l? -/
def letB (c : UInt8) : Bool := c == 83 || c == 84 || c == 116 || c == 76 || c == 108
theorem letB_index (c : UInt8) : (decide (Lib.indexByte [83, 84, 116, 76, 108] c < 0)) = !letB c := by
  by_cases h1 : c = 83
  · subst h1; decide
  by_cases h2 : c = 84
  · subst h2; decide
  by_cases h3 : c = 116
  · subst h3; decide
  by_cases h4 : c = 76
  · subst h4; decide
  by_cases h5 : c = 108
  · subst h5; decide
  have e1 : ((83 : UInt8) == c) = false := beq_eq_false_iff_ne.2 (fun e => h1 e.symm)
  have e2 : ((84 : UInt8) == c) = false := beq_eq_false_iff_ne.2 (fun e => h2 e.symm)
  have e3 : ((116 : UInt8) == c) = false := beq_eq_false_iff_ne.2 (fun e => h3 e.symm)
  have e4 : ((76 : UInt8) == c) = false := beq_eq_false_iff_ne.2 (fun e => h4 e.symm)
  have e5 : ((108 : UInt8) == c) = false := beq_eq_false_iff_ne.2 (fun e => h5 e.symm)
  have f1 : (c == 83) = false := beq_eq_false_iff_ne.2 h1
  have f2 : (c == 84) = false := beq_eq_false_iff_ne.2 h2
  have f3 : (c == 116) = false := beq_eq_false_iff_ne.2 h3
  have f4 : (c == 76) = false := beq_eq_false_iff_ne.2 h4
  have f5 : (c == 108) = false := beq_eq_false_iff_ne.2 h5
  simp only [Lib.indexByte, letB, e1, e2, e3, e4, e5, f1, f2, f3, f4, f5]
  rfl
theorem indexByte5_any (c : UInt8) (w : World) :
    Calls Try.prog 133 #[.string ⟨#[83, 84, 116, 76, 108]⟩, .int .u8 (c.toNat : Int)] w fun e w' => e = .returned (.int .i64 (Lib.indexByte [83, 84, 116, 76, 108] c)) ∧ w = w' := by
  have := stringsIndexByte_any ⟨#[83, 84, 116, 76, 108]⟩ (c.toNat : Int) w
  rw [Int.toNat_natCast, show c.toNat.toUInt8 = c by simp] at this
  exact this
/-- Is it a word of these letters? -/
def wordTo (s : ByteArray) (k : Nat) : Prop := ∀ j (h : j < s.size), j < k → letB s[j] = true
def wordB (s : ByteArray) : Bool := decide (s.size ≤ 200) && (List.range s.size).all fun j => letB s[j]!
theorem wordB_no {s : ByteArray} {j : Nat} (h : j < s.size) (hn : letB s[j] = false) : wordB s = false := by
  unfold wordB
  rw [Bool.and_eq_false_iff]
  right
  rw [List.all_eq_false]
  exact ⟨j, List.mem_range.2 h, by rw [getElem!_pos s j h, hn]; decide⟩
theorem wordB_all {s : ByteArray} (h : wordTo s s.size) : wordB s = decide (s.size ≤ 200) := by
  unfold wordB
  rw [List.all_eq_true.2, Bool.and_true]
  intro j hj
  have hj := List.mem_range.1 hj
  rw [getElem!_pos s j hj]
  exact h j hj hj

set_option maxRecDepth 100000 in
set_option maxHeartbeats 1000000 in
theorem isWord_any (s : ByteArray) (w : World) (hs : s.size ≤ 140737488351232) :
    Calls Try.prog 94 #[.string s, .string ⟨#[83, 84, 116, 76, 108]⟩] w fun e w' => e = .returned (.bool (wordB s)) ∧ Below w.heap.size w w' := by
  go_enter Try.func94, Try.ntmps94
  go_wp2
  go_loopw [8] (fun i wr => ∃ k : Nat, k ≤ s.size ∧ i = .int .i64 k ∧ Hid (wordTo s k) ∧ Below w.heap.size w wr) (fun i _ => s.size - (intOf i).toNat)
  case atStart => exact ⟨0, Nat.zero_le _, rfl, Lib.hid (fun j h hj => absurd hj (by omega)), (by repeat (first | (with_reducible exact Below.refl _ _) | (with_reducible assumption) | (with_reducible refine Below.drew ?_) | (with_reducible refine Below.drewN ?_) | ((with_reducible refine Below.al ?_ ?_); · first | omega | (simp; done) | (simp; omega)) | ((with_reducible refine Below.sc ?_ ?_); · first | omega | (simp; done) | (simp; omega)) | ((with_reducible refine Below.thru hb ?_ ?_); · first | omega | (simp; done) | (simp; omega))))⟩
  case round =>
    obtain ⟨k, hk, rfl, hp, kwr⟩ := hrel
    have swr := kwr.size
    by_cases hlt : k < s.size
    · have i0 : (0 : Int) ≤ (k : Int) := by omega
      have i1 : (k : Int) < (s.size : Int) := by omega
      have HN := Lib.hid (fun h => wordB_no (s := s) hlt h)
      have HS := Lib.hid (fun (h : letB s[k] = true) => (show wordTo s (k + 1) from fun j h1 h2 => if e : j < k then hp.out j h1 e else by
        obtain rfl : j = k := by omega
        exact h))
      have HI := letB_index s[k]
      go_wp2_with fail
      refine (indexByte5_any s[k] _).mono ?_
      generalize Lib.indexByte [83, 84, 116, 76, 108] s[k] = r at *
      rintro e w1 ⟨rfl, rfl⟩
      cases hl : letB s[k] with
      | false =>
        rw [hl] at HI
        have HF := Lib.hid (HN.out hl)
        have hr : r < 0 := of_decide_eq_true HI
        clear HI hl
        go_wp2
        go_ret
        exact ⟨ret_bool HF.out.symm, kwr⟩
      | true =>
        rw [hl] at HI
        have HF := Lib.hid (HS.out hl)
        have hr : ¬ r < 0 := of_decide_eq_false HI
        clear HI hl
        go_wp2
        go_roundw
        case rel => exact ⟨k + 1, by omega, by go_num, HF, kwr⟩
        case measure => simp [intOf]; omega
    · obtain rfl : k = s.size := by omega
      have HF := Lib.hid (wordB_all hp.out)
      go_wp2
      go_ret
      exact ⟨ret_bool (by rw [HF.out]; first | rfl | (rw [Bool.eq_iff_iff]; simp; omega)), kwr⟩

end Go.Proofs.Ytamkbgodenkboaa
