/- Actions: the laws' functions on them. -/
import Derived.Test.YtcapmljnhflopaaRow
import Derived.Test.YtcapmljnhflopaaLaw
import Derived.Deep.OwnRows
namespace Go.Proofs.Ytcapmljnhflopaa
open Go.RowKit

theorem infoI : (Try.prog.info? 2).map (fun i => (i.zero, i.size, i.bytes)) = some (some (.int .i64 0), 1, 8) := by kernel_rfl

/-- The first k of the numbers, and zeros. -/
def cpy (xs : List Int) (k : Nat) : Array Value := ((xs.take k).map (Value.int .i64) ++ List.replicate (xs.length - k) (Value.int .i64 0)).toArray
theorem cpy_size (xs : List Int) (k : Nat) (h : k ≤ xs.length) : (cpy xs k).size = xs.length := by simp [cpy]; omega
theorem cpy_set (xs : List Int) (k : Nat) (h : k < xs.length) : (cpy xs k).setIfInBounds k (.int .i64 xs[k]) = cpy xs (k + 1) := by
  apply Array.toList_inj.1
  apply List.ext_getElem?
  intro j
  simp only [cpy, Array.toList_setIfInBounds, List.getElem?_set, List.length_append, List.length_map, List.length_take, List.length_replicate]
  rcases Nat.lt_trichotomy j k with e | e | e
  · rw [if_neg (by omega), List.getElem?_append_left (by simp; omega), List.getElem?_append_left (by simp; omega)]
    simp [e, show j < k + 1 by omega]
  · subst e
    rw [if_pos rfl, if_pos (by omega), List.getElem?_append_left (by simp; omega)]
    simp [List.getElem?_eq_getElem h]
  · rw [if_neg (by omega), List.getElem?_append_right (by simp; omega), List.getElem?_append_right (by simp; omega)]
    simp only [List.length_map, List.length_take, List.getElem?_replicate]
    by_cases hj : j < xs.length
    · rw [if_pos (by omega), if_pos (by omega)]
    · rw [if_neg (by omega), if_neg (by omega)]

theorem made_cpy (xs : List Int) : madeCells #[Value.int .i64 0] xs.length = cpy xs 0 := by
  apply Array.ext
  · rw [size_madeCells, cpy_size xs 0 (by omega)]
  · intro j h1 h2
    simp [madeCells, cpy, Nat.mod_one]
theorem cpy_all (xs : List Int) : (cpy xs xs.length).toList = xs.map (Value.int .i64) := by simp [cpy]

theorem Blk.p2 {w : World} {g : Nat} {E : TypeId} {x y : Value} (h : Blk w g E #[x, y]) : w.cell? ⟨g, 0, none⟩ = some x ∧ w.cell? ⟨g, 1, none⟩ = some y := ⟨h.at rfl, h.at rfl⟩
structure Act where
  S : List Int
  T : List Int
/-- Two slices of the call's own, in blocks of their own. -/
def OwnA (w : World) (B : Nat) (s t : Value) (X : Act) : Prop := Own w B s X.S ∧ Own w B t X.T ∧ ∀ g, s.ownBlock = some g → t.ownBlock ≠ some g

def szR (l n : Int) : Int := if l - n < 0 then -1 else l - n
/-- What is left of the bulk. -/
def szA (S T : List Int) : Int := if szR 1048576 S.length < 0 then -1 else if szR (szR 1048576 S.length) T.length < 0 then -1 else szR (szR 1048576 S.length) T.length
theorem szR_bd {l n : Int} (h : 0 ≤ l ∧ l ≤ 1048576) (hn : 0 ≤ n) (k : ¬ szR l n < 0) : 0 ≤ szR l n ∧ szR l n ≤ 1048576 ∧ n ≤ 1048576 := by
  unfold szR at *; split at * <;> omega
theorem szA_ok {S T : List Int} (h : ¬ szA S T < 0) : S.length ≤ 1048576 ∧ T.length ≤ 1048576 := by
  unfold szA at h
  split at h
  · omega
  · have a := szR_bd (l := 1048576) (n := S.length) (by omega) (by omega) (by assumption)
    split at h
    · omega
    · have b := szR_bd (l := szR 1048576 S.length) (n := T.length) (by omega) (by omega) (by assumption)
      omega
end Go.Proofs.Ytcapmljnhflopaa
