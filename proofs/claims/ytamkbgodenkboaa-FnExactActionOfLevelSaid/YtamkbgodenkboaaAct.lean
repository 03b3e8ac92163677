/- Actions: the laws' functions on them. -/
import Derived.Test.YtamkbgodenkboaaRow
import Derived.Test.YtamkbgodenkboaaLaw
import Derived.Deep.OwnRows
namespace Go.Proofs.Ytamkbgodenkboaa
open Go.RowKit

theorem infoI : (Try.prog.info? 2).map (fun i => (i.zero, i.size, i.bytes)) = some (some (.int .i64 0), 1, 8) := by kernel_rfl

/-- The first k of the numbers, and zeros. -/
def cpy (xs : List Int) (k : Nat) : Array Value := ((xs.take k).map (Value.int .i64) ++ List.replicate (xs.length - k) (Value.int .i64 0)).toArray
theorem cpy_size (xs : List Int) (k : Nat) (h : k ≤ xs.length) : (cpy xs k).size = xs.length := by simp [cpy]; omega
theorem cpy_set (xs : List Int) (k : Nat) (h : k < xs.length) : (cpy xs k).setIfInBounds k (.int .i64 xs[k]) = cpy xs (k + 1) := by
  apply Array.toList_inj.1
  apply List.ext_getElem?
  intro j
  simp only [cpy, Array.toList_setIfInBounds, List.getElem?_set, List.length_append, List.length_map, List.length_take, List.length_replicate]
  rcases Nat.lt_trichotomy j k with e | e | e
  · rw [if_neg (by omega), List.getElem?_append_left (by simp; omega), List.getElem?_append_left (by simp; omega)]
    simp [e, show j < k + 1 by omega]
  · subst e
    rw [if_pos rfl, if_pos (by omega), List.getElem?_append_left (by simp; omega)]
    simp [List.getElem?_eq_getElem h]
  · rw [if_neg (by omega), List.getElem?_append_right (by simp; omega), List.getElem?_append_right (by simp; omega)]
    simp only [List.length_map, List.length_take, List.getElem?_replicate]
    by_cases hj : j < xs.length
    · rw [if_pos (by omega), if_pos (by omega)]
    · rw [if_neg (by omega), if_neg (by omega)]

theorem made_cpy (xs : List Int) : madeCells #[Value.int .i64 0] xs.length = cpy xs 0 := by
  apply Array.ext
  · rw [size_madeCells, cpy_size xs 0 (by omega)]
  · intro j h1 h2
    simp [madeCells, cpy, Nat.mod_one]
theorem cpy_all (xs : List Int) : (cpy xs xs.length).toList = xs.map (Value.int .i64) := by simp [cpy]

set_option maxHeartbeats 1000000 in
theorem toInt64S_any (v : Value) (xs : List Int) (w : World) (h : SlIn w .i64 v xs) (hl : xs.length ≤ 1048576) :
    Calls Try.prog 26 #[v] w fun e w' => ∃ v', e = .returned v' ∧ Own w' w.heap.size v' xs ∧ Below w.heap.size w w' := by
  obtain ⟨ao, c, rfl, ha⟩ := h.form
  have HA := Lib.hid ha
  have HS := Lib.hid h
  clear ha h
  have hmk := run_make_row' (P := Try.prog) 22 2 (.int .i64 0) 8 Try.underlying22 infoI rfl .i64 .i64 xs.length (by omega) (by omega)
  go_enter Try.func26, Try.ntmps26
  go_wp2
  go_loopw [4] (fun i wr => ∃ k : Nat, k ≤ xs.length ∧ i = .int .i64 k ∧ Blk wr w.heap.size 2 (cpy xs k) ∧ Below w.heap.size w wr) (fun i _ => xs.length - (intOf i).toNat)
  case atStart => exact ⟨0, Nat.zero_le _, rfl, by rw [made_cpy]; exact (by repeat (first | (with_reducible assumption) | ((with_reducible refine Blk.new ?_); · first | omega | (simp; done) | (simp; omega)) | (with_reducible apply Blk.set4) | (with_reducible apply Blk.set3) | (with_reducible apply Blk.set2) | ((with_reducible refine Blk.put ?_ ?_); · first | omega | (simp; omega)) | (with_reducible refine Blk.old ?_) | (with_reducible refine Blk.drew ?_) | (with_reducible refine Blk.drewN ?_) | ((with_reducible refine Blk.below hb ?_ ?_); · first | omega | (simp; done) | (simp; omega)))), (by repeat (first | (with_reducible exact Below.refl _ _) | (with_reducible assumption) | (with_reducible refine Below.drew ?_) | (with_reducible refine Below.drewN ?_) | ((with_reducible refine Below.al ?_ ?_); · first | omega | (simp; done) | (simp; omega)) | ((with_reducible refine Below.sc ?_ ?_); · first | omega | (simp; done) | (simp; omega)) | ((with_reducible refine Below.thru hb ?_ ?_); · first | omega | (simp; done) | (simp; omega))))⟩
  case round =>
    obtain ⟨k, hk, rfl, B, kwr⟩ := hrel
    by_cases hlt : k < xs.length
    · obtain ⟨a, rfl, hx⟩ := HA.out (by omega)
      have c1 : wr.cell? (a.add k) = some (.int .i64 xs[k]) := by
        have e := hx k hlt
        rw [kwr.cell (block_lt_of_cell e :)]
        exact e
      have hz : k < (cpy xs k).size := by rw [cpy_size xs k hk]; exact hlt
      have c0 := B.at (i := k) (Array.getElem?_eq_getElem hz)
      have f0 := B.free k
      have i0 : (0 : Int) ≤ (k : Int) := by omega
      have i1 : (k : Int) < (xs.length : Int) := by omega
      have H := Lib.hid (And.intro B kwr)
      clear B kwr hx
      go_wp2
      go_roundw
      case rel => exact ⟨k + 1, by omega, by go_num, by rw [← cpy_set xs k hlt]; exact H.out.1.set, H.out.2.setCell (Nat.le_refl _) _⟩
      case measure => simp [intOf]; omega
    · obtain rfl : k = xs.length := by omega
      go_wp2
      go_ret
      exact ⟨_, rfl, Own.of_blk B (Nat.le_refl _) (cpy_all xs) (by unfold maxLen; omega), kwr⟩

theorem Blk.p2 {w : World} {g : Nat} {E : TypeId} {x y : Value} (h : Blk w g E #[x, y]) : w.cell? ⟨g, 0, none⟩ = some x ∧ w.cell? ⟨g, 1, none⟩ = some y := ⟨h.at rfl, h.at rfl⟩
structure Act where
  S : List Int
  T : List Int
/-- Two slices of the call's own, in blocks of their own. -/
def OwnA (w : World) (B : Nat) (s t : Value) (X : Act) : Prop := Own w B s X.S ∧ Own w B t X.T ∧ ∀ g, s.ownBlock = some g → t.ownBlock ≠ some g

set_option maxHeartbeats 1000000 in
theorem toAction_any (s t : Value) (S T : List Int) (w : World) (h : SlIn w .i64 s S ∧ SlIn w .i64 t T) (hl : S.length ≤ 1048576 ∧ T.length ≤ 1048576) :
    Calls Try.prog 18 #[.agg #[s, t]] w fun e w' => ∃ s' t', e = .returned (.agg #[s', t']) ∧ OwnA w' w.heap.size s' t' ⟨S, T⟩ ∧ Below w.heap.size w w' := by
  have HS := Lib.hid h
  clear h
  go_enter Try.func18, Try.ntmps18
  go_wp2_with fail
  refine (toInt64S_any s S _ (HS.out.1.below (by repeat (first | (with_reducible exact Below.refl _ _) | (with_reducible assumption) | (with_reducible refine Below.drew ?_) | (with_reducible refine Below.drewN ?_) | ((with_reducible refine Below.al ?_ ?_); · first | omega | (simp; done) | (simp; omega)) | ((with_reducible refine Below.sc ?_ ?_); · first | omega | (simp; done) | (simp; omega)) | ((with_reducible refine Below.thru hb ?_ ?_); · first | omega | (simp; done) | (simp; omega))))) hl.1).mono ?_
  rintro e w1 ⟨s', rfl, O1, hb⟩
  obtain ⟨sa, sc, hs', _⟩ := O1.slIn.form
  subst hs'
  have hbs := hb.size
  simp at hbs O1
  have B0 : Blk w1 w.heap.size 24 #[s, t] := (by repeat (first | (with_reducible assumption) | ((with_reducible refine Blk.new ?_); · first | omega | (simp; done) | (simp; omega)) | (with_reducible apply Blk.set4) | (with_reducible apply Blk.set3) | (with_reducible apply Blk.set2) | ((with_reducible refine Blk.put ?_ ?_); · first | omega | (simp; omega)) | (with_reducible refine Blk.old ?_) | (with_reducible refine Blk.drew ?_) | (with_reducible refine Blk.drewN ?_) | ((with_reducible refine Blk.below hb ?_ ?_); · first | omega | (simp; done) | (simp; omega))))
  have B1 : Blk w1 (w.heap.size + 1) 27 #[.slice none 0 0, .slice none 0 0] := (by repeat (first | (with_reducible assumption) | ((with_reducible refine Blk.new ?_); · first | omega | (simp; done) | (simp; omega)) | (with_reducible apply Blk.set4) | (with_reducible apply Blk.set3) | (with_reducible apply Blk.set2) | ((with_reducible refine Blk.put ?_ ?_); · first | omega | (simp; omega)) | (with_reducible refine Blk.old ?_) | (with_reducible refine Blk.drew ?_) | (with_reducible refine Blk.drewN ?_) | ((with_reducible refine Blk.below hb ?_ ?_); · first | omega | (simp; done) | (simp; omega))))
  have B2 : Blk w1 (w.heap.size + 1 + 1) 27 #[.slice none 0 0, .slice none 0 0] := (by repeat (first | (with_reducible assumption) | ((with_reducible refine Blk.new ?_); · first | omega | (simp; done) | (simp; omega)) | (with_reducible apply Blk.set4) | (with_reducible apply Blk.set3) | (with_reducible apply Blk.set2) | ((with_reducible refine Blk.put ?_ ?_); · first | omega | (simp; omega)) | (with_reducible refine Blk.old ?_) | (with_reducible refine Blk.drew ?_) | (with_reducible refine Blk.drewN ?_) | ((with_reducible refine Blk.below hb ?_ ?_); · first | omega | (simp; done) | (simp; omega))))
  have kw1 : Below w.heap.size w w1 := (by repeat (first | (with_reducible exact Below.refl _ _) | (with_reducible assumption) | (with_reducible refine Below.drew ?_) | (with_reducible refine Below.drewN ?_) | ((with_reducible refine Below.al ?_ ?_); · first | omega | (simp; done) | (simp; omega)) | ((with_reducible refine Below.sc ?_ ?_); · first | omega | (simp; done) | (simp; omega)) | ((with_reducible refine Below.thru hb ?_ ?_); · first | omega | (simp; done) | (simp; omega))))
  clear hb
  have c0 := B0.at (i := 1) rfl
  have c2 := B2.at (i := 0) rfl
  have f2 := B2.free 0
  go_wp2_with fail
  refine (toInt64S_any t T _ (HS.out.2.below (by repeat (first | (with_reducible exact Below.refl _ _) | (with_reducible assumption) | (with_reducible refine Below.drew ?_) | (with_reducible refine Below.drewN ?_) | ((with_reducible refine Below.al ?_ ?_); · first | omega | (simp; done) | (simp; omega)) | ((with_reducible refine Below.sc ?_ ?_); · first | omega | (simp; done) | (simp; omega)) | ((with_reducible refine Below.thru hb ?_ ?_); · first | omega | (simp; done) | (simp; omega))))) hl.2).mono ?_
  rintro e w2 ⟨t', rfl, O2, hb⟩
  obtain ⟨ta, tc, ht', _⟩ := O2.slIn.form
  subst ht'
  have hbs2 := hb.size
  simp at hbs2 O2
  have n1 : (Value.slice sa S.length sc).ownBlock ≠ some (w.heap.size + 1 + 1) := fun e => by have := (O1.lt e).1; omega
  have o1 : Own w2 (w.heap.size + 1 + 1 + 1) (.slice sa S.length sc) S := Own.below hb (Own.put n1 O1)
  have D1 : Blk w2 (w.heap.size + 1) 27 #[.slice none 0 0, .slice none 0 0] := (by repeat (first | (with_reducible assumption) | ((with_reducible refine Blk.new ?_); · first | omega | (simp; done) | (simp; omega)) | (with_reducible apply Blk.set4) | (with_reducible apply Blk.set3) | (with_reducible apply Blk.set2) | ((with_reducible refine Blk.put ?_ ?_); · first | omega | (simp; omega)) | (with_reducible refine Blk.old ?_) | (with_reducible refine Blk.drew ?_) | (with_reducible refine Blk.drewN ?_) | ((with_reducible refine Blk.below hb ?_ ?_); · first | omega | (simp; done) | (simp; omega))))
  have D2 : Blk w2 (w.heap.size + 1 + 1) 27 #[.slice sa S.length sc, .slice none 0 0] := (Blk.set (i := 0) (v := .slice sa S.length sc) B2).below hb (by simp; omega)
  have kw2 : Below w.heap.size w w2 := (by repeat (first | (with_reducible exact Below.refl _ _) | (with_reducible assumption) | (with_reducible refine Below.drew ?_) | (with_reducible refine Below.drewN ?_) | ((with_reducible refine Below.al ?_ ?_); · first | omega | (simp; done) | (simp; omega)) | ((with_reducible refine Below.sc ?_ ?_); · first | omega | (simp; done) | (simp; omega)) | ((with_reducible refine Below.thru hb ?_ ?_); · first | omega | (simp; done) | (simp; omega))))
  have dis : ∀ g, (Value.slice sa S.length sc).ownBlock = some g → (Value.slice ta T.length tc).ownBlock ≠ some g := fun g e1 e2 => by
    have := (O1.lt e1).2
    have := (O2.lt e2).1
    omega
  clear hb B0 B1 B2 c0 c2 f2
  have e0 := D2.at (i := 0) rfl
  have e1 := D2.at (i := 1) rfl
  have g0 := D2.free 0
  have g1 := D2.free 1
  have d0 := D1.at (i := 0) rfl
  have d1 := D1.at (i := 1) rfl
  have h0 := D1.free 0
  have h1 := D1.free 1
  have n2 : (Value.slice sa S.length sc).ownBlock ≠ some (w.heap.size + 1) := fun e => by have := (O1.lt e).1; omega
  have m1 : (Value.slice ta T.length tc).ownBlock ≠ some (w.heap.size + 1 + 1) := fun e => by have := (O2.lt e).1; omega
  have m2 : (Value.slice ta T.length tc).ownBlock ≠ some (w.heap.size + 1) := fun e => by have := (O2.lt e).1; omega
  go_wp2
  refine ret_at (v := .agg #[.slice sa S.length sc, .slice ta T.length tc]) (fun w' => Blk w' (w.heap.size + 1) 27 (#[.slice sa S.length sc, .slice ta T.length tc])) (by repeat (first | (with_reducible assumption) | ((with_reducible refine Blk.new ?_); · first | omega | (simp; done) | (simp; omega)) | (with_reducible apply Blk.set4) | (with_reducible apply Blk.set3) | (with_reducible apply Blk.set2) | ((with_reducible refine Blk.put ?_ ?_); · first | omega | (simp; omega)) | (with_reducible refine Blk.old ?_) | (with_reducible refine Blk.drew ?_) | (with_reducible refine Blk.drewN ?_) | ((with_reducible refine Blk.below hb ?_ ?_); · first | omega | (simp; done) | (simp; omega)))) (fun w' hB => by have q := hB.p2; simp [results, Try.results18, go_sem, q]) rfl ?_
  exact ⟨_, _, rfl, ⟨Own.mono (by omega) (Own.put n2 (Own.put n2 (Own.put n1 o1))), Own.mono (by omega) (Own.put m2 (Own.put m2 (Own.put m1 O2))), dis⟩, (by repeat (first | (with_reducible exact Below.refl _ _) | (with_reducible assumption) | (with_reducible refine Below.drew ?_) | (with_reducible refine Below.drewN ?_) | ((with_reducible refine Below.al ?_ ?_); · first | omega | (simp; done) | (simp; omega)) | ((with_reducible refine Below.sc ?_ ?_); · first | omega | (simp; done) | (simp; omega)) | ((with_reducible refine Below.thru hb ?_ ?_); · first | omega | (simp; done) | (simp; omega))))⟩

def szR (l n : Int) : Int := if l - n < 0 then -1 else l - n
set_option maxHeartbeats 1000000 in
theorem szInt64S_any (v : Value) (xs : List Int) (l : Int) (w : World) (h : SlIn w .i64 v xs) (hx : xs.length ≤ maxLen) (hl : 0 ≤ l ∧ l ≤ 1048576) :
    Calls Try.prog 67 #[v, .int .i64 l] w fun e w' => e = .returned (.int .i64 (szR l xs.length)) ∧ w = w' := by
  obtain ⟨ao, c, rfl, _⟩ := h.form
  unfold maxLen at hx
  clear h
  by_cases hz : l - xs.length < 0
  · have HF := Lib.hid (show szR l xs.length = -1 by unfold szR; rw [if_pos hz])
    go_enter Try.func67, Try.ntmps67
    go_wp2
    go_ret
    exact ⟨ret_int HF.out.symm, rfl⟩
  · have HF := Lib.hid (show szR l xs.length = l - xs.length by unfold szR; rw [if_neg hz])
    go_enter Try.func67, Try.ntmps67
    go_wp2
    go_ret
    exact ⟨ret_int HF.out.symm, rfl⟩

set_option maxHeartbeats 1000000 in
theorem eqAction_same (s t s2 t2 : Value) (S T : List Int) (w : World) (h : SlIn w .i64 s S ∧ SlIn w .i64 t T) (k : SlIn w .i64 s2 S ∧ SlIn w .i64 t2 T) (hl : S.length ≤ maxLen ∧ T.length ≤ maxLen) :
    Calls Try.prog 20 #[.agg #[s, t], .agg #[s2, t2]] w fun e w' => e = .returned (.bool true) ∧ Below w.heap.size w w' := by
  have HS := Lib.hid h
  have HK := Lib.hid k
  have HL := Lib.hid hl
  clear h k hl
  go_enter Try.func20, Try.ntmps20
  go_wp2_with fail
  refine (eqInt64S_any s s2 S S _ (HS.out.1.below (by repeat (first | (with_reducible exact Below.refl _ _) | (with_reducible assumption) | (with_reducible refine Below.drew ?_) | (with_reducible refine Below.drewN ?_) | ((with_reducible refine Below.al ?_ ?_); · first | omega | (simp; done) | (simp; omega)) | ((with_reducible refine Below.sc ?_ ?_); · first | omega | (simp; done) | (simp; omega)) | ((with_reducible refine Below.thru hb ?_ ?_); · first | omega | (simp; done) | (simp; omega))))) (HK.out.1.below (by repeat (first | (with_reducible exact Below.refl _ _) | (with_reducible assumption) | (with_reducible refine Below.drew ?_) | (with_reducible refine Below.drewN ?_) | ((with_reducible refine Below.al ?_ ?_); · first | omega | (simp; done) | (simp; omega)) | ((with_reducible refine Below.sc ?_ ?_); · first | omega | (simp; done) | (simp; omega)) | ((with_reducible refine Below.thru hb ?_ ?_); · first | omega | (simp; done) | (simp; omega))))) HL.out.1 HL.out.1).mono ?_
  rw [beq_self_eq_true]
  rintro e w1 ⟨rfl, hb⟩
  have hbs := hb.size
  simp at hbs
  have B0 : Blk w1 w.heap.size 27 #[s, t] := (by repeat (first | (with_reducible assumption) | ((with_reducible refine Blk.new ?_); · first | omega | (simp; done) | (simp; omega)) | (with_reducible apply Blk.set4) | (with_reducible apply Blk.set3) | (with_reducible apply Blk.set2) | ((with_reducible refine Blk.put ?_ ?_); · first | omega | (simp; omega)) | (with_reducible refine Blk.old ?_) | (with_reducible refine Blk.drew ?_) | (with_reducible refine Blk.drewN ?_) | ((with_reducible refine Blk.below hb ?_ ?_); · first | omega | (simp; done) | (simp; omega))))
  have B1 : Blk w1 (w.heap.size + 1) 27 #[s2, t2] := (by repeat (first | (with_reducible assumption) | ((with_reducible refine Blk.new ?_); · first | omega | (simp; done) | (simp; omega)) | (with_reducible apply Blk.set4) | (with_reducible apply Blk.set3) | (with_reducible apply Blk.set2) | ((with_reducible refine Blk.put ?_ ?_); · first | omega | (simp; omega)) | (with_reducible refine Blk.old ?_) | (with_reducible refine Blk.drew ?_) | (with_reducible refine Blk.drewN ?_) | ((with_reducible refine Blk.below hb ?_ ?_); · first | omega | (simp; done) | (simp; omega))))
  have kw1 : Below w.heap.size w w1 := (by repeat (first | (with_reducible exact Below.refl _ _) | (with_reducible assumption) | (with_reducible refine Below.drew ?_) | (with_reducible refine Below.drewN ?_) | ((with_reducible refine Below.al ?_ ?_); · first | omega | (simp; done) | (simp; omega)) | ((with_reducible refine Below.sc ?_ ?_); · first | omega | (simp; done) | (simp; omega)) | ((with_reducible refine Below.thru hb ?_ ?_); · first | omega | (simp; done) | (simp; omega))))
  clear hb
  have c0 := B0.at (i := 1) rfl
  have c1 := B1.at (i := 1) rfl
  go_wp2_with fail
  refine (eqInt64S_any t t2 T T _ (HS.out.2.below (by repeat (first | (with_reducible exact Below.refl _ _) | (with_reducible assumption) | (with_reducible refine Below.drew ?_) | (with_reducible refine Below.drewN ?_) | ((with_reducible refine Below.al ?_ ?_); · first | omega | (simp; done) | (simp; omega)) | ((with_reducible refine Below.sc ?_ ?_); · first | omega | (simp; done) | (simp; omega)) | ((with_reducible refine Below.thru hb ?_ ?_); · first | omega | (simp; done) | (simp; omega))))) (HK.out.2.below (by repeat (first | (with_reducible exact Below.refl _ _) | (with_reducible assumption) | (with_reducible refine Below.drew ?_) | (with_reducible refine Below.drewN ?_) | ((with_reducible refine Below.al ?_ ?_); · first | omega | (simp; done) | (simp; omega)) | ((with_reducible refine Below.sc ?_ ?_); · first | omega | (simp; done) | (simp; omega)) | ((with_reducible refine Below.thru hb ?_ ?_); · first | omega | (simp; done) | (simp; omega))))) HL.out.2 HL.out.2).mono ?_
  rw [beq_self_eq_true]
  rintro e w2 ⟨rfl, hb⟩
  have hbs2 := hb.size
  have sw1 := kw1.size
  have kw2 : Below w.heap.size w w2 := (by repeat (first | (with_reducible exact Below.refl _ _) | (with_reducible assumption) | (with_reducible refine Below.drew ?_) | (with_reducible refine Below.drewN ?_) | ((with_reducible refine Below.al ?_ ?_); · first | omega | (simp; done) | (simp; omega)) | ((with_reducible refine Below.sc ?_ ?_); · first | omega | (simp; done) | (simp; omega)) | ((with_reducible refine Below.thru hb ?_ ?_); · first | omega | (simp; done) | (simp; omega))))
  clear hb
  go_wp2
  go_ret
  exact ⟨rfl, kw2⟩

/-- What is left of the bulk. -/
def szA (S T : List Int) : Int := if szR 1048576 S.length < 0 then -1 else if szR (szR 1048576 S.length) T.length < 0 then -1 else szR (szR 1048576 S.length) T.length
theorem szR_bd {l n : Int} (h : 0 ≤ l ∧ l ≤ 1048576) (hn : 0 ≤ n) (k : ¬ szR l n < 0) : 0 ≤ szR l n ∧ szR l n ≤ 1048576 ∧ n ≤ 1048576 := by
  unfold szR at *; split at * <;> omega
theorem szA_ok {S T : List Int} (h : ¬ szA S T < 0) : S.length ≤ 1048576 ∧ T.length ≤ 1048576 := by
  unfold szA at h
  split at h
  · omega
  · have a := szR_bd (l := 1048576) (n := S.length) (by omega) (by omega) (by assumption)
    split at h
    · omega
    · have b := szR_bd (l := szR 1048576 S.length) (n := T.length) (by omega) (by omega) (by assumption)
      omega
set_option maxHeartbeats 1000000 in
theorem szAction_any (s t : Value) (S T : List Int) (w : World) (h : SlIn w .i64 s S ∧ SlIn w .i64 t T) (hl : S.length ≤ maxLen ∧ T.length ≤ maxLen) :
    Calls Try.prog 16 #[.agg #[s, t], .int .i64 1048576] w fun e w' => e = .returned (.int .i64 (szA S T)) ∧ Below w.heap.size w w' := by
  have HS := Lib.hid h
  have HL := Lib.hid hl
  clear h hl
  go_enter Try.func16, Try.ntmps16
  go_wp2_with fail
  refine (szInt64S_any s S 1048576 _ (HS.out.1.below (by repeat (first | (with_reducible exact Below.refl _ _) | (with_reducible assumption) | (with_reducible refine Below.drew ?_) | (with_reducible refine Below.drewN ?_) | ((with_reducible refine Below.al ?_ ?_); · first | omega | (simp; done) | (simp; omega)) | ((with_reducible refine Below.sc ?_ ?_); · first | omega | (simp; done) | (simp; omega)) | ((with_reducible refine Below.thru hb ?_ ?_); · first | omega | (simp; done) | (simp; omega))))) HL.out.1 (by omega)).mono ?_
  rintro e w' ⟨rfl, rfl⟩
  by_cases h1 : szR 1048576 S.length < 0
  · have HF := Lib.hid (show szA S T = -1 by unfold szA; rw [if_pos h1])
    go_wp2
    go_ret
    exact ⟨ret_int HF.out.symm, (by repeat (first | (with_reducible exact Below.refl _ _) | (with_reducible assumption) | (with_reducible refine Below.drew ?_) | (with_reducible refine Below.drewN ?_) | ((with_reducible refine Below.al ?_ ?_); · first | omega | (simp; done) | (simp; omega)) | ((with_reducible refine Below.sc ?_ ?_); · first | omega | (simp; done) | (simp; omega)) | ((with_reducible refine Below.thru hb ?_ ?_); · first | omega | (simp; done) | (simp; omega))))⟩
  · have b := szR_bd (l := 1048576) (n := S.length) (by omega) (by omega) h1
    generalize hr : szR 1048576 S.length = r at *
    go_wp2_with fail
    refine (szInt64S_any t T r _ (HS.out.2.below (by repeat (first | (with_reducible exact Below.refl _ _) | (with_reducible assumption) | (with_reducible refine Below.drew ?_) | (with_reducible refine Below.drewN ?_) | ((with_reducible refine Below.al ?_ ?_); · first | omega | (simp; done) | (simp; omega)) | ((with_reducible refine Below.sc ?_ ?_); · first | omega | (simp; done) | (simp; omega)) | ((with_reducible refine Below.thru hb ?_ ?_); · first | omega | (simp; done) | (simp; omega))))) HL.out.2 (by omega)).mono ?_
    rintro e w' ⟨rfl, rfl⟩
    by_cases h2 : szR r T.length < 0
    · have HF := Lib.hid (show szA S T = -1 by unfold szA; rw [hr, if_neg (by omega), if_pos h2])
      go_wp2
      go_ret
      exact ⟨ret_int HF.out.symm, (by repeat (first | (with_reducible exact Below.refl _ _) | (with_reducible assumption) | (with_reducible refine Below.drew ?_) | (with_reducible refine Below.drewN ?_) | ((with_reducible refine Below.al ?_ ?_); · first | omega | (simp; done) | (simp; omega)) | ((with_reducible refine Below.sc ?_ ?_); · first | omega | (simp; done) | (simp; omega)) | ((with_reducible refine Below.thru hb ?_ ?_); · first | omega | (simp; done) | (simp; omega))))⟩
    · have HF := Lib.hid (show szA S T = szR r T.length by unfold szA; rw [hr, if_neg (by omega), if_neg h2])
      go_wp2
      go_ret
      exact ⟨ret_int HF.out.symm, (by repeat (first | (with_reducible exact Below.refl _ _) | (with_reducible assumption) | (with_reducible refine Below.drew ?_) | (with_reducible refine Below.drewN ?_) | ((with_reducible refine Below.al ?_ ?_); · first | omega | (simp; done) | (simp; omega)) | ((with_reducible refine Below.sc ?_ ?_); · first | omega | (simp; done) | (simp; omega)) | ((with_reducible refine Below.thru hb ?_ ?_); · first | omega | (simp; done) | (simp; omega))))⟩

end Go.Proofs.Ytamkbgodenkboaa
