/- Contracts of PathOfTriple. -/
import Derived.Test.Ytcijbgfiefmdkaa09f
import Derived.Test.Ytcijbgfiefmdkaa09e
import Derived.Laws.IdiomStrings
import Derived.Laws.BytesArg
namespace Go.Proofs.Ytcijbgfiefmdkaa
open Go.RowKit
set_option linter.unusedSimpArgs false

def encB : Enc UInt8 := ⟨1, fun b => [.int .u8 b.toNat], fun _ => rfl, by decide, fun x u hu => by simp at hu; subst hu; rfl⟩
theorem infoB : (Try.prog.info? 5).map (fun i => (i.zero, i.size, i.bytes)) = some (some (.int .u8 0), 1, 1) := by kernel_rfl

/-- The way up from 1, 2, 5 (step m of the way down): the three numbers after s steps, and the letters. -/
def upw (t : T3) (m : Nat) : Nat → (Int × Int × Int) × List UInt8
  | 0 => ((1, 5, 2), [])
  | s + 1 =>
    let c := upw t m s
    if dn t (m - (s + 1)) = sort3 c.1.1 c.1.2.1 (3 * c.1.1 * c.1.2.1 - c.1.2.2) then ((c.1.1, 3 * c.1.1 * c.1.2.1 - c.1.2.2, c.1.2.1), c.2 ++ [76])
    else ((c.1.2.1, 3 * c.1.2.1 * c.1.2.2 - c.1.1, c.1.2.2), c.2 ++ [82])
theorem upw_fits {t : T3} {m : Nat} (h : t.ok = true) (hk : ∀ j, j < m + 2 → 1 < (dn t j).z) (e : dn t m = ⟨1, 2, 5⟩) (s : Nat) (hs : s ≤ m) :
    Fits (upw t m s).1.1 (upw t m s).1.2.1 (upw t m s).1.2.2 (dn t (m - s)) ∧ (upw t m s).2.length = s := by
  induction s with
  | zero => exact ⟨by rw [Nat.sub_zero, e]; exact ⟨rfl, .inl ⟨rfl, rfl⟩⟩, rfl⟩
  | succ s ih =>
    obtain ⟨f, hl⟩ := ih (by omega)
    have o := (dn_inv h (m - (s + 1)) fun j hj => hk j (by omega)).1
    have z := hk (m - (s + 1)) (by omega)
    have e2 : (dn t (m - (s + 1))).nb 2 = dn t (m - s) := by
      rw [show m - s = m - (s + 1) + 1 by omega]
      rfl
    obtain ⟨_, a1, a2⟩ := step_up o z (by rw [e2]; exact f)
    unfold upw
    dsimp only
    split
    · exact ⟨a1 (by assumption), by simp [hl]⟩
    · exact ⟨a2 (by assumption), by simp [hl]⟩

theorem OwnK.putNe {α : Type} {e : Enc α} {E : TypeId} {w : World} {B g i : Nat} {v u : Value} {xs : List α} (hg : v.ownBlock ≠ some g) (h : OwnK e E w B v xs) : OwnK e E (w.setCell ⟨g, i, none⟩ u) B v xs :=
  h.same fun k hk => Below.heap_setCell _ _ _ _ (fun (e : k = g) => hg (by rw [hk, e]))
theorem bcat (a : List UInt8) (x : UInt8) : (⟨a.toArray⟩ ++ ⟨#[x]⟩ : ByteArray) = ⟨(a ++ [x]).toArray⟩ := by
  apply ByteArray.ext
  simp
/-- What PathOfTriple gives. -/
def PathR (t : T3) (s : ByteArray) (c : Int) : Prop :=
  if t.ok then (if t.z < 5 then s = ByteArray.empty ∧ c = 4 else ∃ m, Ends t (m + 2) ∧ dn t m = ⟨1, 2, 5⟩ ∧ (if m ≤ 12 then s = ⟨(upw t m m).2.toArray⟩ ∧ c = 0 else s = ByteArray.empty ∧ c = 3)) else s = ByteArray.empty ∧ c = 1
def GivesPathOf (t : T3) (w : World) (e : Ending) (w' : World) : Prop := ∃ s c, e = .returned (.tuple #[.string s, .int .i64 c]) ∧ PathR t s c ∧ Below w.heap.size w w'

theorem upw_succ (t : T3) (m s : Nat) : upw t m (s + 1) = if dn t (m - (s + 1)) = sort3 (upw t m s).1.1 (upw t m s).1.2.1 (3 * (upw t m s).1.1 * (upw t m s).1.2.1 - (upw t m s).1.2.2) then (((upw t m s).1.1, 3 * (upw t m s).1.1 * (upw t m s).1.2.1 - (upw t m s).1.2.2, (upw t m s).1.2.1), (upw t m s).2 ++ [76])
    else (((upw t m s).1.2.1, 3 * (upw t m s).1.2.1 * (upw t m s).1.2.2 - (upw t m s).1.1, (upw t m s).1.2.2), (upw t m s).2 ++ [82]) := rfl

set_option maxHeartbeats 4000000 in
theorem PathOfTriple_any (t : T3) (w : World) :
    Calls Try.prog 14 #[.agg #[.int .i64 t.x, .int .i64 t.y, .int .i64 t.z]] w (GivesPathOf t w) := by
  cases h1 : t.ok with
  | false =>
    go_enter Try.func14, Try.ntmps14
    go_wp2_with fail
    refine (IsTriple_t t _).mono ?_
    rintro e w1 ⟨rfl, hb⟩
    have kw1 : Below w.heap.size w w1 := (by repeat (first | (with_reducible exact Below.refl _ _) | (with_reducible assumption) | (with_reducible refine Below.drew ?_) | (with_reducible refine Below.drewN ?_) | ((with_reducible refine Below.al ?_ ?_); · first | omega | (simp; done) | (simp; omega)) | ((with_reducible refine Below.sc ?_ ?_); · first | omega | (simp; done) | (simp; omega)) | ((with_reducible refine Below.thru hb ?_ ?_); · first | omega | (simp; done) | (simp; omega))))
    have sw1 := kw1.size
    clear hb
    go_wp2
    go_ret2
    exact ⟨_, _, rfl, by unfold PathR; rw [h1]; exact ⟨rfl, rfl⟩, kw1⟩
  | true =>
    by_cases h5 : t.z < 5
    · go_enter Try.func14, Try.ntmps14
      go_wp2_with fail
      refine (IsTriple_t t _).mono ?_
      rintro e w1 ⟨rfl, hb⟩
      have B1 : Blk w1 (w.heap.size) 23 (tcs t) := (by repeat (first | (with_reducible assumption) | ((with_reducible refine Blk.new ?_); · first | omega | (simp; done) | (simp; omega)) | (with_reducible apply Blk.set4) | (with_reducible apply Blk.set3) | (with_reducible apply Blk.set2) | ((with_reducible refine Blk.put ?_ ?_); · first | omega | (simp; omega)) | (with_reducible refine Blk.old ?_) | (with_reducible refine Blk.drew ?_) | (with_reducible refine Blk.drewN ?_) | ((with_reducible refine Blk.below hb ?_ ?_); · first | omega | (simp; done) | (simp; omega))))
      have lB1 := B1.lt
      have kw1 : Below w.heap.size w w1 := (by repeat (first | (with_reducible exact Below.refl _ _) | (with_reducible assumption) | (with_reducible refine Below.drew ?_) | (with_reducible refine Below.drewN ?_) | ((with_reducible refine Below.al ?_ ?_); · first | omega | (simp; done) | (simp; omega)) | ((with_reducible refine Below.sc ?_ ?_); · first | omega | (simp; done) | (simp; omega)) | ((with_reducible refine Below.thru hb ?_ ?_); · first | omega | (simp; done) | (simp; omega))))
      have sw1 := kw1.size
      clear hb
      have q1 := B1.t
      go_wp2
      go_ret2
      exact ⟨_, _, rfl, by unfold PathR; rw [h1, if_pos rfl, if_pos h5]; exact ⟨rfl, rfl⟩, kw1⟩
    · have h5' : 5 ≤ t.z := by omega
      go_enter Try.func14, Try.ntmps14
      go_wp2_with fail
      refine (IsTriple_t t _).mono ?_
      rintro e w1 ⟨rfl, hb⟩
      have B1 : Blk w1 (w.heap.size) 23 (tcs t) := (by repeat (first | (with_reducible assumption) | ((with_reducible refine Blk.new ?_); · first | omega | (simp; done) | (simp; omega)) | (with_reducible apply Blk.set4) | (with_reducible apply Blk.set3) | (with_reducible apply Blk.set2) | ((with_reducible refine Blk.put ?_ ?_); · first | omega | (simp; omega)) | (with_reducible refine Blk.old ?_) | (with_reducible refine Blk.drew ?_) | (with_reducible refine Blk.drewN ?_) | ((with_reducible refine Blk.below hb ?_ ?_); · first | omega | (simp; done) | (simp; omega))))
      have lB1 := B1.lt
      have kw1 : Below w.heap.size w w1 := (by repeat (first | (with_reducible exact Below.refl _ _) | (with_reducible assumption) | (with_reducible refine Below.drew ?_) | (with_reducible refine Below.drewN ?_) | ((with_reducible refine Below.al ?_ ?_); · first | omega | (simp; done) | (simp; omega)) | ((with_reducible refine Below.sc ?_ ?_); · first | omega | (simp; done) | (simp; omega)) | ((with_reducible refine Below.thru hb ?_ ?_); · first | omega | (simp; done) | (simp; omega))))
      have sw1 := kw1.size
      clear hb
      have q1 := B1.t
      go_wp2_with fail
      refine (down_any t _ h1).mono ?_
      rintro e w2 ⟨v, k, rfl, hk, O, hb⟩
      obtain ⟨m, rfl, e1, e2, e3⟩ := ends_form h1 h5' hk
      have ln := dns_length t (m + 2)
      have lm := (dn_len h1 hk.1).1
      have kw2 : Below w.heap.size w w2 := (by repeat (first | (with_reducible exact Below.refl _ _) | (with_reducible assumption) | (with_reducible refine Below.drew ?_) | (with_reducible refine Below.drewN ?_) | ((with_reducible refine Below.al ?_ ?_); · first | omega | (simp; done) | (simp; omega)) | ((with_reducible refine Below.sc ?_ ?_); · first | omega | (simp; done) | (simp; omega)) | ((with_reducible refine Below.thru hb ?_ ?_); · first | omega | (simp; done) | (simp; omega))))
      have sw2 := kw2.size
      rcases O.form with ⟨rfl, hv⟩ | ⟨g, c, rfl, hg1, hg2, _, _, _⟩
      · rw [hv] at ln
        simp at ln
      rw [ln] at O ⊢
      by_cases h12 : m ≤ 12
      · go_wp2
        obtain ⟨i0, hi, hz0, hz1, hz2⟩ := info_parts infoB
        go_loopw [5, 6, 7, 8, 9] (fun p l md r i wr => ∃ s : Nat, s ≤ m ∧ i = .int .i64 ((m : Int) - s - 1) ∧ l = .int .i64 (upw t m s).1.1 ∧ md = .int .i64 (upw t m s).1.2.1 ∧ r = .int .i64 (upw t m s).1.2.2 ∧
          OwnK encB 5 wr w2.heap.size p (upw t m s).2 ∧ Below w2.heap.size w2 wr) (fun _ _ _ _ i _ => (intOf i + 1).toNat)
        case atStart => exact ⟨0, by omega, by go_num, rfl, rfl, rfl, (show OwnK encB _ _ _ _ [] from OwnK.of_blk (xs := []) (Blk.new (by simp)) (by simp) rfl (by simp)), (by repeat (first | (with_reducible exact Below.refl _ _) | (with_reducible assumption) | (with_reducible refine Below.drew ?_) | (with_reducible refine Below.drewN ?_) | ((with_reducible refine Below.al ?_ ?_); · first | omega | (simp; done) | (simp; omega)) | ((with_reducible refine Below.sc ?_ ?_); · first | omega | (simp; done) | (simp; omega)) | ((with_reducible refine Below.thru hb ?_ ?_); · first | omega | (simp; done) | (simp; omega))))⟩
        case round =>
          obtain ⟨s, hs, rfl, rfl, rfl, rfl, O5, kwr⟩ := hrel
          have hlen := (upw_fits h1 hk.1 e1 s hs).2
          have ff := (upw_fits h1 hk.1 e1 s hs).1
          have swr := kwr.size
          by_cases hsm : s < m
          · obtain ⟨j, hj⟩ : ∃ j, j = m - (s + 1) := ⟨_, rfl⟩
            have ei : (m : Int) - s - 1 = (j : Int) := by omega
            have so := T3.ok_small (dn_inv h1 (m - s) fun a ha => hk.1 a (by omega)).1
            have bl : -1000000000 ≤ (upw t m s).1.1 ∧ (upw t m s).1.1 ≤ 1000000000 := by
              obtain ⟨f1, f2⟩ := ff; obtain ⟨p1, p2, p3⟩ := so; rcases f2 with f2 | f2 <;> omega
            have bm : -1000000000 ≤ (upw t m s).1.2.1 ∧ (upw t m s).1.2.1 ≤ 1000000000 := by
              obtain ⟨f1, f2⟩ := ff; obtain ⟨p1, p2, p3⟩ := so; omega
            have br : -1000000000 ≤ (upw t m s).1.2.2 ∧ (upw t m s).1.2.2 ≤ 1000000000 := by
              obtain ⟨f1, f2⟩ := ff; obtain ⟨p1, p2, p3⟩ := so; rcases f2 with f2 | f2 <;> omega
            have b1 := mul3_bd bl bm
            have b2 := mul3_bd bm br
            have b3 : -3000000000 ≤ 3 * (upw t m s).1.1 ∧ 3 * (upw t m s).1.1 ≤ 3000000000 := by omega
            have b4 : -3000000000 ≤ 3 * (upw t m s).1.2.1 ∧ 3 * (upw t m s).1.2.1 ≤ 3000000000 := by omega
            have q0 := fun x : Later wr => OwnT.cells (j := j) (O.below (kwr.trans (x.h.mono kwr.size))) rfl (by rw [dns_length]; omega)
            simp only [dns_get] at q0
            have q00 := fun x => (q0 x).1
            have q01 := fun x => (q0 x).2.1
            have q02 := fun x => (q0 x).2.2
            have i0' : (0 : Int) ≤ (j : Int) := by omega
            have i1' : (j : Int) < ((m + 2 + 1 : Nat) : Int) := by omega
            have jlt : j < m + 2 + 1 := by omega
            rw [ei]
            have HE0 := Lib.hid ei
            have kwr0 : Below w.heap.size w wr := Below.thru kwr sw2 kw2
            have hE := run_equalInT (dn t j) (sort3 (upw t m s).1.1 (upw t m s).1.2.1 (3 * (upw t m s).1.1 * (upw t m s).1.2.1 - (upw t m s).1.2.2))
            clear q0 ff so
            by_cases htest : dn t (m - (s + 1)) = sort3 (upw t m s).1.1 (upw t m s).1.2.1 (3 * (upw t m s).1.1 * (upw t m s).1.2.1 - (upw t m s).1.2.2)
            · rw [decide_eq_true (by rw [hj]; exact htest)] at hE
              have HJ := Lib.hid hj
              clear hj ei
              go_wp2_with fail
              refine wp_region_calm (by kernel_rfl) (by kernel_rfl) ?_
              repeat (go_big_quiet_step (first | (go_at_call 43; with_reducible exact Calls.calm ((ordered_any _ _ _ _)))))
              refine wpQuiet_nil ?_
              rintro w3 ⟨⟨_, hb⟩, rfl⟩
              have O3 : OwnK encB 5 w3 w2.heap.size u5 (upw t m s).2 := (by repeat (first | (with_reducible assumption) | (with_reducible refine Own.drew ?_) | (with_reducible refine Own.drewN ?_) | (with_reducible refine Own.alloc ?_) | (with_reducible refine OwnK.drew ?_) | (with_reducible refine OwnK.drewN ?_) | (with_reducible refine OwnK.alloc ?_) | ((with_reducible refine OwnK.put ?_ ?_); · first | omega | (simp; done) | (simp; omega)) | ((with_reducible refine Own.below hb ?_)) | ((with_reducible refine OwnK.below hb ?_))))
              have kw3' : Below w2.heap.size w2 w3 := (by repeat (first | (with_reducible exact Below.refl _ _) | (with_reducible assumption) | (with_reducible refine Below.drew ?_) | (with_reducible refine Below.drewN ?_) | ((with_reducible refine Below.al ?_ ?_); · first | omega | (simp; done) | (simp; omega)) | ((with_reducible refine Below.sc ?_ ?_); · first | omega | (simp; done) | (simp; omega)) | ((with_reducible refine Below.thru hb ?_ ?_); · first | omega | (simp; done) | (simp; omega))))
              have kw3 : Below w.heap.size w w3 := (by repeat (first | (with_reducible exact Below.refl _ _) | (with_reducible assumption) | (with_reducible refine Below.drew ?_) | (with_reducible refine Below.drewN ?_) | ((with_reducible refine Below.al ?_ ?_); · first | omega | (simp; done) | (simp; omega)) | ((with_reducible refine Below.sc ?_ ?_); · first | omega | (simp; done) | (simp; omega)) | ((with_reducible refine Below.thru hb ?_ ?_); · first | omega | (simp; done) | (simp; omega))))
              have sw3 := kw3.size
              clear hb
              have H := Lib.hid (And.intro O3 kw3')
              have lw3 := kw3'.size
              have hup := upw_succ t m s
              rw [if_pos htest] at hup
              have HU := Lib.hid hup
              have HT := Lib.hid htest
              clear q00 q01 q02 hE O5 kwr kwr0 O3 kw3' hup htest
              go_wp2_with (at_builtin; refine wpList_app encB rfl _ _ 44 5 1 rfl Try.underlying44 i0 _ hi hz0 hz1 hz2 rfl u5 (upw t m s).2 w2.heap.size w3.heap.size 1 #[.int .u8 76] [76] rfl ?o1 rfl ?b1 rfl ?l1 ?l2 ?l3 ?_)
              case o1 =>
                have O3 := H.out.1
                exact (by repeat (first | (with_reducible assumption) | (with_reducible refine Own.drew ?_) | (with_reducible refine Own.drewN ?_) | (with_reducible refine Own.alloc ?_) | (with_reducible refine OwnK.drew ?_) | (with_reducible refine OwnK.drewN ?_) | (with_reducible refine OwnK.alloc ?_) | ((with_reducible refine OwnK.put ?_ ?_); · first | omega | (simp; done) | (simp; omega)) | ((with_reducible refine Own.below hb ?_)) | ((with_reducible refine OwnK.below hb ?_))))
              case b1 => exact Blk.new (by simp)
              case l1 => rw [hlen]; simp only [List.length_cons, List.length_nil, maxLen]; omega
              case l2 => rw [hlen]; simp only [List.length_cons, List.length_nil]; omega
              case l3 => simp; omega
              intro v' w4 O4 hg
              have O3 := H.out.1
              have kw4 : Below w2.heap.size w2 w4 := Below.grownK hg (e := encB) (E := 5) (B := w2.heap.size) (xs := (upw t m s).2) (by repeat (first | (with_reducible assumption) | (with_reducible refine Own.drew ?_) | (with_reducible refine Own.drewN ?_) | (with_reducible refine Own.alloc ?_) | (with_reducible refine OwnK.drew ?_) | (with_reducible refine OwnK.drewN ?_) | (with_reducible refine OwnK.alloc ?_) | ((with_reducible refine OwnK.put ?_ ?_); · first | omega | (simp; done) | (simp; omega)) | ((with_reducible refine Own.below hb ?_)) | ((with_reducible refine OwnK.below hb ?_)))) (Nat.le_refl _) (by simp; omega) (Below.al lw3 H.out.2)
              clear hg O3
              go_wp2
              go_roundw
              case rel =>
                refine ⟨s + 1, by omega, by rw [← HE0.out]; go_num, ?_, ?_, ?_, ?_, kw4⟩
                all_goals rw [HU.out]
                exact O4
              case measure => first | (simp [intOf]; done) | (simp [intOf]; omega)
            · rw [decide_eq_false (by rw [hj]; exact htest)] at hE
              have HJ := Lib.hid hj
              clear hj ei
              go_wp2_with fail
              refine wp_region_calm (by kernel_rfl) (by kernel_rfl) ?_
              repeat (go_big_quiet_step (first | (go_at_call 43; with_reducible exact Calls.calm ((ordered_any _ _ _ _)))))
              refine wpQuiet_nil ?_
              rintro w3 ⟨⟨_, hb⟩, rfl⟩
              have O3 : OwnK encB 5 w3 w2.heap.size u5 (upw t m s).2 := (by repeat (first | (with_reducible assumption) | (with_reducible refine Own.drew ?_) | (with_reducible refine Own.drewN ?_) | (with_reducible refine Own.alloc ?_) | (with_reducible refine OwnK.drew ?_) | (with_reducible refine OwnK.drewN ?_) | (with_reducible refine OwnK.alloc ?_) | ((with_reducible refine OwnK.put ?_ ?_); · first | omega | (simp; done) | (simp; omega)) | ((with_reducible refine Own.below hb ?_)) | ((with_reducible refine OwnK.below hb ?_))))
              have kw3' : Below w2.heap.size w2 w3 := (by repeat (first | (with_reducible exact Below.refl _ _) | (with_reducible assumption) | (with_reducible refine Below.drew ?_) | (with_reducible refine Below.drewN ?_) | ((with_reducible refine Below.al ?_ ?_); · first | omega | (simp; done) | (simp; omega)) | ((with_reducible refine Below.sc ?_ ?_); · first | omega | (simp; done) | (simp; omega)) | ((with_reducible refine Below.thru hb ?_ ?_); · first | omega | (simp; done) | (simp; omega))))
              have kw3 : Below w.heap.size w w3 := (by repeat (first | (with_reducible exact Below.refl _ _) | (with_reducible assumption) | (with_reducible refine Below.drew ?_) | (with_reducible refine Below.drewN ?_) | ((with_reducible refine Below.al ?_ ?_); · first | omega | (simp; done) | (simp; omega)) | ((with_reducible refine Below.sc ?_ ?_); · first | omega | (simp; done) | (simp; omega)) | ((with_reducible refine Below.thru hb ?_ ?_); · first | omega | (simp; done) | (simp; omega))))
              have sw3 := kw3.size
              clear hb
              have H := Lib.hid (And.intro O3 kw3')
              have lw3 := kw3'.size
              have hup := upw_succ t m s
              rw [if_neg htest] at hup
              have HU := Lib.hid hup
              have HT := Lib.hid htest
              clear q00 q01 q02 hE O5 kwr kwr0 O3 kw3' hup htest
              go_wp2_with (at_builtin; refine wpList_app encB rfl _ _ 44 5 1 rfl Try.underlying44 i0 _ hi hz0 hz1 hz2 rfl u5 (upw t m s).2 w2.heap.size w3.heap.size 1 #[.int .u8 82] [82] rfl ?o1 rfl ?b1 rfl ?l1 ?l2 ?l3 ?_)
              case o1 =>
                have O3 := H.out.1
                exact (by repeat (first | (with_reducible assumption) | (with_reducible refine Own.drew ?_) | (with_reducible refine Own.drewN ?_) | (with_reducible refine Own.alloc ?_) | (with_reducible refine OwnK.drew ?_) | (with_reducible refine OwnK.drewN ?_) | (with_reducible refine OwnK.alloc ?_) | ((with_reducible refine OwnK.put ?_ ?_); · first | omega | (simp; done) | (simp; omega)) | ((with_reducible refine Own.below hb ?_)) | ((with_reducible refine OwnK.below hb ?_))))
              case b1 => exact Blk.new (by simp)
              case l1 => rw [hlen]; simp only [List.length_cons, List.length_nil, maxLen]; omega
              case l2 => rw [hlen]; simp only [List.length_cons, List.length_nil]; omega
              case l3 => simp; omega
              intro v' w4 O4 hg
              have O3 := H.out.1
              have kw4 : Below w2.heap.size w2 w4 := Below.grownK hg (e := encB) (E := 5) (B := w2.heap.size) (xs := (upw t m s).2) (by repeat (first | (with_reducible assumption) | (with_reducible refine Own.drew ?_) | (with_reducible refine Own.drewN ?_) | (with_reducible refine Own.alloc ?_) | (with_reducible refine OwnK.drew ?_) | (with_reducible refine OwnK.drewN ?_) | (with_reducible refine OwnK.alloc ?_) | ((with_reducible refine OwnK.put ?_ ?_); · first | omega | (simp; done) | (simp; omega)) | ((with_reducible refine Own.below hb ?_)) | ((with_reducible refine OwnK.below hb ?_)))) (Nat.le_refl _) (by simp; omega) (Below.al lw3 H.out.2)
              clear hg O3
              go_wp2
              go_roundw
              case rel =>
                refine ⟨s + 1, by omega, by rw [← HE0.out]; go_num, ?_, ?_, ?_, ?_, kw4⟩
                all_goals rw [HU.out]
                exact O4
              case measure => first | (simp [intOf]; done) | (simp [intOf]; omega)
          · obtain rfl : s = m := by omega
            have ei : (s : Int) - s - 1 = -1 := by omega
            rw [ei]
            have kwr0 : Below w.heap.size w wr := Below.thru kwr sw2 kw2
            have hR : PathR t ⟨(upw t s s).2.toArray⟩ 0 := by
              unfold PathR; rw [h1, if_pos rfl, if_neg (by omega)]; exact ⟨s, hk, e1, by rw [if_pos h12]; exact ⟨rfl, rfl⟩⟩
            have HR := Lib.hid hR
            rcases O5.form with ⟨rfl, hv⟩ | ⟨gp, cp, rfl, hp1, hp2, _, _, _⟩
            · have hcv := run_convert_bytes_nil (P := Try.prog) wr 44 5 Try.underlying44 Try.underlying5 0 0
              rw [hv] at HR
              clear ff hR
              go_wp2
              go_ret2
              exact ⟨_, _, rfl, HR.out, kwr0⟩
            · have hcv := run_convert_bytes_back (P := Try.prog) wr 44 9 5 ⟨gp, 0, none⟩ cp (upw t s s).2 Try.underlying44 Try.underlying5 Try.underlying9 (fun j hj => by
                have q := O5.at (j := j) (i := 0) rfl (List.getElem?_eq_getElem hj) rfl
                rw [show (⟨gp, 0, none⟩ : Addr).add j = ⟨gp, j, none⟩ by simp [Addr.add]; exact Eq.symm]
                simpa [encB] using q)
              rw [hlen] at hcv ⊢
              clear ff hR
              go_wp2
              go_ret2
              exact ⟨_, _, rfl, HR.out, kwr0⟩
      · go_wp2
        go_ret2
        exact ⟨_, _, rfl, by unfold PathR; rw [h1, if_pos rfl, if_neg (by omega)]; exact ⟨m, hk, e1, by rw [if_neg h12]; exact ⟨rfl, rfl⟩⟩, kw2⟩

set_option maxHeartbeats 4000000 in
theorem specPathOfTriple_any (t : T3) (w : World) :
    Calls Try.prog 13 #[.agg #[.int .i64 t.x, .int .i64 t.y, .int .i64 t.z]] w (GivesPathOf t w) := by
  cases h1 : t.ok with
  | false =>
    go_enter Try.func13, Try.ntmps13
    go_wp2_with fail
    refine (l09Is_t t _).mono ?_
    rintro e w1 ⟨rfl, hb⟩
    have kw1 : Below w.heap.size w w1 := (by repeat (first | (with_reducible exact Below.refl _ _) | (with_reducible assumption) | (with_reducible refine Below.drew ?_) | (with_reducible refine Below.drewN ?_) | ((with_reducible refine Below.al ?_ ?_); · first | omega | (simp; done) | (simp; omega)) | ((with_reducible refine Below.sc ?_ ?_); · first | omega | (simp; done) | (simp; omega)) | ((with_reducible refine Below.thru hb ?_ ?_); · first | omega | (simp; done) | (simp; omega))))
    have sw1 := kw1.size
    clear hb
    go_wp2
    go_ret2
    exact ⟨_, _, rfl, by unfold PathR; rw [h1]; exact ⟨rfl, rfl⟩, kw1⟩
  | true =>
    by_cases h5 : t.z < 5
    · go_enter Try.func13, Try.ntmps13
      go_wp2_with fail
      refine (l09Is_t t _).mono ?_
      rintro e w1 ⟨rfl, hb⟩
      have B1 : Blk w1 (w.heap.size) 23 (tcs t) := (by repeat (first | (with_reducible assumption) | ((with_reducible refine Blk.new ?_); · first | omega | (simp; done) | (simp; omega)) | (with_reducible apply Blk.set4) | (with_reducible apply Blk.set3) | (with_reducible apply Blk.set2) | ((with_reducible refine Blk.put ?_ ?_); · first | omega | (simp; omega)) | (with_reducible refine Blk.old ?_) | (with_reducible refine Blk.drew ?_) | (with_reducible refine Blk.drewN ?_) | ((with_reducible refine Blk.below hb ?_ ?_); · first | omega | (simp; done) | (simp; omega))))
      have lB1 := B1.lt
      have kw1 : Below w.heap.size w w1 := (by repeat (first | (with_reducible exact Below.refl _ _) | (with_reducible assumption) | (with_reducible refine Below.drew ?_) | (with_reducible refine Below.drewN ?_) | ((with_reducible refine Below.al ?_ ?_); · first | omega | (simp; done) | (simp; omega)) | ((with_reducible refine Below.sc ?_ ?_); · first | omega | (simp; done) | (simp; omega)) | ((with_reducible refine Below.thru hb ?_ ?_); · first | omega | (simp; done) | (simp; omega))))
      have sw1 := kw1.size
      clear hb
      have q1 := B1.t
      go_wp2
      go_ret2
      exact ⟨_, _, rfl, by unfold PathR; rw [h1, if_pos rfl, if_pos h5]; exact ⟨rfl, rfl⟩, kw1⟩
    · have h5' : 5 ≤ t.z := by omega
      go_enter Try.func13, Try.ntmps13
      go_wp2_with fail
      refine (l09Is_t t _).mono ?_
      rintro e w1 ⟨rfl, hb⟩
      have B1 : Blk w1 (w.heap.size) 23 (tcs t) := (by repeat (first | (with_reducible assumption) | ((with_reducible refine Blk.new ?_); · first | omega | (simp; done) | (simp; omega)) | (with_reducible apply Blk.set4) | (with_reducible apply Blk.set3) | (with_reducible apply Blk.set2) | ((with_reducible refine Blk.put ?_ ?_); · first | omega | (simp; omega)) | (with_reducible refine Blk.old ?_) | (with_reducible refine Blk.drew ?_) | (with_reducible refine Blk.drewN ?_) | ((with_reducible refine Blk.below hb ?_ ?_); · first | omega | (simp; done) | (simp; omega))))
      have lB1 := B1.lt
      have kw1 : Below w.heap.size w w1 := (by repeat (first | (with_reducible exact Below.refl _ _) | (with_reducible assumption) | (with_reducible refine Below.drew ?_) | (with_reducible refine Below.drewN ?_) | ((with_reducible refine Below.al ?_ ?_); · first | omega | (simp; done) | (simp; omega)) | ((with_reducible refine Below.sc ?_ ?_); · first | omega | (simp; done) | (simp; omega)) | ((with_reducible refine Below.thru hb ?_ ?_); · first | omega | (simp; done) | (simp; omega))))
      have sw1 := kw1.size
      clear hb
      have q1 := B1.t
      go_wp2
      obtain ⟨i0, hi, hz0, hz1, hz2⟩ := info_parts infoT
      go_loopw [4, 5] (fun v p wr => ∃ (k b : Nat), Hid (∀ j, j < k → 5 < (dn t j).z) ∧ p = .pointer (some ⟨b, 0, none⟩) ∧ w.heap.size + 1 ≤ b ∧ v.ownBlock ≠ some b ∧ Blk wr b 23 (tcs (dn t k)) ∧ OwnT wr (w.heap.size + 1) v (dns t k) ∧ Below w.heap.size w wr)
        (fun v _ _ => t.z.toNat + 1 - lenOf v)
      case atStart => exact ⟨0, _, Lib.hid (fun j hj => absurd hj (by omega)), rfl, by omega, by simp [Value.ownBlock], (show Blk _ _ _ (tcs t) from (by repeat (first | (with_reducible assumption) | ((with_reducible refine Blk.new ?_); · first | omega | (simp; done) | (simp; omega)) | (with_reducible apply Blk.set4) | (with_reducible apply Blk.set3) | (with_reducible apply Blk.set2) | ((with_reducible refine Blk.put ?_ ?_); · first | omega | (simp; omega)) | (with_reducible refine Blk.old ?_) | (with_reducible refine Blk.drew ?_) | (with_reducible refine Blk.drewN ?_) | ((with_reducible refine Blk.below hb ?_ ?_); · first | omega | (simp; done) | (simp; omega))))), OwnK.alloc (OwnK.of_blk (xs := dns t 0) (Blk.new (by simp)) (by omega) rfl (by simp [dns, maxLen])), (by repeat (first | (with_reducible exact Below.refl _ _) | (with_reducible assumption) | (with_reducible refine Below.drew ?_) | (with_reducible refine Below.drewN ?_) | ((with_reducible refine Below.al ?_ ?_); · first | omega | (simp; done) | (simp; omega)) | ((with_reducible refine Below.sc ?_ ?_); · first | omega | (simp; done) | (simp; omega)) | ((with_reducible refine Below.thru hb ?_ ?_); · first | omega | (simp; done) | (simp; omega))))⟩
      case round =>
        obtain ⟨k, b, hk, rfl, hb1, hb2, B, O, kwr⟩ := hrel
        have hk1 : ∀ j, j < k → 1 < (dn t j).z := fun j hj => by have := hk.out j hj; omega
        have ok := (dn_inv h1 k hk1).1
        have hlen := dn_len h1 hk1
        have q := B.t
        have lB := B.lt
        have swr := kwr.size
        by_cases hz : 5 < (dn t k).z
        · have hs := T3.ok_small ok
          go_wp2_with fail
          refine (l09Neighbour_any (dn t k) 2 _ hs (.inr (.inr rfl))).mono ?_
          rw [show (dn t k).nb 2 = dn t (k + 1) from rfl]
          rintro e w3 ⟨rfl, hb⟩
          have B3 : Blk w3 b 23 (tcs (dn t k)) := (by repeat (first | (with_reducible assumption) | ((with_reducible refine Blk.new ?_); · first | omega | (simp; done) | (simp; omega)) | (with_reducible apply Blk.set4) | (with_reducible apply Blk.set3) | (with_reducible apply Blk.set2) | ((with_reducible refine Blk.put ?_ ?_); · first | omega | (simp; omega)) | (with_reducible refine Blk.old ?_) | (with_reducible refine Blk.drew ?_) | (with_reducible refine Blk.drewN ?_) | ((with_reducible refine Blk.below hb ?_ ?_); · first | omega | (simp; done) | (simp; omega))))
          have O3 : OwnT w3 (w.heap.size + 1) u4 (dns t k) := O.below hb
          have kw3 : Below w.heap.size w w3 := (by repeat (first | (with_reducible exact Below.refl _ _) | (with_reducible assumption) | (with_reducible refine Below.drew ?_) | (with_reducible refine Below.drewN ?_) | ((with_reducible refine Below.al ?_ ?_); · first | omega | (simp; done) | (simp; omega)) | ((with_reducible refine Below.sc ?_ ?_); · first | omega | (simp; done) | (simp; omega)) | ((with_reducible refine Below.thru hb ?_ ?_); · first | omega | (simp; done) | (simp; omega))))
          have sw3 := kw3.size
          have lB3 := B3.lt
          have q3 := B3.t
          have f3 := B3.tf
          have H := Lib.hid (And.intro B3 (And.intro O3 kw3))
          have HK := Lib.hid hk1
          clear hb B O kwr lB swr q hs B3 O3 kw3 hk1
          go_wp2_with (at_builtin; refine wpList_app encT rfl _ _ 32 23 24 rfl Try.underlying32 i0 _ hi hz0 hz1 hz2 rfl u4 (dns t k) (w.heap.size + 1) w3.heap.size 1 (tcs (dn t (k + 1))) [dn t (k + 1)] rfl ?o1 rfl ?b1 rfl ?l1 ?l2 ?l3 ?_)
          case o1 => exact OwnK.alloc (OwnK.putNe hb2 (OwnK.putNe hb2 (OwnK.putNe hb2 H.out.2.1)))
          case b1 => exact Blk.new (by simp)
          case l1 => rw [dns_length]; simp only [List.length_cons, List.length_nil, maxLen]; omega
          case l2 => rw [dns_length]; simp only [List.length_cons, List.length_nil]; omega
          case l3 => simp; omega
          intro v' w4 O4 hg
          have B1 := H.out.1
          have O1 := H.out.2.1
          have kw1' := H.out.2.2
          have Bp : Blk ((((w3.setCell ⟨b, 0, none⟩ (.int .i64 (dn t (k + 1)).x)).setCell ⟨b, 1, none⟩ (.int .i64 (dn t (k + 1)).y)).setCell ⟨b, 2, none⟩ (.int .i64 (dn t (k + 1)).z)).alloc (.cells (tcs (dn t (k + 1))) 23)) b 23 (tcs (dn t (k + 1))) := (by repeat (first | (with_reducible assumption) | ((with_reducible refine Blk.new ?_); · first | omega | (simp; done) | (simp; omega)) | (with_reducible apply Blk.set4) | (with_reducible apply Blk.set3) | (with_reducible apply Blk.set2) | ((with_reducible refine Blk.put ?_ ?_); · first | omega | (simp; omega)) | (with_reducible refine Blk.old ?_) | (with_reducible refine Blk.drew ?_) | (with_reducible refine Blk.drewN ?_) | ((with_reducible refine Blk.below hb ?_ ?_); · first | omega | (simp; done) | (simp; omega))))
          have B2 : Blk w4 b 23 (tcs (dn t (k + 1))) := (hg.block b Bp.lt (fun e => hb2 e.symm)).trans Bp
          have kw4 : Below w.heap.size w w4 := Below.grownK hg (e := encT) (E := 23) (B := w.heap.size + 1) (xs := dns t k) (OwnK.alloc (OwnK.putNe hb2 (OwnK.putNe hb2 (OwnK.putNe hb2 O1)))) (by omega) (by simp; omega) (by repeat (first | (with_reducible exact Below.refl _ _) | (with_reducible assumption) | (with_reducible refine Below.drew ?_) | (with_reducible refine Below.drewN ?_) | ((with_reducible refine Below.al ?_ ?_); · first | omega | (simp; done) | (simp; omega)) | ((with_reducible refine Below.sc ?_ ?_); · first | omega | (simp; done) | (simp; omega)) | ((with_reducible refine Below.thru hb ?_ ?_); · first | omega | (simp; done) | (simp; omega))))
          have len1 := O1.lenOf
          have len2 := O4.lenOf
          rw [← dns_succ] at O4 len2
          rw [dns_length] at len1 len2
          have q4 := B2.t
          have sw4 := kw4.size
          have lt4 := B2.lt
          clear hg B1 O1 kw1' H Bp
          go_wp2
          go_roundw
          case rel => exact ⟨k + 1, _, Lib.hid (fun j hj => if e : j < k then hk.out j e else (show j = k by omega) ▸ hz), rfl, by omega, fun e => by have := (O4.lt e).2; omega, (by repeat (first | (with_reducible assumption) | ((with_reducible refine Blk.new ?_); · first | omega | (simp; done) | (simp; omega)) | (with_reducible apply Blk.set4) | (with_reducible apply Blk.set3) | (with_reducible apply Blk.set2) | ((with_reducible refine Blk.put ?_ ?_); · first | omega | (simp; omega)) | (with_reducible refine Blk.old ?_) | (with_reducible refine Blk.drew ?_) | (with_reducible refine Blk.drewN ?_) | ((with_reducible refine Blk.below hb ?_ ?_); · first | omega | (simp; done) | (simp; omega)))), (by repeat (first | (with_reducible assumption) | (with_reducible refine Own.drew ?_) | (with_reducible refine Own.drewN ?_) | (with_reducible refine Own.alloc ?_) | (with_reducible refine OwnK.drew ?_) | (with_reducible refine OwnK.drewN ?_) | (with_reducible refine OwnK.alloc ?_) | ((with_reducible refine OwnK.put ?_ ?_); · first | omega | (simp; done) | (simp; omega)) | ((with_reducible refine Own.below hb ?_)) | ((with_reducible refine OwnK.below hb ?_)))), (by repeat (first | (with_reducible exact Below.refl _ _) | (with_reducible assumption) | (with_reducible refine Below.drew ?_) | (with_reducible refine Below.drewN ?_) | ((with_reducible refine Below.al ?_ ?_); · first | omega | (simp; done) | (simp; omega)) | ((with_reducible refine Below.sc ?_ ?_); · first | omega | (simp; done) | (simp; omega)) | ((with_reducible refine Below.thru hb ?_ ?_); · first | omega | (simp; done) | (simp; omega))))⟩
          case measure => rw [len1, len2]; omega
        · obtain ⟨km, hkm⟩ := ends_exists h1
          obtain ⟨m, rfl, e1, e2, e3⟩ := ends_form h1 h5' hkm
          obtain rfl := at_five h1 hkm e1 hk.out hz
          clear hi hz0 hz1 hz2
          have ln := dns_length t k
          rcases O.form with ⟨rfl, hv⟩ | ⟨g, c, rfl, hg1, hg2, _, _, _⟩
          · rw [hv] at ln
            simp at ln
          rw [ln] at O ⊢
          by_cases h12 : k ≤ 12
          · go_wp2
            refine forget (fun W_ => Below w.heap.size w W_ ∧ OwnT W_ (w.heap.size + 1) (.slice (some ⟨g, 0, none⟩) (k + 1) c) (dns t k)) ⟨kwr, O⟩ ?_
            rintro wv ⟨kwv, OV⟩
            clear B q lB swr hb2 hg2 O kwr ok
            go_loopw [6, 7, 8] (fun x p i wx => ∃ s : Nat, s ≤ k ∧ i = .int .i64 ((k : Int) - s - 1) ∧ x = .int .i64 (upw t k s).1.1 ∧ p = .string ⟨(upw t k s).2.toArray⟩ ∧ Below wv.heap.size wv wx) (fun _ _ i _ => (intOf i + 1).toNat)
            case atStart => exact ⟨0, by omega, by go_num, rfl, rfl, (by repeat (first | (with_reducible exact Below.refl _ _) | (with_reducible assumption) | (with_reducible refine Below.drew ?_) | (with_reducible refine Below.drewN ?_) | ((with_reducible refine Below.al ?_ ?_); · first | omega | (simp; done) | (simp; omega)) | ((with_reducible refine Below.sc ?_ ?_); · first | omega | (simp; done) | (simp; omega)) | ((with_reducible refine Below.thru hb ?_ ?_); · first | omega | (simp; done) | (simp; omega))))⟩
            case round =>
              obtain ⟨s, hs, rfl, rfl, rfl, kws⟩ := hrel
              have ff := (upw_fits h1 hkm.1 e1 s hs).1
              have hcat : ¬ 9223372036854775807 < (upw t k s).2.length + 1 := by rw [(upw_fits h1 hkm.1 e1 s hs).2]; omega
              by_cases hsm : s < k
              · obtain ⟨j, hj⟩ : ∃ j, j = k - (s + 1) := ⟨_, rfl⟩
                have ei : (k : Int) - s - 1 = (j : Int) := by omega
                have ei2 : (k : Int) - s = (j : Int) + 1 := by omega
                have o1 := dn_inv h1 (k - s) fun a ha => hkm.1 a (by omega)
                have o2 := dn_inv h1 j fun a ha => hkm.1 a (by omega)
                have so := T3.ok_small o1.1
                have so2 := T3.ok_small o2.1
                have e3 : (dn t j).nb 2 = dn t (k - s) := by
                  rw [show k - s = j + 1 by omega]; rfl
                have su := (step_up o2.1 (hkm.1 j (by omega)) (by rw [e3]; exact ff)).1
                have bl : -1000000000 ≤ (upw t k s).1.1 ∧ (upw t k s).1.1 ≤ 1000000000 := by
                  obtain ⟨f1, f2⟩ := ff; obtain ⟨p1, p2, p3⟩ := so; rcases f2 with f2 | f2 <;> omega
                have bm : -1000000000 ≤ (upw t k s).1.2.1 ∧ (upw t k s).1.2.1 ≤ 1000000000 := by
                  obtain ⟨f1, f2⟩ := ff; obtain ⟨p1, p2, p3⟩ := so; omega
                have bz : -4000000000000000000 ≤ (dn t j).z ∧ (dn t j).z ≤ 4000000000000000000 := by
                  obtain ⟨p1, p2, p3⟩ := so2; omega
                have q0 := fun x : Later wr => OwnT.cells (j := j) (OV.below (kws.trans (x.h.mono kws.size))) rfl (by rw [dns_length]; omega)
                have qz := OwnT.cells (j := j + 1) (OV.below kws) rfl (by rw [dns_length]; omega)
                simp only [dns_get] at q0 qz
                rw [show j + 1 = k - s by omega] at qz
                have qz3 := qz.2.2
                rw [← ff.1] at qz3
                rw [show k - s = j + 1 by omega] at qz3
                have q00 := fun x => (q0 x).1
                have q01 := fun x => (q0 x).2.1
                have q02 := fun x => (q0 x).2.2
                have i0' : (0 : Int) ≤ (j : Int) := by omega
                have i1' : (j : Int) < ((k + 1 : Nat) : Int) := by omega
                have jlt : j < k + 1 := by omega
                have jlt2 : j + 1 < k + 1 := by omega
                rw [ei]
                have HE0 := Lib.hid ei
                have HF := Lib.hid hj
                have kwr1 : Below w.heap.size w wr := Below.thru kws kwv.size kwv
                have swr1 := kwr1.size
                have sws := kws.size
                have hE := run_equalInT (sort3 (upw t k s).1.1 (upw t k s).1.2.1 (dn t j).z) (dn t j)
                have HS := Lib.hid su
                clear q0 qz ff so so2 o1 o2 e3 su hj ei ei2
                by_cases htest : dn t j = sort3 (upw t k s).1.1 (upw t k s).1.2.1 (3 * (upw t k s).1.1 * (upw t k s).1.2.1 - (upw t k s).1.2.2)
                · rw [decide_eq_true (HS.out.1 htest)] at hE
                  have hup := upw_succ t k s
                  rw [← HF.out, if_pos htest] at hup
                  have HU := Lib.hid hup
                  clear htest hup
                  go_wp2_with fail
                  refine wp_region_calm (by kernel_rfl) (by kernel_rfl) ?_
                  repeat (go_big_quiet_step (first | (go_at_call 41; with_reducible exact Calls.calm ((l09Sorted_any _ _ _ _ bl bm bz)))))
                  refine wpQuiet_nil ?_
                  rintro w3 ⟨⟨_, hb⟩, rfl⟩
                  have kw3' : Below wv.heap.size wv w3 := (by repeat (first | (with_reducible exact Below.refl _ _) | (with_reducible assumption) | (with_reducible refine Below.drew ?_) | (with_reducible refine Below.drewN ?_) | ((with_reducible refine Below.al ?_ ?_); · first | omega | (simp; done) | (simp; omega)) | ((with_reducible refine Below.sc ?_ ?_); · first | omega | (simp; done) | (simp; omega)) | ((with_reducible refine Below.thru hb ?_ ?_); · first | omega | (simp; done) | (simp; omega))))
                  have kw3 : Below w.heap.size w w3 := (by repeat (first | (with_reducible exact Below.refl _ _) | (with_reducible assumption) | (with_reducible refine Below.drew ?_) | (with_reducible refine Below.drewN ?_) | ((with_reducible refine Below.al ?_ ?_); · first | omega | (simp; done) | (simp; omega)) | ((with_reducible refine Below.sc ?_ ?_); · first | omega | (simp; done) | (simp; omega)) | ((with_reducible refine Below.thru hb ?_ ?_); · first | omega | (simp; done) | (simp; omega))))
                  have sw3 := kw3.size
                  clear hb
                  clear q00 q01 q02 hE qz3
                  go_wp2
                  go_roundw
                  case rel =>
                    refine ⟨s + 1, by omega, by rw [← HE0.out]; go_num, ?_, ?_, kw3'⟩
                    all_goals rw [HU.out]
                    exact congrArg Value.string (bcat _ _)
                  case measure => first | (simp [intOf]; done) | (simp [intOf]; omega)
                · rw [decide_eq_false (fun e => htest (HS.out.2 e))] at hE
                  have hup := upw_succ t k s
                  rw [← HF.out, if_neg htest] at hup
                  have HU := Lib.hid hup
                  clear htest hup
                  go_wp2_with fail
                  refine wp_region_calm (by kernel_rfl) (by kernel_rfl) ?_
                  repeat (go_big_quiet_step (first | (go_at_call 41; with_reducible exact Calls.calm ((l09Sorted_any _ _ _ _ bl bm bz)))))
                  refine wpQuiet_nil ?_
                  rintro w3 ⟨⟨_, hb⟩, rfl⟩
                  have kw3' : Below wv.heap.size wv w3 := (by repeat (first | (with_reducible exact Below.refl _ _) | (with_reducible assumption) | (with_reducible refine Below.drew ?_) | (with_reducible refine Below.drewN ?_) | ((with_reducible refine Below.al ?_ ?_); · first | omega | (simp; done) | (simp; omega)) | ((with_reducible refine Below.sc ?_ ?_); · first | omega | (simp; done) | (simp; omega)) | ((with_reducible refine Below.thru hb ?_ ?_); · first | omega | (simp; done) | (simp; omega))))
                  have kw3 : Below w.heap.size w w3 := (by repeat (first | (with_reducible exact Below.refl _ _) | (with_reducible assumption) | (with_reducible refine Below.drew ?_) | (with_reducible refine Below.drewN ?_) | ((with_reducible refine Below.al ?_ ?_); · first | omega | (simp; done) | (simp; omega)) | ((with_reducible refine Below.sc ?_ ?_); · first | omega | (simp; done) | (simp; omega)) | ((with_reducible refine Below.thru hb ?_ ?_); · first | omega | (simp; done) | (simp; omega))))
                  have sw3 := kw3.size
                  clear hb
                  clear q00 q01 q02 hE qz3
                  go_wp2
                  go_roundw
                  case rel =>
                    refine ⟨s + 1, by omega, by rw [← HE0.out]; go_num, ?_, ?_, kw3'⟩
                    all_goals rw [HU.out]
                    exact congrArg Value.string (bcat _ _)
                  case measure => first | (simp [intOf]; done) | (simp [intOf]; omega)
              · obtain rfl : s = k := by omega
                have ei : (s : Int) - s - 1 = -1 := by omega
                rw [ei]
                have kwr0 : Below w.heap.size w wr := Below.thru kws kwv.size kwv
                have hR : PathR t ⟨(upw t s s).2.toArray⟩ 0 := by
                  unfold PathR; rw [h1, if_pos rfl, if_neg (by omega)]; exact ⟨s, hkm, e1, by rw [if_pos h12]; exact ⟨rfl, rfl⟩⟩
                have HR := Lib.hid hR
                clear ff hR
                go_wp2
                go_ret2
                exact ⟨_, _, rfl, HR.out, kwr0⟩
          · go_wp2
            go_ret2
            exact ⟨_, _, rfl, by unfold PathR; rw [h1, if_pos rfl, if_neg (by omega)]; exact ⟨k, hkm, e1, by rw [if_neg h12]; exact ⟨rfl, rfl⟩⟩, kwr⟩

end Go.Proofs.Ytcijbgfiefmdkaa
