/- The program's isMix. -/
import Derived.Test.YtjjbaebddkejnaaSum
import Derived.Test.YtjjbaebddkejnaaInv
namespace Go.Proofs.Ytjjbaebddkejnaa
open Go.RowKit
set_option linter.unusedSimpArgs false

def offM (a : Int) : Bool := !entM a
set_option maxHeartbeats 1000000 in
theorem offM_any (a : Int) (w : World) :
    Calls Try.prog 52 #[.int .i64 a] w fun e w' => e = .returned (.bool (offM a)) ∧ Below w.heap.size w w' := by
  have HW := Lib.hid (fun w' => within_any a (-1000000) 1000000 w')
  have HB := Lib.hid (show offM a = !inB a (-1000000) 1000000 by rw [offM, entM, inB]; by_cases h1 : -1000000 ≤ a <;> by_cases h2 : a ≤ 1000000 <;> simp [h1, h2])
  rw [HB.out]
  clear HB
  generalize inB a (-1000000) 1000000 = b at *
  go_enter Try.func52, Try.ntmps52
  go_wp2_with fail
  refine (HW.out _).mono ?_
  rintro e w1 ⟨rfl, rfl⟩
  go_wp2
  go_ret
  exact ⟨rfl, (by repeat (first | (with_reducible exact Below.refl _ _) | (with_reducible assumption) | (with_reducible refine Below.drew ?_) | (with_reducible refine Below.drewN ?_) | ((with_reducible refine Below.al ?_ ?_); · first | omega | (simp; done) | (simp; omega)) | ((with_reducible refine Below.sc ?_ ?_); · first | omega | (simp; done) | (simp; omega)) | ((with_reducible refine Below.thru hb ?_ ?_); · first | omega | (simp; done) | (simp; omega))))⟩
set_option maxRecDepth 8000 in
set_option maxHeartbeats 1000000 in
theorem indexFuncM_any (v : Value) (xs : List Int) (w : World) (B : SlIn w .i64 v xs) (hl : xs.length ≤ 1000) :
    Calls Try.prog 68 #[v, .func (.func 52) #[] #[]] w fun e w' => ∃ r, e = .returned (.int .i64 r) ∧ IdxR offM xs r ∧ Below w.heap.size w w' := by
  obtain ⟨ao, c, rfl, hx⟩ := B.form
  have HX := Lib.hid hx
  have HC := Lib.hid offM_any
  clear B hx
  go_enter Try.func68, Try.ntmps68
  go_wp2_with fail
  go_loopw [8] (fun i wr => ∃ k : Nat, k ≤ xs.length ∧ i = .int .i64 k ∧ Hid ((xs.take k).any offM = false) ∧ Below w.heap.size w wr) (fun i _ => xs.length - (intOf i).toNat)
  case atStart => exact ⟨0, Nat.zero_le _, rfl, by rfl, (by repeat (first | (with_reducible exact Below.refl _ _) | (with_reducible assumption) | (with_reducible refine Below.drew ?_) | (with_reducible refine Below.drewN ?_) | ((with_reducible refine Below.al ?_ ?_); · first | omega | (simp; done) | (simp; omega)) | ((with_reducible refine Below.sc ?_ ?_); · first | omega | (simp; done) | (simp; omega)) | ((with_reducible refine Below.thru hb ?_ ?_); · first | omega | (simp; done) | (simp; omega))))⟩
  case round =>
    obtain ⟨k, hk, rfl, hall, kwr⟩ := hrel
    by_cases hlt : k < xs.length
    · obtain ⟨a, rfl, hcx⟩ := HX.out (by omega)
      have c1 : wr.cell? (a.add k) = some (.int .i64 xs[k]) := by
        have e := hcx k hlt
        rw [kwr.cell (block_lt_of_cell e :)]
        exact e
      have i0 : (0 : Int) ≤ (k : Int) := by omega
      have i1 : (k : Int) < (xs.length : Int) := by omega
      have HT := Lib.hid (any_take_succ offM xs k hlt)
      have HG := Lib.hid (any_of_get offM xs k hlt)
      clear hcx
      generalize xs[k] = x at *
      have HCx := Lib.hid (HC.out x)
      have swr := kwr.size
      generalize offM x = b at *
      go_wp2_with fail
      refine (HCx.out _).mono ?_
      rintro e w2 ⟨rfl, k2⟩
      have k3 : Below w.heap.size w w2 := kwr.trans (k2.mono swr)
      clear k2 c1 kwr
      cases b with
      | true =>
        go_wp2
        go_ret
        exact ⟨(k : Int), rfl, ⟨by omega, by omega, by rw [HG.out (by first | rfl | trivial)]; simp⟩, (by repeat (first | (with_reducible exact Below.refl _ _) | (with_reducible assumption) | (with_reducible refine Below.drew ?_) | (with_reducible refine Below.drewN ?_) | ((with_reducible refine Below.al ?_ ?_); · first | omega | (simp; done) | (simp; omega)) | ((with_reducible refine Below.sc ?_ ?_); · first | omega | (simp; done) | (simp; omega)) | ((with_reducible refine Below.thru hb ?_ ?_); · first | omega | (simp; done) | (simp; omega))))⟩
      | false =>
        go_wp2
        go_roundw
        case rel => exact ⟨k + 1, by omega, by go_num, Lib.hid (by rw [HT.out, hall.out]; rfl), (by repeat (first | (with_reducible exact Below.refl _ _) | (with_reducible assumption) | (with_reducible refine Below.drew ?_) | (with_reducible refine Below.drewN ?_) | ((with_reducible refine Below.al ?_ ?_); · first | omega | (simp; done) | (simp; omega)) | ((with_reducible refine Below.sc ?_ ?_); · first | omega | (simp; done) | (simp; omega)) | ((with_reducible refine Below.thru hb ?_ ?_); · first | omega | (simp; done) | (simp; omega))))⟩
        case measure => first | (simp [intOf]; done) | (simp [intOf]; omega)
    · have HF := Lib.hid (show xs.any offM = false by have := hall.out; rwa [List.take_of_length_le (by omega)] at this)
      go_wp2
      go_ret
      exact ⟨-1, rfl, ⟨by omega, by omega, by rw [HF.out]; rfl⟩, (by repeat (first | (with_reducible exact Below.refl _ _) | (with_reducible assumption) | (with_reducible refine Below.drew ?_) | (with_reducible refine Below.drewN ?_) | ((with_reducible refine Below.al ?_ ?_); · first | omega | (simp; done) | (simp; omega)) | ((with_reducible refine Below.sc ?_ ?_); · first | omega | (simp; done) | (simp; omega)) | ((with_reducible refine Below.thru hb ?_ ?_); · first | omega | (simp; done) | (simp; omega))))⟩
set_option maxHeartbeats 1000000 in
theorem containsFuncM_any (v : Value) (xs : List Int) (w : World) (B : SlIn w .i64 v xs) (hl : xs.length ≤ 1000) :
    Calls Try.prog 44 #[v, .func (.func 52) #[] #[]] w fun e w' => e = .returned (.bool (xs.any offM)) ∧ Below w.heap.size w w' := by
  have HI := Lib.hid (indexFuncM_any v xs w B hl)
  clear B
  go_enter Try.func44, Try.ntmps44
  go_wp2_with fail
  refine HI.out.mono ?_
  rintro e w1 ⟨r, rfl, hr, k1⟩
  have HR := Lib.hid hr.2.2
  clear hr
  go_wp2
  go_ret
  exact ⟨by rw [← HR.out]; rfl, (by repeat (first | (with_reducible exact Below.refl _ _) | (with_reducible assumption) | (with_reducible refine Below.drew ?_) | (with_reducible refine Below.drewN ?_) | ((with_reducible refine Below.al ?_ ?_); · first | omega | (simp; done) | (simp; omega)) | ((with_reducible refine Below.sc ?_ ?_); · first | omega | (simp; done) | (simp; omega)) | ((with_reducible refine Below.thru hb ?_ ?_); · first | omega | (simp; done) | (simp; omega))))⟩
set_option maxRecDepth 8000 in
set_option maxHeartbeats 1000000 in
theorem isMix_any (m : Nat) (v : Value) (xs : List Int) (w : World) (hm : 1 ≤ m ∧ m ≤ 60) (hl : (lineL m).length ≤ 1000) (B : SlIn w .i64 v xs) :
    Calls Try.prog 31 #[.int .i64 (m : Int), v] w fun e w' => e = .returned (.bool (okX (lineL m).length xs)) ∧ Below w.heap.size w w' := by
  have hmf : ∀ (fn : Fn) (first cap : Array Value) (w : World), (Instr.makeFunc fn first cap).run Try.prog w = .ok (.func fn first cap) w := fun _ _ _ _ => rfl
  have HL := Lib.hid (fun w' => line_any m w' hm)
  have HC := Lib.hid (fun w' h hl => containsFuncM_any v xs w' h hl)
  have HB := Lib.hid B
  have HE := Lib.hid (show ∀ xs : List Int, xs.all entM = !xs.any offM by intro xs; induction xs with
    | nil => rfl
    | cons x xs ih => rw [List.all_cons, List.any_cons, ih, offM]; cases entM x <;> simp)
  generalize lineL m = L at *
  have HOK := Lib.hid (show okX L.length xs = (xs.length == L.length && !xs.any offM) by rw [okX, HE.out])
  rw [HOK.out]
  clear HOK HE
  obtain ⟨ao, c, rfl, -⟩ := B.form
  clear B
  go_enter Try.func31, Try.ntmps31
  go_wp2_with fail
  refine (HL.out _).mono ?_
  rintro e w1 ⟨v, rfl, O, k1⟩
  obtain ⟨lo, lc, rfl⟩ := O.len
  clear O
  by_cases he : xs.length = L.length
  · have HCC := Lib.hid (HC.out w1 (SlIn.below k1 HB.out) (by omega))
    have HQ := Lib.hid (show (xs.length == L.length) = true by simpa using he)
    rw [he] at HCC
    obtain ⟨b, hb⟩ : ∃ b, xs.any offM = b := ⟨_, rfl⟩
    rw [hb] at HCC
    have HBB := Lib.hid hb
    clear hb
    go_wp2_with fail
    refine HCC.out.mono ?_
    rintro e w2 ⟨rfl, k2⟩
    have s1 := k1.size
    go_wp2
    go_ret
    exact ⟨by rw [HQ.out, HBB.out]; rfl, k1.trans (k2.mono s1)⟩
  · have HQ := Lib.hid (show (xs.length == L.length) = false by simpa using he)
    go_wp2
    go_ret
    exact ⟨by rw [HQ.out]; rfl, k1⟩

end Go.Proofs.Ytjjbaebddkejnaa
