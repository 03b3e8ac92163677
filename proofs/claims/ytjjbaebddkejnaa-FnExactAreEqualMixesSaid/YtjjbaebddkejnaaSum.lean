/- The error of a level, a prime and mixes: what the reference's l08Prime computes (plain law over the printed functions). -/
import Derived.Test.YtjjbaebddkejnaaSrk
import Derived.Test.YtjjbaebddkejnaaInv
namespace Go.Proofs.Ytjjbaebddkejnaa
open Go.RowKit Go.Proofs.Ytjjbaebddkejnaa.Pl08Prime Go.Proofs.YtjjbaebddkejnaaW.PrintWords
set_option linter.unusedSimpArgs false

theorem rd_nat (xs : List Int) (k : Nat) : rd xs (k : Int) = vec xs k := rfl
theorem rd_L1_nat (xs : List (List Int)) (k : Nat) : rd_L1 xs (k : Int) = xs.getD k [] := rfl
theorem Ev.of {α : Type} {g : Nat → Option α} {r : α} {K : Nat} (hm : ∀ k, LeO (g k) (g (k + 1))) (h : g K = some r) : Ev g r := by
  refine ⟨K, fun k hk => ?_⟩
  obtain ⟨d, rfl⟩ := Nat.le.dest hk
  clear hk
  induction d with
  | zero => exact h
  | succ d ih => exact hm _ r ih
def entM (a : Int) : Bool := decide (-1000000 ≤ a ∧ a ≤ 1000000)
/-- A mix of a line of N places. -/
def okX (N : Nat) (x : List Int) : Bool := x.length == N && x.all entM
theorem sums_l1 {xs : List (List Int)} {N i : Nat} {x : List Int} (hi : i < xs.length) (hx : xs.getD i [] = x) (hN : x.length ≤ 1000) (hs : xs.length ≤ 1000) (R : Int) (h : Ev (fun g => spec_l08Sums.l0 g xs (N : Int) ((i + 1 : Nat) : Int)) R) :
    ∀ m j, x.length - j = m → j ≤ x.length → Ev (fun g => spec_l08Sums.l1 g xs (N : Int) (i : Int) (j : Int)) (if (x.drop j).all entM = true then R else 2) := by
  intro m
  induction m with
  | zero =>
    intro j hm hj
    have : j = x.length := by omega
    subst this
    rw [List.drop_length, List.all_nil, if_pos rfl]
    refine h.step fun g => ?_
    rw [spec_l08Sums.l1, if_pos (by omega), if_pos (by omega), rd_L1_nat, hx, if_neg (by omega), IntWalk.wrap64_in _ (by omega)]
    rfl
  | succ m ih =>
    intro j hm hj
    have hjt : j < x.length := by omega
    have e : vec x j = x[j] := by rw [vec, List.getD_eq_getElem?_getD, List.getElem?_eq_getElem hjt]; rfl
    have hd : (x.drop j).all entM = (entM x[j] && (x.drop (j + 1)).all entM) := by rw [List.drop_eq_getElem_cons hjt, List.all_cons]
    by_cases hb : -1000000 ≤ x[j] ∧ x[j] ≤ 1000000
    · have := ih (j + 1) (by omega) (by omega)
      rw [hd, show entM x[j] = true from decide_eq_true hb, Bool.true_and]
      refine this.step fun g => ?_
      rw [spec_l08Sums.l1, if_pos (by omega), if_pos (by omega), rd_L1_nat, hx, if_pos (by omega), if_pos (by omega), rd_nat, in_f, Option.bind_some, e, if_pos (decide_eq_true hb), IntWalk.wrap64_in _ (by omega)]
      rfl
    · rw [hd, show entM x[j] = false from decide_eq_false hb, Bool.false_and, if_neg (by simp)]
      refine (Ev.const (2 : Int)).step fun g => ?_
      rw [spec_l08Sums.l1, if_pos (by omega), if_pos (by omega), rd_L1_nat, hx, if_pos (by omega), if_pos (by omega), rd_nat, in_f, Option.bind_some, e, if_neg (by simpa using hb)]
theorem sums_l0 {xs : List (List Int)} {N : Nat} (hN : N ≤ 1000) (hs : xs.length ≤ 1000) :
    ∀ m i, xs.length - i = m → i ≤ xs.length → Ev (fun g => spec_l08Sums.l0 g xs (N : Int) (i : Int)) (if (xs.drop i).all (okX N) = true then 0 else 2) := by
  intro m
  induction m with
  | zero =>
    intro i hm hi
    have : i = xs.length := by omega
    subst this
    rw [List.drop_length, List.all_nil, if_pos rfl]
    refine (Ev.const (0 : Int)).step fun g => ?_
    rw [spec_l08Sums.l0, if_neg (by omega)]
  | succ m ih =>
    intro i hm hi
    have hit : i < xs.length := by omega
    have e : xs.getD i [] = xs[i] := by rw [List.getD_eq_getElem?_getD, List.getElem?_eq_getElem hit]; rfl
    have hd : (xs.drop i).all (okX N) = (okX N xs[i] && (xs.drop (i + 1)).all (okX N)) := by rw [List.drop_eq_getElem_cons hit, List.all_cons]
    by_cases hl : xs[i].length = N
    · have h1 := sums_l1 hit e (by omega) hs _ (ih (i + 1) (by omega) (by omega)) xs[i].length 0 (by omega) (by omega)
      rw [List.drop_zero] at h1
      have e2 : (if (xs.drop i).all (okX N) = true then (0 : Int) else 2) = if xs[i].all entM = true then (if (xs.drop (i + 1)).all (okX N) = true then 0 else 2) else 2 := by
        rw [hd, okX, show (xs[i].length == N) = true by simpa using hl, Bool.true_and]
        cases xs[i].all entM <;> simp
      rw [e2]
      refine h1.step fun g => ?_
      rw [spec_l08Sums.l0, if_pos (by omega), if_pos (by omega), rd_L1_nat, e, if_pos (by omega)]
      rfl
    · rw [hd, okX, show (xs[i].length == N) = false by simpa using hl, Bool.false_and, Bool.false_and, if_neg (by simp)]
      refine (Ev.const (2 : Int)).step fun g => ?_
      rw [spec_l08Sums.l0, if_pos (by omega), if_pos (by omega), rd_L1_nat, e, if_neg (by omega)]
/-- The error of a level and mixes. -/
def sumC (n : Int) (xs : List (List Int)) : Int := if lvCode n = 0 then (if xs.all (okX (lineL n.toNat).length) = true then 0 else 2) else lvCode n
/-- The error of a level, a prime and mixes. -/
def goC (n p : Int) (xs : List (List Int)) : Int := if PrimeP p then sumC n xs else 2
theorem lv_zero {n : Int} (h : lvCode n = 0) : (1 ≤ n ∧ n ≤ 60) ∧ (lineL n.toNat).length ≤ 72 := by
  unfold lvCode at h
  split at h
  · rename_i h2
    split at h
    · cases h
    · exact ⟨h2, by omega⟩
  · cases h
theorem sumC_ev (n : Int) (xs : List (List Int)) (hs : xs.length ≤ 1000) : Ev (fun g => spec_l08Sums.f g n xs) (sumC n xs) := by
  have hc : Ev (fun g => spec_l08Code.f g n) (lvCode n) := Ev.of (fun k => spec_l08Code.mono n k) (code_f n)
  have H : Ev (fun g => (spec_l08Code.f g n).bind fun t113 => (if t113 = 0 then ((spec_IndexOf.f g 0 n).bind fun bt114 => (spec_l08Sums.l0 g xs bt114.1 0)) else (some t113))) (sumC n xs) := by
    refine Ev.bind (g := fun g t113 => if t113 = 0 then ((spec_IndexOf.f g 0 n).bind fun bt114 => (spec_l08Sums.l0 g xs bt114.1 0)) else (some t113)) hc ?_
    by_cases h : lvCode n = 0
    · obtain ⟨hn, hl⟩ := lv_zero h
      obtain ⟨m, rfl⟩ := Int.eq_ofNat_of_zero_le (by omega : 0 ≤ n)
      rw [Int.toNat_natCast] at hl
      have hx : Ev (fun g => spec_IndexOf.f g 0 (m : Int)) (((lineL m).length : Int), 0) := Ev.of (fun k => spec_IndexOf.mono 0 m k) (index_f (by omega))
      simp only [h, if_true]
      refine Ev.bind (g := fun g bt114 => spec_l08Sums.l0 g xs bt114.1 0) hx ?_
      rw [sumC, if_pos h, Int.toNat_natCast]
      exact sums_l0 (N := (lineL m).length) (by omega) hs xs.length 0 (by omega) (by omega)
    · simp only [h, if_false]
      rw [sumC, if_neg h]
      exact Ev.const _
  exact H
theorem goC_ev (n p : Int) (xs : List (List Int)) (hs : xs.length ≤ 1000) : Ev (fun g => spec_l08Prime.f g n p xs) (goC n p xs) := by
  have h := sumC_ev n xs hs
  have hb : ∀ g, ((spec_l08Sums.f g n xs).bind fun t => some t) = spec_l08Sums.f g n xs := fun g => by cases spec_l08Sums.f g n xs <;> rfl
  unfold spec_l08Prime.f goC PrimeP
  simp only [hb]
  by_cases h1 : p = 5
  · simp only [h1, if_true, true_or]; exact h
  · by_cases h2 : p = 7
    · simp only [h1, h2, if_true, if_false, true_or, or_true]; exact h
    · by_cases h3 : p = 11
      · simp only [h1, h2, h3, if_true, if_false, true_or, or_true]; exact h
      · by_cases h4 : p = 101
        · simp only [h1, h2, h3, h4, if_true, if_false, true_or, or_true]; exact h
        · by_cases h5 : p = 10007
          · simp only [h1, h2, h3, h4, h5, if_true, if_false, true_or, or_true]; exact h
          · simp only [h1, h2, h3, h4, h5, if_false, or_false]; exact Ev.const _

end Go.Proofs.Ytjjbaebddkejnaa

/- The program's isMix. -/
namespace Go.Proofs.Ytjjbaebddkejnaa
open Go.RowKit
set_option linter.unusedSimpArgs false

def offM (a : Int) : Bool := !entM a
set_option maxHeartbeats 1000000 in
theorem offM_any (a : Int) (w : World) :
    Calls Try.prog 52 #[.int .i64 a] w fun e w' => e = .returned (.bool (offM a)) ∧ Below w.heap.size w w' := by
  have HW := Lib.hid (fun w' => within_any a (-1000000) 1000000 w')
  have HB := Lib.hid (show offM a = !inB a (-1000000) 1000000 by rw [offM, entM, inB]; by_cases h1 : -1000000 ≤ a <;> by_cases h2 : a ≤ 1000000 <;> simp [h1, h2])
  rw [HB.out]
  clear HB
  generalize inB a (-1000000) 1000000 = b at *
  go_enter Try.func52, Try.ntmps52
  go_wp2_with fail
  refine (HW.out _).mono ?_
  rintro e w1 ⟨rfl, rfl⟩
  go_wp2
  go_ret
  exact ⟨rfl, (by repeat (first | (with_reducible exact Below.refl _ _) | (with_reducible assumption) | (with_reducible refine Below.drew ?_) | (with_reducible refine Below.drewN ?_) | ((with_reducible refine Below.al ?_ ?_); · first | omega | (simp; done) | (simp; omega)) | ((with_reducible refine Below.sc ?_ ?_); · first | omega | (simp; done) | (simp; omega)) | ((with_reducible refine Below.thru hb ?_ ?_); · first | omega | (simp; done) | (simp; omega))))⟩
set_option maxRecDepth 8000 in
set_option maxHeartbeats 1000000 in
theorem indexFuncM_any (v : Value) (xs : List Int) (w : World) (B : SlIn w .i64 v xs) (hl : xs.length ≤ 1000) :
    Calls Try.prog 68 #[v, .func (.func 52) #[] #[]] w fun e w' => ∃ r, e = .returned (.int .i64 r) ∧ IdxR offM xs r ∧ Below w.heap.size w w' := by
  obtain ⟨ao, c, rfl, hx⟩ := B.form
  have HX := Lib.hid hx
  have HC := Lib.hid offM_any
  clear B hx
  go_enter Try.func68, Try.ntmps68
  go_wp2_with fail
  go_loopw [8] (fun i wr => ∃ k : Nat, k ≤ xs.length ∧ i = .int .i64 k ∧ Hid ((xs.take k).any offM = false) ∧ Below w.heap.size w wr) (fun i _ => xs.length - (intOf i).toNat)
  case atStart => exact ⟨0, Nat.zero_le _, rfl, by rfl, (by repeat (first | (with_reducible exact Below.refl _ _) | (with_reducible assumption) | (with_reducible refine Below.drew ?_) | (with_reducible refine Below.drewN ?_) | ((with_reducible refine Below.al ?_ ?_); · first | omega | (simp; done) | (simp; omega)) | ((with_reducible refine Below.sc ?_ ?_); · first | omega | (simp; done) | (simp; omega)) | ((with_reducible refine Below.thru hb ?_ ?_); · first | omega | (simp; done) | (simp; omega))))⟩
  case round =>
    obtain ⟨k, hk, rfl, hall, kwr⟩ := hrel
    by_cases hlt : k < xs.length
    · obtain ⟨a, rfl, hcx⟩ := HX.out (by omega)
      have c1 : wr.cell? (a.add k) = some (.int .i64 xs[k]) := by
        have e := hcx k hlt
        rw [kwr.cell (block_lt_of_cell e :)]
        exact e
      have i0 : (0 : Int) ≤ (k : Int) := by omega
      have i1 : (k : Int) < (xs.length : Int) := by omega
      have HT := Lib.hid (any_take_succ offM xs k hlt)
      have HG := Lib.hid (any_of_get offM xs k hlt)
      clear hcx
      generalize xs[k] = x at *
      have HCx := Lib.hid (HC.out x)
      have swr := kwr.size
      generalize offM x = b at *
      go_wp2_with fail
      refine (HCx.out _).mono ?_
      rintro e w2 ⟨rfl, k2⟩
      have k3 : Below w.heap.size w w2 := kwr.trans (k2.mono swr)
      clear k2 c1 kwr
      cases b with
      | true =>
        go_wp2
        go_ret
        exact ⟨(k : Int), rfl, ⟨by omega, by omega, by rw [HG.out (by first | rfl | trivial)]; simp⟩, (by repeat (first | (with_reducible exact Below.refl _ _) | (with_reducible assumption) | (with_reducible refine Below.drew ?_) | (with_reducible refine Below.drewN ?_) | ((with_reducible refine Below.al ?_ ?_); · first | omega | (simp; done) | (simp; omega)) | ((with_reducible refine Below.sc ?_ ?_); · first | omega | (simp; done) | (simp; omega)) | ((with_reducible refine Below.thru hb ?_ ?_); · first | omega | (simp; done) | (simp; omega))))⟩
      | false =>
        go_wp2
        go_roundw
        case rel => exact ⟨k + 1, by omega, by go_num, Lib.hid (by rw [HT.out, hall.out]; rfl), (by repeat (first | (with_reducible exact Below.refl _ _) | (with_reducible assumption) | (with_reducible refine Below.drew ?_) | (with_reducible refine Below.drewN ?_) | ((with_reducible refine Below.al ?_ ?_); · first | omega | (simp; done) | (simp; omega)) | ((with_reducible refine Below.sc ?_ ?_); · first | omega | (simp; done) | (simp; omega)) | ((with_reducible refine Below.thru hb ?_ ?_); · first | omega | (simp; done) | (simp; omega))))⟩
        case measure => first | (simp [intOf]; done) | (simp [intOf]; omega)
    · have HF := Lib.hid (show xs.any offM = false by have := hall.out; rwa [List.take_of_length_le (by omega)] at this)
      go_wp2
      go_ret
      exact ⟨-1, rfl, ⟨by omega, by omega, by rw [HF.out]; rfl⟩, (by repeat (first | (with_reducible exact Below.refl _ _) | (with_reducible assumption) | (with_reducible refine Below.drew ?_) | (with_reducible refine Below.drewN ?_) | ((with_reducible refine Below.al ?_ ?_); · first | omega | (simp; done) | (simp; omega)) | ((with_reducible refine Below.sc ?_ ?_); · first | omega | (simp; done) | (simp; omega)) | ((with_reducible refine Below.thru hb ?_ ?_); · first | omega | (simp; done) | (simp; omega))))⟩
set_option maxHeartbeats 1000000 in
theorem containsFuncM_any (v : Value) (xs : List Int) (w : World) (B : SlIn w .i64 v xs) (hl : xs.length ≤ 1000) :
    Calls Try.prog 44 #[v, .func (.func 52) #[] #[]] w fun e w' => e = .returned (.bool (xs.any offM)) ∧ Below w.heap.size w w' := by
  have HI := Lib.hid (indexFuncM_any v xs w B hl)
  clear B
  go_enter Try.func44, Try.ntmps44
  go_wp2_with fail
  refine HI.out.mono ?_
  rintro e w1 ⟨r, rfl, hr, k1⟩
  have HR := Lib.hid hr.2.2
  clear hr
  go_wp2
  go_ret
  exact ⟨by rw [← HR.out]; rfl, (by repeat (first | (with_reducible exact Below.refl _ _) | (with_reducible assumption) | (with_reducible refine Below.drew ?_) | (with_reducible refine Below.drewN ?_) | ((with_reducible refine Below.al ?_ ?_); · first | omega | (simp; done) | (simp; omega)) | ((with_reducible refine Below.sc ?_ ?_); · first | omega | (simp; done) | (simp; omega)) | ((with_reducible refine Below.thru hb ?_ ?_); · first | omega | (simp; done) | (simp; omega))))⟩
set_option maxRecDepth 8000 in
set_option maxHeartbeats 1000000 in
theorem isMix_any (m : Nat) (v : Value) (xs : List Int) (w : World) (hm : 1 ≤ m ∧ m ≤ 60) (hl : (lineL m).length ≤ 1000) (B : SlIn w .i64 v xs) :
    Calls Try.prog 31 #[.int .i64 (m : Int), v] w fun e w' => e = .returned (.bool (okX (lineL m).length xs)) ∧ Below w.heap.size w w' := by
  have hmf : ∀ (fn : Fn) (first cap : Array Value) (w : World), (Instr.makeFunc fn first cap).run Try.prog w = .ok (.func fn first cap) w := fun _ _ _ _ => rfl
  have HL := Lib.hid (fun w' => line_any m w' hm)
  have HC := Lib.hid (fun w' h hl => containsFuncM_any v xs w' h hl)
  have HB := Lib.hid B
  have HE := Lib.hid (show ∀ xs : List Int, xs.all entM = !xs.any offM by intro xs; induction xs with
    | nil => rfl
    | cons x xs ih => rw [List.all_cons, List.any_cons, ih, offM]; cases entM x <;> simp)
  generalize lineL m = L at *
  have HOK := Lib.hid (show okX L.length xs = (xs.length == L.length && !xs.any offM) by rw [okX, HE.out])
  rw [HOK.out]
  clear HOK HE
  obtain ⟨ao, c, rfl, -⟩ := B.form
  clear B
  go_enter Try.func31, Try.ntmps31
  go_wp2_with fail
  refine (HL.out _).mono ?_
  rintro e w1 ⟨v, rfl, O, k1⟩
  obtain ⟨lo, lc, rfl⟩ := O.len
  clear O
  by_cases he : xs.length = L.length
  · have HCC := Lib.hid (HC.out w1 (SlIn.below k1 HB.out) (by omega))
    have HQ := Lib.hid (show (xs.length == L.length) = true by simpa using he)
    rw [he] at HCC
    obtain ⟨b, hb⟩ : ∃ b, xs.any offM = b := ⟨_, rfl⟩
    rw [hb] at HCC
    have HBB := Lib.hid hb
    clear hb
    go_wp2_with fail
    refine HCC.out.mono ?_
    rintro e w2 ⟨rfl, k2⟩
    have s1 := k1.size
    go_wp2
    go_ret
    exact ⟨by rw [HQ.out, HBB.out]; rfl, k1.trans (k2.mono s1)⟩
  · have HQ := Lib.hid (show (xs.length == L.length) = false by simpa using he)
    go_wp2
    go_ret
    exact ⟨by rw [HQ.out]; rfl, k1⟩

end Go.Proofs.Ytjjbaebddkejnaa
