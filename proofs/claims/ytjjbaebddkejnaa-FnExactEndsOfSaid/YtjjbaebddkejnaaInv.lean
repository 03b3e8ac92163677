/- The program's levelCode. -/
import Derived.Test.YtjjbaebddkejnaaSrk
namespace Go.Proofs.Ytjjbaebddkejnaa
open Go.RowKit
set_option linter.unusedSimpArgs false

/-- An index, or -1. -/
def IdxR (P : Int → Bool) (xs : List Int) (r : Int) : Prop := -1 ≤ r ∧ r < xs.length ∧ (decide (0 ≤ r) = xs.any P)
theorem any_take_succ (P : Int → Bool) (xs : List Int) (k : Nat) (hk : k < xs.length) : (xs.take (k + 1)).any P = ((xs.take k).any P || P xs[k]) := by
  rw [List.take_succ_eq_append_getElem hk, List.any_append]
  simp
theorem any_of_get (P : Int → Bool) (xs : List Int) (k : Nat) (hk : k < xs.length) (h : P xs[k] = true) : xs.any P = true := List.any_eq_true.2 ⟨_, List.getElem_mem hk, h⟩
set_option maxRecDepth 8000 in
set_option maxHeartbeats 1000000 in
theorem index_any (g c : Nat) (xs : List Int) (v : Int) (w : World) (B : Blk w g 2 (ic xs)) (hl : xs.length ≤ 1000) :
    Calls Try.prog 69 #[.slice (some ⟨g, 0, none⟩) xs.length c, .int .i64 v] w fun e w' => ∃ r, e = .returned (.int .i64 r) ∧ IdxR (fun x => v == x) xs r ∧ Below w.heap.size w w' := by
  have HB := Lib.hid B
  clear B
  go_enter Try.func69, Try.ntmps69
  go_wp2_with fail
  go_loopw [8] (fun i wr => ∃ k : Nat, k ≤ xs.length ∧ i = .int .i64 k ∧ Hid ((xs.take k).any (fun x => v == x) = false) ∧ Below w.heap.size w wr) (fun i _ => xs.length - (intOf i).toNat)
  case atStart => exact ⟨0, Nat.zero_le _, rfl, by rfl, (by repeat (first | (with_reducible exact Below.refl _ _) | (with_reducible assumption) | (with_reducible refine Below.drew ?_) | (with_reducible refine Below.drewN ?_) | ((with_reducible refine Below.al ?_ ?_); · first | omega | (simp; done) | (simp; omega)) | ((with_reducible refine Below.sc ?_ ?_); · first | omega | (simp; done) | (simp; omega)) | ((with_reducible refine Below.thru hb ?_ ?_); · first | omega | (simp; done) | (simp; omega))))⟩
  case round =>
    obtain ⟨k, hk, rfl, hall, kwr⟩ := hrel
    by_cases hlt : k < xs.length
    · have i0 : (0 : Int) ≤ (k : Int) := by omega
      have i1 : (k : Int) < (xs.length : Int) := by omega
      have c1 := (HB.out.below kwr HB.out.lt).at (ic_get hlt)
      have HT := Lib.hid (any_take_succ (fun x => v == x) xs k hlt)
      have HG := Lib.hid (any_of_get (fun x => v == x) xs k hlt)
      generalize xs[k] = x at *
      by_cases hq : v = x
      · subst hq
        go_wp2
        go_ret
        exact ⟨(k : Int), rfl, ⟨by omega, by omega, by rw [HG.out (by simp)]; simp⟩, (by repeat (first | (with_reducible exact Below.refl _ _) | (with_reducible assumption) | (with_reducible refine Below.drew ?_) | (with_reducible refine Below.drewN ?_) | ((with_reducible refine Below.al ?_ ?_); · first | omega | (simp; done) | (simp; omega)) | ((with_reducible refine Below.sc ?_ ?_); · first | omega | (simp; done) | (simp; omega)) | ((with_reducible refine Below.thru hb ?_ ?_); · first | omega | (simp; done) | (simp; omega))))⟩
      · have HQ := Lib.hid hq
        go_wp2
        go_roundw
        case rel => exact ⟨k + 1, by omega, by go_num, Lib.hid (by rw [HT.out, hall.out]; simp [HQ.out]), (by repeat (first | (with_reducible exact Below.refl _ _) | (with_reducible assumption) | (with_reducible refine Below.drew ?_) | (with_reducible refine Below.drewN ?_) | ((with_reducible refine Below.al ?_ ?_); · first | omega | (simp; done) | (simp; omega)) | ((with_reducible refine Below.sc ?_ ?_); · first | omega | (simp; done) | (simp; omega)) | ((with_reducible refine Below.thru hb ?_ ?_); · first | omega | (simp; done) | (simp; omega))))⟩
        case measure => first | (simp [intOf]; done) | (simp [intOf]; omega)
    · have HF := Lib.hid (show xs.any (fun x => v == x) = false by have := hall.out; rwa [List.take_of_length_le (by omega)] at this)
      go_wp2
      go_ret
      exact ⟨-1, rfl, ⟨by omega, by omega, by rw [HF.out]; rfl⟩, (by repeat (first | (with_reducible exact Below.refl _ _) | (with_reducible assumption) | (with_reducible refine Below.drew ?_) | (with_reducible refine Below.drewN ?_) | ((with_reducible refine Below.al ?_ ?_); · first | omega | (simp; done) | (simp; omega)) | ((with_reducible refine Below.sc ?_ ?_); · first | omega | (simp; done) | (simp; omega)) | ((with_reducible refine Below.thru hb ?_ ?_); · first | omega | (simp; done) | (simp; omega))))⟩

set_option maxHeartbeats 1000000 in
theorem contains_any (g c : Nat) (xs : List Int) (v : Int) (w : World) (B : Blk w g 2 (ic xs)) (hl : xs.length ≤ 1000) :
    Calls Try.prog 46 #[.slice (some ⟨g, 0, none⟩) xs.length c, .int .i64 v] w fun e w' => e = .returned (.bool (xs.any (fun x => v == x))) ∧ Below w.heap.size w w' := by
  have HI := Lib.hid (index_any g c xs v w B hl)
  clear B
  go_enter Try.func46, Try.ntmps46
  go_wp2_with fail
  refine HI.out.mono ?_
  rintro e w1 ⟨r, rfl, hr, k1⟩
  have HR := Lib.hid hr.2.2
  clear hr
  go_wp2
  go_ret
  exact ⟨by rw [← HR.out]; rfl, (by repeat (first | (with_reducible exact Below.refl _ _) | (with_reducible assumption) | (with_reducible refine Below.drew ?_) | (with_reducible refine Below.drewN ?_) | ((with_reducible refine Below.al ?_ ?_); · first | omega | (simp; done) | (simp; omega)) | ((with_reducible refine Below.sc ?_ ?_); · first | omega | (simp; done) | (simp; omega)) | ((with_reducible refine Below.thru hb ?_ ?_); · first | omega | (simp; done) | (simp; omega))))⟩
/-- Is a number none of the primes? -/
def bad5 (p : Int) : Bool := !([5, 7, 11, 101, 10007].any fun x => p == x)
set_option maxHeartbeats 1000000 in
theorem bad_any (p : Int) (w : World) :
    Calls Try.prog 45 #[.int .i64 p] w fun e w' => e = .returned (.bool (bad5 p)) ∧ Below w.heap.size w w' := by
  have HI := Lib.hid (fun w' h => contains_any w.heap.size 5 [5, 7, 11, 101, 10007] p w' h (by decide))
  have HB := Lib.hid (show bad5 p = !([5, 7, 11, 101, 10007].any fun x => p == x) from rfl)
  rw [HB.out]
  clear HB
  generalize hb : ([5, 7, 11, 101, 10007].any fun x => p == x) = b at *
  clear hb
  go_enter Try.func45, Try.ntmps45
  go_wp2_with fail
  refine (HI.out _ (Blk.new rfl)).mono ?_
  rintro e w1 ⟨rfl, k1⟩
  have k2 : Below w.heap.size w w1 := ((Below.refl w.heap.size w).alloc (Nat.le_refl _) _).trans (k1.mono (by simp))
  clear k1
  go_wp2
  go_ret
  exact ⟨rfl, k2⟩
set_option maxRecDepth 8000 in
set_option maxHeartbeats 1000000 in
theorem indexFunc_any (g c : Nat) (xs : List Int) (w : World) (B : Blk w g 2 (ic xs)) (hl : xs.length ≤ 1000) :
    Calls Try.prog 68 #[.slice (some ⟨g, 0, none⟩) xs.length c, .func (.func 45) #[] #[]] w fun e w' => ∃ r, e = .returned (.int .i64 r) ∧ IdxR bad5 xs r ∧ Below w.heap.size w w' := by
  have HB := Lib.hid B
  have HC := Lib.hid bad_any
  clear B
  go_enter Try.func68, Try.ntmps68
  go_wp2_with fail
  go_loopw [8] (fun i wr => ∃ k : Nat, k ≤ xs.length ∧ i = .int .i64 k ∧ Hid ((xs.take k).any bad5 = false) ∧ Below w.heap.size w wr) (fun i _ => xs.length - (intOf i).toNat)
  case atStart => exact ⟨0, Nat.zero_le _, rfl, by rfl, (by repeat (first | (with_reducible exact Below.refl _ _) | (with_reducible assumption) | (with_reducible refine Below.drew ?_) | (with_reducible refine Below.drewN ?_) | ((with_reducible refine Below.al ?_ ?_); · first | omega | (simp; done) | (simp; omega)) | ((with_reducible refine Below.sc ?_ ?_); · first | omega | (simp; done) | (simp; omega)) | ((with_reducible refine Below.thru hb ?_ ?_); · first | omega | (simp; done) | (simp; omega))))⟩
  case round =>
    obtain ⟨k, hk, rfl, hall, kwr⟩ := hrel
    by_cases hlt : k < xs.length
    · have i0 : (0 : Int) ≤ (k : Int) := by omega
      have i1 : (k : Int) < (xs.length : Int) := by omega
      have c1 := (HB.out.below kwr HB.out.lt).at (ic_get hlt)
      have HT := Lib.hid (any_take_succ bad5 xs k hlt)
      have HG := Lib.hid (any_of_get bad5 xs k hlt)
      generalize xs[k] = x at *
      have HCx := Lib.hid (HC.out x)
      have swr := kwr.size
      generalize bad5 x = b at *
      go_wp2_with fail
      refine (HCx.out _).mono ?_
      rintro e w2 ⟨rfl, k2⟩
      have k3 : Below w.heap.size w w2 := kwr.trans (k2.mono swr)
      clear k2 c1 kwr
      cases b with
      | true =>
        go_wp2
        go_ret
        exact ⟨(k : Int), rfl, ⟨by omega, by omega, by rw [HG.out (by first | rfl | trivial)]; simp⟩, (by repeat (first | (with_reducible exact Below.refl _ _) | (with_reducible assumption) | (with_reducible refine Below.drew ?_) | (with_reducible refine Below.drewN ?_) | ((with_reducible refine Below.al ?_ ?_); · first | omega | (simp; done) | (simp; omega)) | ((with_reducible refine Below.sc ?_ ?_); · first | omega | (simp; done) | (simp; omega)) | ((with_reducible refine Below.thru hb ?_ ?_); · first | omega | (simp; done) | (simp; omega))))⟩
      | false =>
        go_wp2
        go_roundw
        case rel => exact ⟨k + 1, by omega, by go_num, Lib.hid (by rw [HT.out, hall.out]; rfl), (by repeat (first | (with_reducible exact Below.refl _ _) | (with_reducible assumption) | (with_reducible refine Below.drew ?_) | (with_reducible refine Below.drewN ?_) | ((with_reducible refine Below.al ?_ ?_); · first | omega | (simp; done) | (simp; omega)) | ((with_reducible refine Below.sc ?_ ?_); · first | omega | (simp; done) | (simp; omega)) | ((with_reducible refine Below.thru hb ?_ ?_); · first | omega | (simp; done) | (simp; omega))))⟩
        case measure => first | (simp [intOf]; done) | (simp [intOf]; omega)
    · have HF := Lib.hid (show xs.any bad5 = false by have := hall.out; rwa [List.take_of_length_le (by omega)] at this)
      go_wp2
      go_ret
      exact ⟨-1, rfl, ⟨by omega, by omega, by rw [HF.out]; rfl⟩, (by repeat (first | (with_reducible exact Below.refl _ _) | (with_reducible assumption) | (with_reducible refine Below.drew ?_) | (with_reducible refine Below.drewN ?_) | ((with_reducible refine Below.al ?_ ?_); · first | omega | (simp; done) | (simp; omega)) | ((with_reducible refine Below.sc ?_ ?_); · first | omega | (simp; done) | (simp; omega)) | ((with_reducible refine Below.thru hb ?_ ?_); · first | omega | (simp; done) | (simp; omega))))⟩
set_option maxHeartbeats 1000000 in
theorem containsFunc_any (g c : Nat) (xs : List Int) (w : World) (B : Blk w g 2 (ic xs)) (hl : xs.length ≤ 1000) :
    Calls Try.prog 44 #[.slice (some ⟨g, 0, none⟩) xs.length c, .func (.func 45) #[] #[]] w fun e w' => e = .returned (.bool (xs.any bad5)) ∧ Below w.heap.size w w' := by
  have HI := Lib.hid (indexFunc_any g c xs w B hl)
  clear B
  go_enter Try.func44, Try.ntmps44
  go_wp2_with fail
  refine HI.out.mono ?_
  rintro e w1 ⟨r, rfl, hr, k1⟩
  have HR := Lib.hid hr.2.2
  clear hr
  go_wp2
  go_ret
  exact ⟨by rw [← HR.out]; rfl, (by repeat (first | (with_reducible exact Below.refl _ _) | (with_reducible assumption) | (with_reducible refine Below.drew ?_) | (with_reducible refine Below.drewN ?_) | ((with_reducible refine Below.al ?_ ?_); · first | omega | (simp; done) | (simp; omega)) | ((with_reducible refine Below.sc ?_ ?_); · first | omega | (simp; done) | (simp; omega)) | ((with_reducible refine Below.thru hb ?_ ?_); · first | omega | (simp; done) | (simp; omega))))⟩
theorem isLevel_any (n : Int) (w : World) :
    Calls Try.prog 43 #[.int .i64 n] w fun e w' => e = .returned (.bool (inB n 1 60)) ∧ w = w' := by
  go_enter Try.func43, Try.ntmps43
  go_wp2_with (go_at_call 53; refine (within_any _ _ _ _).mono ?_; rintro e w' ⟨rfl, rfl⟩)
  go_ret
  exact ⟨rfl, rfl⟩
theorem bad5_iff (p : Int) : bad5 p = !decide (PrimeP p) := by
  unfold bad5 PrimeP
  simp only [List.any_cons, List.any_nil, Bool.or_false]
  by_cases h1 : p = 5 <;> by_cases h2 : p = 7 <;> by_cases h3 : p = 11 <;> by_cases h4 : p = 101 <;> by_cases h5 : p = 10007 <;> simp [h1, h2, h3, h4, h5]
set_option maxRecDepth 8000 in
set_option maxHeartbeats 2000000 in
theorem levelCode_any (g c : Nat) (n p : Int) (w : World) (B : Blk w g 2 (ic [p])) :
    Calls Try.prog 26 #[.int .i64 n, .slice (some ⟨g, 0, none⟩) 1 c] w fun e w' => e = .returned (.int .i64 (rkCode n p)) ∧ Below w.heap.size w w' := by
  have hmf : ∀ (fn : Fn) (first cap : Array Value) (w : World), (Instr.makeFunc fn first cap).run Try.prog w = .ok (.func fn first cap) w := fun _ _ _ _ => rfl
  have HB := Lib.hid B
  have lB := B.lt
  have HCF := Lib.hid (fun w' h => containsFunc_any g c [p] w' h (by simp))
  have hany : ([p].any bad5) = bad5 p := by simp
  rw [hany, bad5_iff] at HCF
  clear B hany
  obtain ⟨r, hr⟩ : ∃ r, rkCode n p = r := ⟨_, rfl⟩
  rw [hr]
  have HR := Lib.hid hr
  clear hr
  go_enter Try.func26, Try.ntmps26
  go_wp2_with fail
  refine (isLevel_any _ _).mono ?_
  rintro e w1 ⟨rfl, rfl⟩
  cases hq : inB n 1 60 with
  | false =>
    have h2 : ¬ (1 ≤ n ∧ n ≤ 60) := fun h => by rw [inB_mk h] at hq; cases hq
    have HE := Lib.hid (show r = 2 by rw [← HR.out]; unfold rkCode lvCode; rw [if_neg h2]; split <;> rfl)
    clear hq h2
    go_wp2
    go_ret
    exact ⟨by rw [HE.out]; rfl, (by repeat (first | (with_reducible exact Below.refl _ _) | (with_reducible assumption) | (with_reducible refine Below.drew ?_) | (with_reducible refine Below.drewN ?_) | ((with_reducible refine Below.al ?_ ?_); · first | omega | (simp; done) | (simp; omega)) | ((with_reducible refine Below.sc ?_ ?_); · first | omega | (simp; done) | (simp; omega)) | ((with_reducible refine Below.thru hb ?_ ?_); · first | omega | (simp; done) | (simp; omega))))⟩
  | true =>
    have h2 : 1 ≤ n ∧ n ≤ 60 := by simpa [inB] using hq
    obtain ⟨m, rfl⟩ := Int.eq_ofNat_of_zero_le (by omega : 0 ≤ n)
    have hm : 1 ≤ m ∧ m ≤ 60 := by omega
    have HLL := Lib.hid (fun w' : World => line_any m w' hm)
    have HE := Lib.hid (show r = if PrimeP p then (if 72 < (lineL m).length then 3 else 0) else 2 by rw [← HR.out]; unfold rkCode lvCode; rw [if_pos h2, Int.toNat_natCast])
    clear hq h2
    generalize lineL m = LL at *
    go_wp2_with fail
    refine (HCF.out _ HB.out).mono ?_
    rintro e w2 ⟨rfl, k2⟩
    have s2 := k2.size
    by_cases hp : PrimeP p
    · rw [decide_eq_true hp]
      rw [if_pos hp] at HE
      clear hp
      go_wp2_with fail
      refine (HLL.out _).mono ?_
      rintro e w3 ⟨v, rfl, O3, k3⟩
      have k4 : Below w.heap.size w w3 := k2.trans (k3.mono s2)
      obtain ⟨vo, vc, rfl⟩ := O3.len
      clear O3 k2 k3
      by_cases hl : 72 < LL.length
      · rw [if_pos hl] at HE
        go_wp2
        go_ret
        exact ⟨by rw [HE.out]; rfl, k4⟩
      · rw [if_neg hl] at HE
        go_wp2
        go_ret
        exact ⟨by rw [HE.out]; rfl, k4⟩
    · rw [decide_eq_false hp]
      rw [if_neg hp] at HE
      clear hp
      go_wp2
      go_ret
      exact ⟨by rw [HE.out]; rfl, (by repeat (first | (with_reducible exact Below.refl _ _) | (with_reducible assumption) | (with_reducible refine Below.drew ?_) | (with_reducible refine Below.drewN ?_) | ((with_reducible refine Below.al ?_ ?_); · first | omega | (simp; done) | (simp; omega)) | ((with_reducible refine Below.sc ?_ ?_); · first | omega | (simp; done) | (simp; omega)) | ((with_reducible refine Below.thru hb ?_ ?_); · first | omega | (simp; done) | (simp; omega))))⟩

end Go.Proofs.Ytjjbaebddkejnaa

/- The program's inverseOf. -/
namespace Go.Proofs.Ytjjbaebddkejnaa
open Go.RowKit
set_option linter.unusedSimpArgs false

set_option maxRecDepth 8000 in
set_option maxHeartbeats 1000000 in
theorem inverseOf_any (q a : Nat) (w : World) (hq : 5 ≤ q ∧ q ≤ 10007) (ha : a < q) (R : Nat) (hR : ivN q 15 a 1 (q - 2) = R) :
    Calls Try.prog 71 #[.int .i64 (a : Int), .int .i64 (q : Int)] w fun e w' => e = .returned (.int .i64 (R : Int)) ∧ Below w.heap.size w w' := by
  have HR := Lib.hid hR
  clear hR
  go_enter Try.func71, Try.ntmps71
  go_wp2_with fail
  go_loopw [0, 5, 6] (fun av ov kv wr => ∃ f x y z : Nat, av = .int .i64 (x : Int) ∧ ov = .int .i64 (y : Int) ∧ kv = .int .i64 (z : Int) ∧ x < q ∧ y < q ∧ Hid (z < 2 ^ f) ∧ z < 20000 ∧ Hid (ivN q (f + 1) x y z = R) ∧ Below w.heap.size w wr) (fun _ _ kv _ => (intOf kv).toNat)
  case atStart => exact ⟨14, a, 1, q - 2, rfl, rfl, by congr 1; omega, ha, by omega, Lib.hid (by show q - 2 < 16384; omega), by omega, HR, (by repeat (first | (with_reducible exact Below.refl _ _) | (with_reducible assumption) | (with_reducible refine Below.drew ?_) | (with_reducible refine Below.drewN ?_) | ((with_reducible refine Below.al ?_ ?_); · first | omega | (simp; done) | (simp; omega)) | ((with_reducible refine Below.sc ?_ ?_); · first | omega | (simp; done) | (simp; omega)) | ((with_reducible refine Below.thru hb ?_ ?_); · first | omega | (simp; done) | (simp; omega))))⟩
  case round =>
    obtain ⟨f, x, y, z, rfl, rfl, rfl, hx, hy, hz, hz2, hv, kwr⟩ := hrel
    by_cases h0 : z = 0
    · subst h0
      have HV := Lib.hid (show y = R by rw [← hv.out, ivN_succ, if_pos rfl])
      go_wp2
      go_ret
      exact ⟨by rw [HV.out]; rfl, (by repeat (first | (with_reducible exact Below.refl _ _) | (with_reducible assumption) | (with_reducible refine Below.drew ?_) | (with_reducible refine Below.drewN ?_) | ((with_reducible refine Below.al ?_ ?_); · first | omega | (simp; done) | (simp; omega)) | ((with_reducible refine Below.sc ?_ ?_); · first | omega | (simp; done) | (simp; omega)) | ((with_reducible refine Below.thru hb ?_ ?_); · first | omega | (simp; done) | (simp; omega))))⟩
    · have HV := Lib.hid (show ivN q f (x * x % q) (if z % 2 = 1 then y * x % q else y) (z / 2) = R by rw [← hv.out, ivN_succ, if_neg h0])
      have hsq := mulP_bd (p := q) (a := x) (b := x) (by omega) (by omega) (by omega)
      have hso := mulP_bd (p := q) (a := y) (b := x) (by omega) (by omega) (by omega)
      have e1 : Int.tmod ((x : Int) * x) q = ((x * x % q : Nat) : Int) := by rw [Int.tmod_eq_emod_of_nonneg (by omega)]; push_cast; rfl
      have e2 : Int.tmod ((y : Int) * x) q = ((y * x % q : Nat) : Int) := by rw [Int.tmod_eq_emod_of_nonneg (by omega)]; push_cast; rfl
      have e3 : IntKind.i64.wrap ((x : Int) * x) = (x : Int) * x := by rw [IntKind.wrap_i64]; omega
      have e4 : IntKind.i64.wrap ((y : Int) * x) = (y : Int) * x := by rw [IntKind.wrap_i64]; omega
      cases f with
      | zero =>
        have := hz.out
        omega
      | succ f =>
        have hz3 : z / 2 < 2 ^ f := by have := hz.out; rw [Nat.pow_succ] at this; omega
        have HZ3 := Lib.hid hz3
        have hx2 : x * x % q < q := Nat.mod_lt _ (by omega)
        have hy2 : y * x % q < q := Nat.mod_lt _ (by omega)
        clear hz3 hv hz
        generalize x * x % q = x2 at *
        generalize y * x % q = y2 at *
        have hb : Go.bits .and .i64 (z : Int) 1 = (z : Int) % 2 := by
          have := Go.bits_mask .i64 62 (by decide) (fun n h0 h1 => by rw [IntKind.wrap_i64]; omega) 1 (by decide) (z : Int) (by omega) (by omega)
          simpa using this
        by_cases hp : z % 2 = 1
        · rw [if_pos hp] at HV
          rw [show (z : Int) % 2 = 1 by omega] at hb
          clear hp
          go_wp2
          go_roundw
          case rel => exact ⟨f, x2, y2, z / 2, rfl, rfl, by go_num, hx2, hy2, HZ3, by omega, HV, (by repeat (first | (with_reducible exact Below.refl _ _) | (with_reducible assumption) | (with_reducible refine Below.drew ?_) | (with_reducible refine Below.drewN ?_) | ((with_reducible refine Below.al ?_ ?_); · first | omega | (simp; done) | (simp; omega)) | ((with_reducible refine Below.sc ?_ ?_); · first | omega | (simp; done) | (simp; omega)) | ((with_reducible refine Below.thru hb ?_ ?_); · first | omega | (simp; done) | (simp; omega))))⟩
          case measure => simp [intOf]; omega
        · rw [if_neg hp] at HV
          rw [show (z : Int) % 2 = 0 by omega] at hb
          clear hp
          go_wp2
          go_roundw
          case rel => exact ⟨f, x2, y, z / 2, rfl, rfl, by go_num, hx2, hy, HZ3, by omega, HV, (by repeat (first | (with_reducible exact Below.refl _ _) | (with_reducible assumption) | (with_reducible refine Below.drew ?_) | (with_reducible refine Below.drewN ?_) | ((with_reducible refine Below.al ?_ ?_); · first | omega | (simp; done) | (simp; omega)) | ((with_reducible refine Below.sc ?_ ?_); · first | omega | (simp; done) | (simp; omega)) | ((with_reducible refine Below.thru hb ?_ ?_); · first | omega | (simp; done) | (simp; omega))))⟩
          case measure => simp [intOf]; omega

end Go.Proofs.Ytjjbaebddkejnaa
