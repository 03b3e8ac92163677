/- Permutations: both tests. -/
import Derived.Test.YtamkbgodenkboaaAct
namespace Go.Proofs.Ytamkbgodenkboaa
open Go.RowKit

theorem infoBool : (Try.prog.info? 4).map (fun i => (i.zero, i.size, i.bytes)) = some (some (.bool false), 1, 1) := by kernel_rfl

/-- Which numbers below n stand among the first k. -/
def metOf (p : List Int) (n k : Nat) : Array Value := ((List.range n).map fun (i : Nat) => Value.bool (decide ((i : Int) ∈ p.take k))).toArray
theorem metOf_size (p : List Int) (n k : Nat) : (metOf p n k).size = n := by simp [metOf]
theorem metOf_get (p : List Int) (n k i : Nat) (h : i < n) : (metOf p n k)[i]? = some (.bool (decide ((i : Int) ∈ p.take k))) := by simp [metOf, h]
theorem take_mem_succ (p : List Int) (k : Nat) (h : k < p.length) (x : Int) : x ∈ p.take (k + 1) ↔ x ∈ p.take k ∨ x = p[k] := by
  rw [List.take_add_one, List.getElem?_eq_getElem h, List.mem_append]
  simp only [Option.toList_some, List.mem_singleton]
theorem metOf_set (p : List Int) (n k i : Nat) (hk : k < p.length) (hi : p[k] = (i : Int)) : (metOf p n k).setIfInBounds i (.bool true) = metOf p n (k + 1) := by
  apply Array.ext_getElem?
  intro j
  by_cases hj : j < n
  · rw [Array.getElem?_setIfInBounds, metOf_get _ _ _ _ hj, metOf_get _ _ _ _ hj, metOf_size]
    by_cases e : i = j
    · subst e
      have := (take_mem_succ p k hk (i : Int)).2 (.inr hi.symm)
      simp [this, hj]
    · rw [if_neg e]
      have : ((j : Int) ∈ p.take k) = ((j : Int) ∈ p.take (k + 1)) := by
        rw [take_mem_succ p k hk, hi]
        simp
        omega
      simp only [this]
  · rw [Array.getElem?_eq_none (by simp [metOf]; omega), Array.getElem?_eq_none (by rw [metOf_size]; omega)]
theorem made_met (p : List Int) (n : Nat) : madeCells #[Value.bool false] n = metOf p n 0 := by
  apply Array.ext
  · rw [size_madeCells, metOf_size]
  · intro j h1 h2
    simp [madeCells, metOf, Nat.mod_one]

/-- Has the list the numbers below n, each once? -/
def permTo (p : List Int) (n k : Nat) : Prop := ∀ j (_ : j < p.length), j < k → (0 ≤ p[j] ∧ p[j] < n) ∧ p[j] ∉ p.take j
def permB (p : List Int) (n : Nat) : Prop := p.length = n ∧ permTo p n p.length
instance (p : List Int) (n : Nat) : Decidable (permB p n) := by unfold permB permTo; infer_instance

theorem perm_no {xs : List Int} {n k : Nat} (hk : k < xs.length) (h : ¬ ((0 ≤ xs[k] ∧ xs[k] < n) ∧ xs[k] ∉ xs.take k)) : decide (permB xs n) = false :=
  decide_eq_false fun hp => h (hp.2 k hk hk)
theorem perm_succ {xs : List Int} {n k : Nat} (hp : permTo xs n k) (hk : k < xs.length) (h : (0 ≤ xs[k] ∧ xs[k] < n) ∧ xs[k] ∉ xs.take k) : permTo xs n (k + 1) := fun j h1 h2 => by
  by_cases e : j < k
  · exact hp j h1 e
  · obtain rfl : j = k := by omega
    exact h

set_option maxHeartbeats 1000000 in
theorem l10Order_any (v : Value) (xs : List Int) (n : Nat) (w : World) (h : SlIn w .i64 v xs) (hl : xs.length ≤ 1048576) (hn : n ≤ 1048576) :
    Calls Try.prog 77 #[v, .int .i64 (n : Int)] w fun e w' => e = .returned (.bool (decide (permB xs n))) ∧ Below w.heap.size w w' := by
  obtain ⟨ao, c, rfl, ha⟩ := h.form
  have HA := Lib.hid ha
  clear ha h
  have hmk := run_make_row' (P := Try.prog) 138 4 (.bool false) 1 Try.underlying138 infoBool rfl .i64 .i64 n (by omega) (by omega)
  by_cases hne : xs.length = n
  · subst hne
    go_enter Try.func77, Try.ntmps77
    go_wp2
    go_loopw [6] (fun i wr => ∃ k : Nat, k ≤ xs.length ∧ i = .int .i64 k ∧ Hid (permTo xs xs.length k) ∧ Blk wr w.heap.size 4 (metOf xs xs.length k) ∧ Below w.heap.size w wr) (fun i _ => xs.length - (intOf i).toNat)
    case atStart => exact ⟨0, Nat.zero_le _, rfl, Lib.hid (fun j _ hj => absurd hj (by omega)), by rw [← made_met]; exact (by repeat (first | (with_reducible assumption) | ((with_reducible refine Blk.new ?_); · first | omega | (simp; done) | (simp; omega)) | (with_reducible apply Blk.set4) | (with_reducible apply Blk.set3) | (with_reducible apply Blk.set2) | ((with_reducible refine Blk.put ?_ ?_); · first | omega | (simp; omega)) | (with_reducible refine Blk.old ?_) | (with_reducible refine Blk.drew ?_) | (with_reducible refine Blk.drewN ?_) | ((with_reducible refine Blk.below hb ?_ ?_); · first | omega | (simp; done) | (simp; omega)))), (by repeat (first | (with_reducible exact Below.refl _ _) | (with_reducible assumption) | (with_reducible refine Below.drew ?_) | (with_reducible refine Below.drewN ?_) | ((with_reducible refine Below.al ?_ ?_); · first | omega | (simp; done) | (simp; omega)) | ((with_reducible refine Below.sc ?_ ?_); · first | omega | (simp; done) | (simp; omega)) | ((with_reducible refine Below.thru hb ?_ ?_); · first | omega | (simp; done) | (simp; omega))))⟩
    case round =>
      obtain ⟨k, hk, rfl, hp, B, kwr⟩ := hrel
      by_cases hlt : k < xs.length
      · obtain ⟨a, rfl, hx⟩ := HA.out (by omega)
        have c1 : wr.cell? (a.add k) = some (.int .i64 xs[k]) := by
          rw [kwr.cell (block_lt_of_cell (hx k hlt) :)]
          exact hx k hlt
        have i0 : (0 : Int) ≤ (k : Int) := by omega
        have i1 : (k : Int) < (xs.length : Int) := by omega
        have swr := kwr.size
        have lB := B.lt
        cases hr : inB xs[k] 0 ((xs.length : Int) - 1) with
        | false =>
          have HF := Lib.hid (perm_no (n := xs.length) hlt (fun hc => by have := inB_false hr; omega))
          clear hx
          go_wp2_with (go_at_call 83; refine (l01In_any _ _ _ _).mono ?_; rintro e w' ⟨rfl, rfl⟩)
          go_ret
          exact ⟨ret_bool HF.out.symm, kwr⟩
        | true =>
          obtain ⟨q, hq⟩ : ∃ q : Nat, xs[k] = (q : Int) := ⟨xs[k].toNat, by have := inB_true hr; omega⟩
          have hqn : q < xs.length := by have := inB_true hr; omega
          have e0 := B.at (metOf_get xs xs.length k q hqn)
          have f0 := B.free q
          have j0 : (0 : Int) ≤ (q : Int) := by omega
          have j1 : (q : Int) < (xs.length : Int) := by omega
          rw [hq] at c1 hr
          cases hm : decide ((q : Int) ∈ xs.take k) with
          | true =>
            have HF := Lib.hid (perm_no (n := xs.length) hlt (fun hc => hc.2 (by rw [hq]; exact of_decide_eq_true hm)))
            rw [hm] at e0
            clear hx
            go_wp2_with (go_at_call 83; refine (l01In_any _ _ _ _).mono ?_; rintro e w' ⟨rfl, rfl⟩)
            go_ret
            exact ⟨ret_bool HF.out.symm, kwr⟩
          | false =>
            have HP := Lib.hid (perm_succ hp.out hlt ⟨by have := inB_true hr; omega, by rw [hq]; exact of_decide_eq_false hm⟩)
            rw [hm] at e0
            have H := Lib.hid (And.intro B kwr)
            clear hx B kwr
            have HQ := Lib.hid hq
            clear hq
            go_wp2_with (go_at_call 83; refine (l01In_any _ _ _ _).mono ?_; rintro e w' ⟨rfl, rfl⟩)
            go_roundw
            case rel => exact ⟨k + 1, by omega, by go_num, HP, by rw [← metOf_set xs xs.length k q hlt HQ.out]; exact H.out.1.set, H.out.2.setCell (Nat.le_refl _) _⟩
            case measure => simp [intOf]; omega
      · obtain rfl : k = xs.length := by omega
        have HF := Lib.hid (show decide (permB xs xs.length) = true from decide_eq_true ⟨rfl, hp.out⟩)
        go_wp2
        go_ret
        exact ⟨ret_bool HF.out.symm, kwr⟩
  · have HF := Lib.hid (show decide (permB xs n) = false from decide_eq_false fun h => hne h.1)
    go_enter Try.func77, Try.ntmps77
    go_wp2
    go_ret
    exact ⟨ret_bool HF.out.symm, (by repeat (first | (with_reducible exact Below.refl _ _) | (with_reducible assumption) | (with_reducible refine Below.drew ?_) | (with_reducible refine Below.drewN ?_) | ((with_reducible refine Below.al ?_ ?_); · first | omega | (simp; done) | (simp; omega)) | ((with_reducible refine Below.sc ?_ ?_); · first | omega | (simp; done) | (simp; omega)) | ((with_reducible refine Below.thru hb ?_ ?_); · first | omega | (simp; done) | (simp; omega))))⟩

set_option maxHeartbeats 1000000 in
theorem isPermutation_any (v : Value) (xs : List Int) (n : Nat) (w : World) (h : SlIn w .i64 v xs) (hl : xs.length ≤ 1048576) (hn : n ≤ 1048576) :
    Calls Try.prog 69 #[v, .int .i64 (n : Int)] w fun e w' => e = .returned (.bool (decide (permB xs n))) ∧ Below w.heap.size w w' := by
  obtain ⟨ao, c, rfl, ha⟩ := h.form
  have HA := Lib.hid ha
  clear ha h
  have hmk := run_make_row' (P := Try.prog) 138 4 (.bool false) 1 Try.underlying138 infoBool rfl .i64 .i64 n (by omega) (by omega)
  go_enter Try.func69, Try.ntmps69
  go_wp2
  go_loopw [12] (fun i wr => ∃ k : Nat, k ≤ xs.length ∧ i = .int .i64 k ∧ Hid (permTo xs n k) ∧ Blk wr w.heap.size 4 (metOf xs n k) ∧ Below w.heap.size w wr) (fun i _ => xs.length - (intOf i).toNat)
  case atStart => exact ⟨0, Nat.zero_le _, rfl, Lib.hid (fun j _ hj => absurd hj (by omega)), by rw [← made_met]; exact (by repeat (first | (with_reducible assumption) | ((with_reducible refine Blk.new ?_); · first | omega | (simp; done) | (simp; omega)) | (with_reducible apply Blk.set4) | (with_reducible apply Blk.set3) | (with_reducible apply Blk.set2) | ((with_reducible refine Blk.put ?_ ?_); · first | omega | (simp; omega)) | (with_reducible refine Blk.old ?_) | (with_reducible refine Blk.drew ?_) | (with_reducible refine Blk.drewN ?_) | ((with_reducible refine Blk.below hb ?_ ?_); · first | omega | (simp; done) | (simp; omega)))), (by repeat (first | (with_reducible exact Below.refl _ _) | (with_reducible assumption) | (with_reducible refine Below.drew ?_) | (with_reducible refine Below.drewN ?_) | ((with_reducible refine Below.al ?_ ?_); · first | omega | (simp; done) | (simp; omega)) | ((with_reducible refine Below.sc ?_ ?_); · first | omega | (simp; done) | (simp; omega)) | ((with_reducible refine Below.thru hb ?_ ?_); · first | omega | (simp; done) | (simp; omega))))⟩
  case round =>
    obtain ⟨k, hk, rfl, hp, B, kwr⟩ := hrel
    by_cases hlt : k < xs.length
    · obtain ⟨a, rfl, hx⟩ := HA.out (by omega)
      have c1 : wr.cell? (a.add k) = some (.int .i64 xs[k]) := by
        rw [kwr.cell (block_lt_of_cell (hx k hlt) :)]
        exact hx k hlt
      have i0 : (0 : Int) ≤ (k : Int) := by omega
      have i1 : (k : Int) < (xs.length : Int) := by omega
      have swr := kwr.size
      have lB := B.lt
      cases hr : inB xs[k] 0 ((n : Int) - 1) with
      | false =>
        have HF := Lib.hid (perm_no (n := n) hlt (fun hc => by have := inB_false hr; omega))
        clear hx
        go_wp2_with (go_at_call 108; refine (within_any _ _ _ _).mono ?_; rintro e w' ⟨rfl, rfl⟩)
        go_ret
        exact ⟨ret_bool HF.out.symm, kwr⟩
      | true =>
        obtain ⟨q, hq⟩ : ∃ q : Nat, xs[k] = (q : Int) := ⟨xs[k].toNat, by have := inB_true hr; omega⟩
        have hqn : q < n := by have := inB_true hr; omega
        have e0 := B.at (metOf_get xs n k q hqn)
        have f0 := B.free q
        have j0 : (0 : Int) ≤ (q : Int) := by omega
        have j1 : (q : Int) < (n : Int) := by omega
        rw [hq] at c1 hr
        cases hm : decide ((q : Int) ∈ xs.take k) with
        | true =>
          have HF := Lib.hid (perm_no (n := n) hlt (fun hc => hc.2 (by rw [hq]; exact of_decide_eq_true hm)))
          rw [hm] at e0
          clear hx
          go_wp2_with (go_at_call 108; refine (within_any _ _ _ _).mono ?_; rintro e w' ⟨rfl, rfl⟩)
          go_ret
          exact ⟨ret_bool HF.out.symm, kwr⟩
        | false =>
          have HP := Lib.hid (perm_succ hp.out hlt ⟨by have := inB_true hr; omega, by rw [hq]; exact of_decide_eq_false hm⟩)
          rw [hm] at e0
          have H := Lib.hid (And.intro B kwr)
          clear hx B kwr
          have HQ := Lib.hid hq
          clear hq
          go_wp2_with (go_at_call 108; refine (within_any _ _ _ _).mono ?_; rintro e w' ⟨rfl, rfl⟩)
          go_roundw
          case rel => exact ⟨k + 1, by omega, by go_num, HP, by rw [← metOf_set xs n k q hlt HQ.out]; exact H.out.1.set, H.out.2.setCell (Nat.le_refl _) _⟩
          case measure => simp [intOf]; omega
    · obtain rfl : k = xs.length := by omega
      have HF := Lib.hid (show decide (permB xs n) = decide ((xs.length : Int) = (n : Int)) by
        rw [decide_eq_decide]
        exact ⟨fun h => by rw [h.1], fun h => ⟨by omega, hp.out⟩⟩)
      go_wp2
      go_ret
      exact ⟨ret_bool (by rw [HF.out]; first | rfl | (rw [Bool.eq_iff_iff]; simp)), kwr⟩

end Go.Proofs.Ytamkbgodenkboaa
