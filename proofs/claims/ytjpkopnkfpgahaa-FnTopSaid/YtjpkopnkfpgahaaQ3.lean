import Derived.Test.YtjpkopnkfpgahaaQ2
/- Permutations: both tests. -/
namespace Go.Proofs.Ytjpkopnkfpgahaa
open Go.RowKit

theorem infoBool : (Try.prog.info? 4).map (fun i => (i.zero, i.size, i.bytes)) = some (some (.bool false), 1, 1) := by kernel_rfl

/-- Which numbers below n stand among the first k. -/
def metOf (p : List Int) (n k : Nat) : Array Value := ((List.range n).map fun (i : Nat) => Value.bool (decide ((i : Int) ∈ p.take k))).toArray
theorem metOf_size (p : List Int) (n k : Nat) : (metOf p n k).size = n := by simp [metOf]
theorem metOf_get (p : List Int) (n k i : Nat) (h : i < n) : (metOf p n k)[i]? = some (.bool (decide ((i : Int) ∈ p.take k))) := by simp [metOf, h]
theorem take_mem_succ (p : List Int) (k : Nat) (h : k < p.length) (x : Int) : x ∈ p.take (k + 1) ↔ x ∈ p.take k ∨ x = p[k] := by
  rw [List.take_add_one, List.getElem?_eq_getElem h, List.mem_append]
  simp only [Option.toList_some, List.mem_singleton]
theorem metOf_set (p : List Int) (n k i : Nat) (hk : k < p.length) (hi : p[k] = (i : Int)) : (metOf p n k).setIfInBounds i (.bool true) = metOf p n (k + 1) := by
  apply Array.ext_getElem?
  intro j
  by_cases hj : j < n
  · rw [Array.getElem?_setIfInBounds, metOf_get _ _ _ _ hj, metOf_get _ _ _ _ hj, metOf_size]
    by_cases e : i = j
    · subst e
      have := (take_mem_succ p k hk (i : Int)).2 (.inr hi.symm)
      simp [this, hj]
    · rw [if_neg e]
      have : ((j : Int) ∈ p.take k) = ((j : Int) ∈ p.take (k + 1)) := by
        rw [take_mem_succ p k hk, hi]
        simp
        omega
      simp only [this]
  · rw [Array.getElem?_eq_none (by simp [metOf]; omega), Array.getElem?_eq_none (by rw [metOf_size]; omega)]
theorem made_met (p : List Int) (n : Nat) : madeCells #[Value.bool false] n = metOf p n 0 := by
  apply Array.ext
  · rw [size_madeCells, metOf_size]
  · intro j h1 h2
    simp [madeCells, metOf, Nat.mod_one]

/-- Has the list the numbers below n, each once? -/
def permTo (p : List Int) (n k : Nat) : Prop := ∀ j (_ : j < p.length), j < k → (0 ≤ p[j] ∧ p[j] < n) ∧ p[j] ∉ p.take j
def permB (p : List Int) (n : Nat) : Prop := p.length = n ∧ permTo p n p.length
instance (p : List Int) (n : Nat) : Decidable (permB p n) := by unfold permB permTo; infer_instance

theorem perm_no {xs : List Int} {n k : Nat} (hk : k < xs.length) (h : ¬ ((0 ≤ xs[k] ∧ xs[k] < n) ∧ xs[k] ∉ xs.take k)) : decide (permB xs n) = false :=
  decide_eq_false fun hp => h (hp.2 k hk hk)
theorem perm_succ {xs : List Int} {n k : Nat} (hp : permTo xs n k) (hk : k < xs.length) (h : (0 ≤ xs[k] ∧ xs[k] < n) ∧ xs[k] ∉ xs.take k) : permTo xs n (k + 1) := fun j h1 h2 => by
  by_cases e : j < k
  · exact hp j h1 e
  · obtain rfl : j = k := by omega
    exact h

set_option maxHeartbeats 1000000 in
theorem isPermutation_any (v : Value) (xs : List Int) (n : Nat) (w : World) (h : SlIn w .i64 v xs) (hl : xs.length ≤ 1048576) (hn : n ≤ 1048576) :
    Calls Try.prog 63 #[v, .int .i64 (n : Int)] w fun e w' => e = .returned (.bool (decide (permB xs n))) ∧ Below w.heap.size w w' := by
  obtain ⟨ao, c, rfl, ha⟩ := h.form
  have HA := Lib.hid ha
  clear ha h
  have hmk := run_make_row' (P := Try.prog) 111 4 (.bool false) 1 Try.underlying111 infoBool rfl .i64 .i64 n (by omega) (by omega)
  go_enter Try.func63, Try.ntmps63
  go_wp2
  go_loopw [12] (fun i wr => ∃ k : Nat, k ≤ xs.length ∧ i = .int .i64 k ∧ Hid (permTo xs n k) ∧ Blk wr w.heap.size 4 (metOf xs n k) ∧ Below w.heap.size w wr) (fun i _ => xs.length - (intOf i).toNat)
  case atStart => exact ⟨0, Nat.zero_le _, rfl, Lib.hid (fun j _ hj => absurd hj (by omega)), by rw [← made_met]; exact (by repeat (first | (with_reducible assumption) | ((with_reducible refine Blk.new ?_); · first | omega | (simp; done) | (simp; omega)) | (with_reducible apply Blk.set4) | (with_reducible apply Blk.set3) | (with_reducible apply Blk.set2) | ((with_reducible refine Blk.put ?_ ?_); · first | omega | (simp; omega)) | (with_reducible refine Blk.old ?_) | (with_reducible refine Blk.drew ?_) | (with_reducible refine Blk.drewN ?_) | ((with_reducible refine Blk.below hb ?_ ?_); · first | omega | (simp; done) | (simp; omega)))), (by repeat (first | (with_reducible exact Below.refl _ _) | (with_reducible assumption) | (with_reducible refine Below.drew ?_) | (with_reducible refine Below.drewN ?_) | ((with_reducible refine Below.al ?_ ?_); · first | omega | (simp; done) | (simp; omega)) | ((with_reducible refine Below.sc ?_ ?_); · first | omega | (simp; done) | (simp; omega)) | ((with_reducible refine Below.thru hb ?_ ?_); · first | omega | (simp; done) | (simp; omega))))⟩
  case round =>
    obtain ⟨k, hk, rfl, hp, B, kwr⟩ := hrel
    by_cases hlt : k < xs.length
    · obtain ⟨a, rfl, hx⟩ := HA.out (by omega)
      have c1 : wr.cell? (a.add k) = some (.int .i64 xs[k]) := by
        rw [kwr.cell (block_lt_of_cell (hx k hlt) :)]
        exact hx k hlt
      have i0 : (0 : Int) ≤ (k : Int) := by omega
      have i1 : (k : Int) < (xs.length : Int) := by omega
      have swr := kwr.size
      have lB := B.lt
      cases hr : inB xs[k] 0 ((n : Int) - 1) with
      | false =>
        have HF := Lib.hid (perm_no (n := n) hlt (fun hc => by have := inB_false hr; omega))
        clear hx
        go_wp2_with (go_at_call 58; refine (within_any _ _ _ _).mono ?_; rintro e w' ⟨rfl, rfl⟩)
        go_ret
        exact ⟨ret_bool HF.out.symm, kwr⟩
      | true =>
        obtain ⟨q, hq⟩ : ∃ q : Nat, xs[k] = (q : Int) := ⟨xs[k].toNat, by have := inB_true hr; omega⟩
        have hqn : q < n := by have := inB_true hr; omega
        have e0 := B.at (metOf_get xs n k q hqn)
        have f0 := B.free q
        have j0 : (0 : Int) ≤ (q : Int) := by omega
        have j1 : (q : Int) < (n : Int) := by omega
        rw [hq] at c1 hr
        cases hm : decide ((q : Int) ∈ xs.take k) with
        | true =>
          have HF := Lib.hid (perm_no (n := n) hlt (fun hc => hc.2 (by rw [hq]; exact of_decide_eq_true hm)))
          rw [hm] at e0
          clear hx
          go_wp2_with (go_at_call 58; refine (within_any _ _ _ _).mono ?_; rintro e w' ⟨rfl, rfl⟩)
          go_ret
          exact ⟨ret_bool HF.out.symm, kwr⟩
        | false =>
          have HP := Lib.hid (perm_succ hp.out hlt ⟨by have := inB_true hr; omega, by rw [hq]; exact of_decide_eq_false hm⟩)
          rw [hm] at e0
          have H := Lib.hid (And.intro B kwr)
          clear hx B kwr
          have HQ := Lib.hid hq
          clear hq
          go_wp2_with (go_at_call 58; refine (within_any _ _ _ _).mono ?_; rintro e w' ⟨rfl, rfl⟩)
          go_roundw
          case rel => exact ⟨k + 1, by omega, by go_num, HP, by rw [← metOf_set xs n k q hlt HQ.out]; exact H.out.1.set, H.out.2.setCell (Nat.le_refl _) _⟩
          case measure => simp [intOf]; omega
    · obtain rfl : k = xs.length := by omega
      have HF := Lib.hid (show decide (permB xs n) = decide ((xs.length : Int) = (n : Int)) by
        rw [decide_eq_decide]
        exact ⟨fun h => by rw [h.1], fun h => ⟨by omega, hp.out⟩⟩)
      go_wp2
      go_ret
      exact ⟨ret_bool (by rw [HF.out]; first | rfl | (rw [Bool.eq_iff_iff]; simp)), kwr⟩

end Go.Proofs.Ytjpkopnkfpgahaa

/- The points in the order in which they are met: plain law. -/
namespace Go.Proofs.Ytjpkopnkfpgahaa
open Go.RowKit

/-- One more point, if it is new. -/
def visit (out : List Nat) (j : Nat) : List Nat := if j ∈ out then out else out ++ [j]
/-- The points met after k rounds from the point i on. -/
def metAt (f g : Nat → Nat) (i : Nat) : Nat → List Nat
  | 0 => [i]
  | k + 1 => visit (visit (metAt f g i k) (f ((metAt f g i k).getD k 0))) (g ((metAt f g i k).getD k 0))
/-- All rounds are done. -/
def Done (f g : Nat → Nat) (i k : Nat) : Prop := (∀ j, j < k → j < (metAt f g i j).length) ∧ ¬ k < (metAt f g i k).length
theorem Done.unique {f g : Nat → Nat} {i k l : Nat} (h : Done f g i k) (h' : Done f g i l) : k = l := by
  rcases Nat.lt_trichotomy k l with e | e | e
  · exact absurd (h'.1 k e) h.2
  · exact e
  · exact absurd (h.1 l e) h'.2
theorem visit_nodup {out : List Nat} {j : Nat} (h : out.Nodup) : (visit out j).Nodup := by
  unfold visit
  split
  · exact h
  · rw [List.nodup_append]
    refine ⟨h, by simp, fun a ha b hb => ?_⟩
    simp at hb
    rintro rfl
    subst hb
    contradiction
theorem visit_lt {out : List Nat} {j n : Nat} (h : ∀ a ∈ out, a < n) (hj : j < n) : ∀ a ∈ visit out j, a < n := by
  unfold visit
  split
  · exact h
  · intro a ha
    rcases List.mem_append.1 ha with ha | ha
    · exact h a ha
    · simp at ha; omega

theorem nodup_len {l : List Nat} {n : Nat} (hd : l.Nodup) (h : ∀ a ∈ l, a < n) : l.length ≤ n := by
  have := hd.length_le_of_subset (l₂ := List.range n) (fun a ha => List.mem_range.2 (h a ha))
  rwa [List.length_range] at this
theorem metAt_inv {f g : Nat → Nat} {i n : Nat} (hf : ∀ a, a < n → f a < n) (hg : ∀ a, a < n → g a < n) (hi : i < n) (k : Nat) :
    (metAt f g i k).Nodup ∧ ∀ a ∈ metAt f g i k, a < n := by
  induction k with
  | zero => exact ⟨by simp [metAt], fun a ha => by simp [metAt] at ha; omega⟩
  | succ k ih =>
    obtain ⟨h1, h2⟩ := ih
    have h0 : (metAt f g i k).getD k 0 < n := by
      by_cases h : k < (metAt f g i k).length
      · rw [List.getD, List.getElem?_eq_getElem h]
        exact h2 _ (List.getElem_mem h)
      · rw [List.getD, List.getElem?_eq_none (by omega)]
        exact Nat.lt_of_le_of_lt (Nat.zero_le _) hi
    exact ⟨visit_nodup (visit_nodup h1), visit_lt (visit_lt h2 (hf _ h0)) (hg _ h0)⟩

/-- The rounds, so many at most. -/
def bfs (f g : Nat → Nat) : Nat → List Nat → Nat → List Nat
  | 0, out, _ => out
  | q + 1, out, k => if k < out.length then bfs f g q (visit (visit out (f (out.getD k 0))) (g (out.getD k 0))) (k + 1) else out
/-- All points met from i on, of n points. -/
def metL (f g : Nat → Nat) (i n : Nat) : List Nat := bfs f g (n + 1) [i] 0
theorem bfs_at {f g : Nat → Nat} {i n : Nat} (k : Nat) (hk : k ≤ n) (h : ∀ j, j < k → j < (metAt f g i j).length) : metL f g i n = bfs f g (n + 1 - k) (metAt f g i k) k := by
  induction k with
  | zero => rfl
  | succ k ih =>
    rw [ih (by omega) (fun j hj => h j (by omega)), show n + 1 - k = (n + 1 - (k + 1)) + 1 by omega, bfs, if_pos (h k (by omega))]
    rfl
theorem metL_done {f g : Nat → Nat} {i n k : Nat} (hf : ∀ a, a < n → f a < n) (hg : ∀ a, a < n → g a < n) (hi : i < n) (h : Done f g i k) : metL f g i n = metAt f g i k := by
  have hk : k ≤ n := by
    cases k with
    | zero => omega
    | succ k =>
      have h1 := h.1 k (by omega)
      have h2 := metAt_inv hf hg hi k
      have h3 := nodup_len h2.1 h2.2
      omega
  rw [bfs_at k hk h.1, show n + 1 - k = (n - k) + 1 by omega, bfs, if_neg h.2]
theorem done_ex {f g : Nat → Nat} {i n : Nat} (hf : ∀ a, a < n → f a < n) (hg : ∀ a, a < n → g a < n) (hi : i < n) : ∃ k, Done f g i k := by
  have key : ∀ d k, n - k = d → (∀ j, j < k → j < (metAt f g i j).length) → ∃ k, Done f g i k := by
    intro d
    induction d with
    | zero =>
      intro k hk h
      refine ⟨k, h, ?_⟩
      have h2 := metAt_inv hf hg hi k
      have h3 := nodup_len h2.1 h2.2
      omega
    | succ d ih =>
      intro k hk h
      by_cases hl : k < (metAt f g i k).length
      · exact ih (k + 1) (by omega) (fun j hj => if e : j < k then h j e else (show j = k by omega) ▸ hl)
      · exact ⟨k, h, hl⟩
  exact key _ 0 rfl (fun j hj => absurd hj (by omega))
theorem metL_inv {f g : Nat → Nat} {i n : Nat} (hf : ∀ a, a < n → f a < n) (hg : ∀ a, a < n → g a < n) (hi : i < n) : (metL f g i n).Nodup ∧ ∀ a ∈ metL f g i n, a < n := by
  obtain ⟨k, hk⟩ := done_ex hf hg hi
  rw [metL_done hf hg hi hk]
  exact metAt_inv hf hg hi k

/-- Which points are in the list. -/
def inV (n : Nat) (out : List Nat) : Array Value := ((List.range n).map fun (i : Nat) => Value.bool (decide (i ∈ out))).toArray
theorem inV_size (n : Nat) (out : List Nat) : (inV n out).size = n := by simp [inV]
theorem inV_get {n i : Nat} {out : List Nat} (h : i < n) : (inV n out)[i]? = some (.bool (decide (i ∈ out))) := by simp [inV, h]
theorem inV_set (n j : Nat) (out : List Nat) : (inV n out).setIfInBounds j (.bool true) = inV n (out ++ [j]) := by
  apply Array.ext_getElem?
  intro q
  by_cases hq : q < n
  · rw [Array.getElem?_setIfInBounds, inV_get hq, inV_get hq, inV_size]
    by_cases e : j = q
    · subst e
      simp [hq]
    · rw [if_neg e]
      have : (q ∈ out) = (q ∈ out ++ [j]) := by
        simp
        omega
      simp only [this]
  · rw [Array.getElem?_eq_none (by simp [inV]; omega), Array.getElem?_eq_none (by rw [inV_size]; omega)]
theorem made_inV (n : Nat) : madeCells #[Value.bool false] n = inV n [] := by
  apply Array.ext
  · rw [size_madeCells, inV_size]
  · intro j h1 h2
    simp [madeCells, inV, Nat.mod_one]
theorem visit_in {out : List Nat} {j : Nat} (h : decide (j ∈ out) = true) : visit out j = out := by
  unfold visit; rw [if_pos (of_decide_eq_true h)]
theorem visit_new {out : List Nat} {j : Nat} (h : decide (j ∈ out) = false) : visit out j = out ++ [j] := by
  unfold visit; rw [if_neg (of_decide_eq_false h)]

/-- A permutation as a function of points. -/
def fn (xs : List Int) (k : Nat) : Nat := (xs.getD k 0).toNat
theorem fn_lt {xs : List Int} {n a : Nat} (h : permB xs n) (ha : a < n) : fn xs a < n := by
  have hl : a < xs.length := by rw [h.1]; exact ha
  have := (h.2 a hl hl).1
  unfold fn
  rw [List.getD, List.getElem?_eq_getElem hl]
  simp only [Option.getD_some]
  omega
theorem fn_at {xs : List Int} {n a : Nat} (h : permB xs n) (ha : a < n) : xs[a]? = some (fn xs a : Int) := by
  have hl : a < xs.length := by rw [h.1]; exact ha
  have := (h.2 a hl hl).1
  unfold fn
  rw [List.getD, List.getElem?_eq_getElem hl]
  simp only [Option.getD_some, Option.some.injEq]
  omega

/-- Within a round: none, one, both of the two points visited. -/
def half (M : List Nat) (a b : Nat) : Nat → List Nat
  | 0 => M
  | 1 => visit M a
  | _ + 2 => visit (visit M a) b
theorem half_inv {M : List Nat} {a b n : Nat} (h : M.Nodup ∧ ∀ x ∈ M, x < n) (ha : a < n) (hb : b < n) (q : Nat) : (half M a b q).Nodup ∧ ∀ x ∈ half M a b q, x < n := by
  match q with
  | 0 => exact h
  | 1 => exact ⟨visit_nodup h.1, visit_lt h.2 ha⟩
  | q + 2 => exact ⟨visit_nodup (visit_nodup h.1), visit_lt (visit_lt h.2 ha) hb⟩
theorem half_all {f g : Nat → Nat} {i k : Nat} : half (metAt f g i k) (f ((metAt f g i k).getD k 0)) (g ((metAt f g i k).getD k 0)) 2 = metAt f g i (k + 1) := rfl
theorem half_step {M : List Nat} {a b q : Nat} (h : q < 2) : half M a b (q + 1) = visit (half M a b q) (if q = 0 then a else b) := by
  match q, h with
  | 0, _ => rfl
  | 1, _ => rfl

theorem perm_open {w : World} {s : Value} {S : List Int} {n : Nat} (h : SlIn w .i64 s S) (hS : permB S n) (hn : 0 < n) :
    ∃ sa sc, s = .slice (some sa) n sc ∧ ∀ a, a < n → w.cell? (sa.add a) = some (.int .i64 (fn S a : Int)) := by
  obtain ⟨sa, sc, rfl, ha⟩ := h.form
  have hl := hS.1
  obtain ⟨sa, rfl, hx⟩ := ha (by omega)
  refine ⟨sa, sc, by rw [hl], fun a h => ?_⟩
  have e := fn_at hS h
  have hl2 : a < S.length := by omega
  rw [hx a hl2, (List.getElem?_eq_some_iff.1 e).2]
/-- A slice of points: nil, or cells. -/
theorem nats_open {w : World} {v : Value} {M : List Nat} (h : SlIn w .i64 v (M.map Int.ofNat)) :
    ∃ ao c, v = .slice ao M.length c ∧ (0 < M.length → ∃ a : Addr, ao = some a ∧ ∀ k, k < M.length → w.cell? (a.add k) = some (.int .i64 (M.getD k 0 : Nat))) := by
  obtain ⟨ao, c, rfl, ha⟩ := h.form
  refine ⟨ao, c, by rw [List.length_map], fun h0 => ?_⟩
  obtain ⟨a, rfl, hx⟩ := ha (by rw [List.length_map]; exact h0)
  refine ⟨a, rfl, fun k hk => ?_⟩
  rw [hx k (by rw [List.length_map]; exact hk), List.getElem_map, List.getD, List.getElem?_eq_getElem hk]
  rfl

end Go.Proofs.Ytjpkopnkfpgahaa
