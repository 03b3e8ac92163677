/- The matrices of free words: the reference's walk; the sign between two matrices. -/
import Derived.Test.YtcapmljnhflopaaFmo
import Derived.Test.YtcapmljnhflopaaTail
import Derived.Test.YtcapmljnhflopaaSl
namespace Go.Proofs.Ytcapmljnhflopaa
open Go.RowKit
set_option linter.unusedSimpArgs false

theorem all_range_ints : ∀ (xs ys : List Int), xs.length = ys.length → ((List.range xs.length).all fun i => xs.getD i 0 == ys.getD i 0) = (xs == ys)
  | [], [], _ => rfl
  | x :: xs, y :: ys, h => by
    have ih := all_range_ints xs ys (by simpa using h)
    rw [List.length_cons, List.range_succ_eq_map, List.all_cons, List.all_map]
    have : ((fun i => (x :: xs).getD i 0 == (y :: ys).getD i 0) ∘ Nat.succ) = fun i => xs.getD i 0 == ys.getD i 0 := by funext i; simp
    rw [this, ih]
    simp [List.cons_beq_cons]
  | [], _ :: _, h => by simp at h
  | _ :: _, [], h => by simp at h
theorem run_equalIn_ints {P : Program} (w : World) (d : Nat) (t e : TypeId) (n : Nat) (ht : P.underlying t = some (.array n e)) (he : P.underlying e = some (.int .i64)) (hsz : ∀ w, (sizeOf e).run P w = .ok 1 w)
    (xs ys : List Int) (hx : xs.length = n) (hy : ys.length = n) :
    (Op.equalIn (d + 2) t (.agg (xs.map (Value.int .i64)).toArray) (.agg (ys.map (Value.int .i64)).toArray)).run P w = .ok (xs == ys) w := by
  rw [← all_range_ints xs ys (hx.trans hy.symm), hx, List.range_eq_range', Op.equalIn]
  simp only [Sem.run_bind, run_underlying ht, Result.andThen_ok, hsz, Std.Legacy.Range.forIn_eq_forIn_range', Std.Legacy.Range.size, Nat.sub_zero, Nat.add_sub_cancel, Nat.div_one]
  have hl : ∀ i ∈ List.range' 0 n 1, i < n := fun i hi => by simpa using (List.mem_range'_1.1 hi).2
  generalize List.range' 0 n 1 = l at hl ⊢
  induction l with
  | nil => simp
  | cons i l ih =>
    have hi : i < n := hl i (by simp)
    have px : (part e (xs.map (Value.int .i64)).toArray (i * 1)).run P w = .ok (.int .i64 (xs.getD i 0)) w := by
      simp [part, isAgg, run_underlying he, List.getD, List.getElem?_eq_getElem (show i < xs.length by omega)]
    have py : (part e (ys.map (Value.int .i64)).toArray (i * 1)).run P w = .ok (.int .i64 (ys.getD i 0)) w := by
      simp [part, isAgg, run_underlying he, List.getD, List.getElem?_eq_getElem (show i < ys.length by omega)]
    have pe : (Op.equalIn (d + 1) e (.int .i64 (xs.getD i 0)) (.int .i64 (ys.getD i 0))).run P w = .ok (xs.getD i 0 == ys.getD i 0) w := run_equalIn_int w d e .i64 .i64 _ _ he
    simp only [List.forIn_cons, Sem.run_bind, px, py, pe, Result.andThen_ok, List.all_cons]
    cases hb : (xs.getD i 0 == ys.getD i 0)
    · simp
    · simp only [Bool.not_true, Bool.false_eq_true, if_false, Sem.run_pure, Result.andThen_ok, Bool.true_and]
      exact ih fun j hj => hl j (by simp [hj])

theorem run_equalInM (m n : M) (w : World) : (Op.equalIn 10000 25 (mv m) (mv n)).run Try.prog w = .ok (decide (m = n)) w := by
  have e := run_equalIn_ints w 9998 25 2 4 Try.underlying25 Try.underlying2 Try.sizeOf2 [m.a, m.b, m.c, m.d] [n.a, n.b, n.c, n.d] rfl rfl
  rw [show ([m.a, m.b, m.c, m.d] == [n.a, n.b, n.c, n.d]) = decide (m = n) by
    rw [Bool.eq_iff_iff]
    obtain ⟨a, b, c, d⟩ := m
    obtain ⟨a', b', c', d'⟩ := n
    simp] at e
  exact e
set_option maxHeartbeats 400000 in
theorem negative_any (m : M) (w : World) (h : m.ents = true) :
    Calls Try.prog 27 #[mv m] w fun e w' => e = .returned (mv m.neg) ∧ Below w.heap.size w w' := by
  have k := M.ents_bd h
  clear h
  obtain ⟨k1, k2, k3, k4⟩ := k
  go_enter Try.func27, Try.ntmps27
  go_wp2
  refine bodyPost_ret (v := mv m.neg) (by simp [results, Try.results27, go_sem]) rfl ?_
  exact ⟨rfl, (by repeat (first | (with_reducible exact Below.refl _ _) | (with_reducible assumption) | (with_reducible refine Below.drew ?_) | (with_reducible refine Below.drewN ?_) | ((with_reducible refine Below.al ?_ ?_); · first | omega | (simp; done) | (simp; omega)) | ((with_reducible refine Below.sc ?_ ?_); · first | omega | (simp; done) | (simp; omega)) | ((with_reducible refine Below.thru hb ?_ ?_); · first | omega | (simp; done) | (simp; omega))))⟩
set_option maxHeartbeats 400000 in
theorem l01Negative_any (m : M) (w : World) (h : m.ents = true) :
    Calls Try.prog 42 #[mv m] w fun e w' => e = .returned (mv m.neg) ∧ Below w.heap.size w w' := by
  have k := M.ents_bd h
  clear h
  obtain ⟨k1, k2, k3, k4⟩ := k
  go_enter Try.func42, Try.ntmps42
  go_wp2
  refine bodyPost_ret (v := mv m.neg) (by simp [results, Try.results42, go_sem]) rfl ?_
  exact ⟨rfl, (by repeat (first | (with_reducible exact Below.refl _ _) | (with_reducible assumption) | (with_reducible refine Below.drew ?_) | (with_reducible refine Below.drewN ?_) | ((with_reducible refine Below.al ?_ ?_); · first | omega | (simp; done) | (simp; omega)) | ((with_reducible refine Below.sc ?_ ?_); · first | omega | (simp; done) | (simp; omega)) | ((with_reducible refine Below.thru hb ?_ ?_); · first | omega | (simp; done) | (simp; omega))))⟩
theorem l01Times_x {m n : M} (hm : m.ents = true) (hn : n.ents = true) : ∃ (r : M) (b : Bool), Hid (((m.mul n).ents = true ∧ r = m.mul n ∧ b = true) ∨ ((m.mul n).ents = false ∧ r = ⟨0, 0, 0, 0⟩ ∧ b = false)) ∧ Hid (r.ents = true) ∧ ∀ w : World,
    Calls Try.prog 25 #[mv m, mv n] w fun e w' => e = .returned (.tuple #[mv r, .bool b]) ∧ Below w.heap.size w w' := by
  cases e : (m.mul n).ents with
  | true => exact ⟨_, _, Lib.hid (.inl ⟨rfl, rfl, rfl⟩), Lib.hid e, fun w => l01Times_yes m n w hm hn e⟩
  | false => exact ⟨⟨0, 0, 0, 0⟩, false, Lib.hid (.inr ⟨rfl, rfl, rfl⟩), Lib.hid (by decide), fun w => l01Times_no m n w hm hn e⟩
theorem prodFrom_app (l1 : List M) : ∀ (m : M) (l2 : List M), prodFrom m (l1 ++ l2) = (prodFrom m l1).bind fun r => prodFrom r l2 := by
  induction l1 with
  | nil => intro m l2; rfl
  | cons x l1 ih =>
    intro m l2
    rw [List.cons_append, prodFrom_cons, prodFrom_cons]
    split
    · exact ih _ _
    · rfl
theorem mat3_none {s : ByteArray} {n : Nat} (h : prodFrom M.one (ms3 s n) = none) : mat3 s = none := by
  unfold mat3
  have e : ms3 s s.size = ms3 s n ++ (s.data.toList.drop n).map lm3 := by
    unfold ms3
    rw [← List.map_append, List.take_append_drop, List.take_of_length_le (by rw [Array.length_toList]; exact Nat.le_refl _)]
  rw [e, prodFrom_app, h]
  rfl
/-- The product so far, and whether it fits. -/
def SoFar (s : ByteArray) (n : Nat) (b : Bool) (m : M) : Prop := m.ents = true ∧ ((b = true ∧ prodFrom M.one (ms3 s n) = some m) ∨ (b = false ∧ m = ⟨0, 0, 0, 0⟩ ∧ mat3 s = none))
theorem SoFar.next {s : ByteArray} {n : Nat} {m r : M} {b : Bool} (h : SoFar s n true m) (hn : n < s.size) (hr : r.ents = true) (hx : ((m.mul (lm3 s[n])).ents = true ∧ r = m.mul (lm3 s[n]) ∧ b = true) ∨ ((m.mul (lm3 s[n])).ents = false ∧ r = ⟨0, 0, 0, 0⟩ ∧ b = false)) : SoFar s (n + 1) b r := by
  obtain ⟨hm, ⟨-, h⟩ | ⟨h, -⟩⟩ := h
  · refine ⟨hr, ?_⟩
    have e : prodFrom M.one (ms3 s (n + 1)) = if (m.mul (lm3 s[n])).ents then some (m.mul (lm3 s[n])) else none := by
      rw [ms3_succ s hn, prodFrom_app, h]
      rfl
    rcases hx with ⟨h1, rfl, rfl⟩ | ⟨h1, rfl, rfl⟩
    · left
      rw [h1] at e
      exact ⟨rfl, e⟩
    · right
      rw [h1] at e
      exact ⟨rfl, rfl, mat3_none e⟩
  · cases h
theorem l02Unit_any (w : World) : Calls Try.prog 24 #[] w fun e w' => e = .returned (mv ⟨1, 0, 0, 1⟩) ∧ Below w.heap.size w w' := by
  go_enter Try.func24, Try.ntmps24
  go_wp2
  refine ret_at (v := mv ⟨1, 0, 0, 1⟩) (fun w' => Blk w' (w.heap.size) 25 (mcs ⟨1, 0, 0, 1⟩)) (by repeat (first | (with_reducible assumption) | ((with_reducible refine Blk.new ?_); · first | omega | (simp; done) | (simp; omega)) | (with_reducible apply Blk.set4) | (with_reducible apply Blk.set3) | (with_reducible apply Blk.set2) | ((with_reducible refine Blk.put ?_ ?_); · first | omega | (simp; omega)) | (with_reducible refine Blk.old ?_) | (with_reducible refine Blk.drew ?_) | (with_reducible refine Blk.drewN ?_) | ((with_reducible refine Blk.below hb ?_ ?_); · first | omega | (simp; done) | (simp; omega)))) (fun w' hB => by have q := hB.m; simp [results, Try.results24, go_sem, q]) rfl ?_
  exact ⟨rfl, (by repeat (first | (with_reducible exact Below.refl _ _) | (with_reducible assumption) | (with_reducible refine Below.drew ?_) | (with_reducible refine Below.drewN ?_) | ((with_reducible refine Below.al ?_ ?_); · first | omega | (simp; done) | (simp; omega)) | ((with_reducible refine Below.sc ?_ ?_); · first | omega | (simp; done) | (simp; omega)) | ((with_reducible refine Below.thru hb ?_ ?_); · first | omega | (simp; done) | (simp; omega))))⟩
set_option maxRecDepth 8000 in
set_option maxHeartbeats 2000000 in
theorem specMatrixOfFree_any (s : ByteArray) (w : World) (hs : s.size ≤ 400) : Calls Try.prog 10 #[.string s] w (GivesMF s w) := by
  have HG := Lib.hid (show ∀ e w', Below w.heap.size w w' → ((Free3 s ∧ e = .returned (prodRes (mat3 s))) ∨ (¬ Free3 s ∧ e = .returned (.tuple #[mv ⟨0, 0, 0, 0⟩, .int .i64 2]))) → GivesMF s w e w' from fun e w' h1 h2 => ⟨h1, h2⟩)
  generalize GivesMF s w = GF at *
  by_cases hz : s.size ≤ 200
  · go_enter Try.func10, Try.ntmps10
    go_wp2_with fail
    go_loopw [3, 4] (fun v3 i wr => ∃ n : Nat, n ≤ s.size ∧ v3 = .int .i64 0 ∧ i = .int .i64 (n : Int) ∧ Hid ((∀ j (h : j < s.size), j < n → L3 s[j]) ∧ ∀ j (h : j + 1 < s.size), j + 1 < n → (s[j] == 83) ≠ (s[j + 1] == 83)) ∧ Blk wr w.heap.size 25 (mcs ⟨0, 0, 0, 0⟩) ∧ Below w.heap.size w wr) (fun _ i _ => s.size - (intOf i).toNat)
    case atStart => exact ⟨0, Nat.zero_le _, rfl, rfl, Lib.hid ⟨fun j h hj => absurd hj (by omega), fun j h hj => absurd hj (by omega)⟩, (by repeat (first | (with_reducible assumption) | ((with_reducible refine Blk.new ?_); · first | omega | (simp; done) | (simp; omega)) | (with_reducible apply Blk.set4) | (with_reducible apply Blk.set3) | (with_reducible apply Blk.set2) | ((with_reducible refine Blk.put ?_ ?_); · first | omega | (simp; omega)) | (with_reducible refine Blk.old ?_) | (with_reducible refine Blk.drew ?_) | (with_reducible refine Blk.drewN ?_) | ((with_reducible refine Blk.below hb ?_ ?_); · first | omega | (simp; done) | (simp; omega)))), (by repeat (first | (with_reducible exact Below.refl _ _) | (with_reducible assumption) | (with_reducible refine Below.drew ?_) | (with_reducible refine Below.drewN ?_) | ((with_reducible refine Below.al ?_ ?_); · first | omega | (simp; done) | (simp; omega)) | ((with_reducible refine Below.sc ?_ ?_); · first | omega | (simp; done) | (simp; omega)) | ((with_reducible refine Below.thru hb ?_ ?_); · first | omega | (simp; done) | (simp; omega))))⟩
    case round =>
      obtain ⟨n, hn, rfl, rfl, hp, B, kwr⟩ := hrel
      have swr := kwr.size
      have lB := B.lt
      by_cases hlt : n < s.size
      · have i0 : (0 : Int) ≤ (n : Int) := by omega
        have i1 : (n : Int) < (s.size : Int) := by omega
        have HOK := Lib.hid (show L3 s[n] → (∀ k (h : n = k + 1), (s[k]'(by omega) == 83) ≠ (s[n] == 83)) → (∀ j (h : j < s.size), j < n + 1 → L3 s[j]) ∧ ∀ j (h : j + 1 < s.size), j + 1 < n + 1 → (s[j] == 83) ≠ (s[j + 1] == 83) from fun h1 h2 => ⟨fun j a b => by
          by_cases e : j < n
          · exact hp.out.1 j a e
          · obtain rfl : j = n := by omega
            exact h1, fun j a b => by
          by_cases e : j + 1 < n
          · exact hp.out.2 j a e
          · obtain rfl : n = j + 1 := by omega
            exact h2 j rfl⟩)
        have HNO := Lib.hid (show ¬ L3 s[n] → ¬ Free3 s from fun h g => h (g.2.1 n hlt))
        have HNA := Lib.hid (show ∀ k (h : n = k + 1), (s[k]'(by omega) == 83) = (s[n] == 83) → ¬ Free3 s from fun k h h2 g => by
          subst h
          exact g.1 k hlt h2)
        have q0 := B.m
        have q1 := B.mf
        by_cases hb : L3 s[n]
        · rcases Nat.eq_zero_or_pos n with hn0 | hn0
          · subst hn0
            have HR := Lib.hid (HOK.out hb (fun k h => by omega))
            clear HOK HNO HNA hp
            have c1 : ¬ (0 : Int) < ((0 : Nat) : Int) := by omega
            rcases hb with h | h | h
            all_goals have hv : (s[0].toNat) = _ := congrArg UInt8.toNat h
            all_goals clear h
            all_goals go_wp2_with fail
            all_goals go_quiet (fail)
            all_goals go_wp2
            all_goals go_roundw
            all_goals first | exact ⟨1, by omega, rfl, by go_num, HR, (by repeat (first | (with_reducible assumption) | ((with_reducible refine Blk.new ?_); · first | omega | (simp; done) | (simp; omega)) | (with_reducible apply Blk.set4) | (with_reducible apply Blk.set3) | (with_reducible apply Blk.set2) | ((with_reducible refine Blk.put ?_ ?_); · first | omega | (simp; omega)) | (with_reducible refine Blk.old ?_) | (with_reducible refine Blk.drew ?_) | (with_reducible refine Blk.drewN ?_) | ((with_reducible refine Blk.below hb ?_ ?_); · first | omega | (simp; done) | (simp; omega)))), (by repeat (first | (with_reducible exact Below.refl _ _) | (with_reducible assumption) | (with_reducible refine Below.drew ?_) | (with_reducible refine Below.drewN ?_) | ((with_reducible refine Below.al ?_ ?_); · first | omega | (simp; done) | (simp; omega)) | ((with_reducible refine Below.sc ?_ ?_); · first | omega | (simp; done) | (simp; omega)) | ((with_reducible refine Below.thru hb ?_ ?_); · first | omega | (simp; done) | (simp; omega))))⟩ | (simp [intOf]; omega)
          · obtain ⟨k, hnk⟩ : ∃ k, n = k + 1 := ⟨n - 1, by omega⟩
            have hkl : k < s.size := by omega
            have j0 : (0 : Int) ≤ (k : Int) := by omega
            have j1 : (k : Int) < (s.size : Int) := by omega
            have c1 : (0 : Int) < (n : Int) := by omega
            have hw2 : IntKind.i64.wrap ((n : Int) - 1) = (k : Int) := by rw [IntKind.wrap_i64]; omega
            by_cases hk : s[k] = 83
            · have hvk : s[k].toNat = 83 := by rw [hk]; rfl
              by_cases h : s[n] = 83
              · have HF := Lib.hid (HNA.out k hnk (by rw [hk, h]))
                have hv : s[n].toNat = 83 := by rw [h]; rfl
                clear HOK HNO HNA hp h hk hnk hb
                go_wp2_with fail
                go_quiet (fail)
                go_wp2
                refine ret_at (v := .tuple #[mv ⟨0, 0, 0, 0⟩, .int .i64 2]) (fun w' => Blk w' (w.heap.size) 25 (mcs ⟨0, 0, 0, 0⟩)) (by repeat (first | (with_reducible assumption) | ((with_reducible refine Blk.new ?_); · first | omega | (simp; done) | (simp; omega)) | (with_reducible apply Blk.set4) | (with_reducible apply Blk.set3) | (with_reducible apply Blk.set2) | ((with_reducible refine Blk.put ?_ ?_); · first | omega | (simp; omega)) | (with_reducible refine Blk.old ?_) | (with_reducible refine Blk.drew ?_) | (with_reducible refine Blk.drewN ?_) | ((with_reducible refine Blk.below hb ?_ ?_); · first | omega | (simp; done) | (simp; omega)))) (fun w' hB => by have q := hB.m; simp [results, Try.results10, go_sem, q]) rfl ?_
                exact HG.out _ _ (by repeat (first | (with_reducible exact Below.refl _ _) | (with_reducible assumption) | (with_reducible refine Below.drew ?_) | (with_reducible refine Below.drewN ?_) | ((with_reducible refine Below.al ?_ ?_); · first | omega | (simp; done) | (simp; omega)) | ((with_reducible refine Below.sc ?_ ?_); · first | omega | (simp; done) | (simp; omega)) | ((with_reducible refine Below.thru hb ?_ ?_); · first | omega | (simp; done) | (simp; omega)))) (.inr ⟨HF.out, rfl⟩)
              · have HR := Lib.hid (HOK.out hb (fun k2 h2 => by
                  obtain rfl : k2 = k := by omega
                  rw [hk, beq_eq_false_iff_ne.2 h]
                  decide))
                clear HOK HNO HNA hp hk hnk
                rcases hb with h2 | h2 | h2
                · exact absurd h2 h
                all_goals have hv : (s[n].toNat) = _ := congrArg UInt8.toNat h2
                all_goals clear h2 h
                all_goals go_wp2_with fail
                all_goals go_quiet (fail)
                all_goals go_wp2
                all_goals go_roundw
                all_goals first | exact ⟨n + 1, by omega, rfl, by go_num, HR, (by repeat (first | (with_reducible assumption) | ((with_reducible refine Blk.new ?_); · first | omega | (simp; done) | (simp; omega)) | (with_reducible apply Blk.set4) | (with_reducible apply Blk.set3) | (with_reducible apply Blk.set2) | ((with_reducible refine Blk.put ?_ ?_); · first | omega | (simp; omega)) | (with_reducible refine Blk.old ?_) | (with_reducible refine Blk.drew ?_) | (with_reducible refine Blk.drewN ?_) | ((with_reducible refine Blk.below hb ?_ ?_); · first | omega | (simp; done) | (simp; omega)))), (by repeat (first | (with_reducible exact Below.refl _ _) | (with_reducible assumption) | (with_reducible refine Below.drew ?_) | (with_reducible refine Below.drewN ?_) | ((with_reducible refine Below.al ?_ ?_); · first | omega | (simp; done) | (simp; omega)) | ((with_reducible refine Below.sc ?_ ?_); · first | omega | (simp; done) | (simp; omega)) | ((with_reducible refine Below.thru hb ?_ ?_); · first | omega | (simp; done) | (simp; omega))))⟩ | (simp [intOf]; omega)
            · have hvk : ((s[k].toNat : Int) == 83) = false := beq_eq_false_iff_ne.2 (fun e => hk (UInt8.toNat_inj.1 (by show s[k].toNat = 83; omega)))
              by_cases h : s[n] = 83
              · have HR := Lib.hid (HOK.out hb (fun k2 h2 => by
                  obtain rfl : k2 = k := by omega
                  rw [h, beq_eq_false_iff_ne.2 hk]
                  decide))
                have hv : s[n].toNat = 83 := by rw [h]; rfl
                clear HOK HNO HNA hp hk hnk hb h
                go_wp2_with fail
                go_quiet (fail)
                go_wp2
                go_roundw
                case rel => exact ⟨n + 1, by omega, rfl, by go_num, HR, (by repeat (first | (with_reducible assumption) | ((with_reducible refine Blk.new ?_); · first | omega | (simp; done) | (simp; omega)) | (with_reducible apply Blk.set4) | (with_reducible apply Blk.set3) | (with_reducible apply Blk.set2) | ((with_reducible refine Blk.put ?_ ?_); · first | omega | (simp; omega)) | (with_reducible refine Blk.old ?_) | (with_reducible refine Blk.drew ?_) | (with_reducible refine Blk.drewN ?_) | ((with_reducible refine Blk.below hb ?_ ?_); · first | omega | (simp; done) | (simp; omega)))), (by repeat (first | (with_reducible exact Below.refl _ _) | (with_reducible assumption) | (with_reducible refine Below.drew ?_) | (with_reducible refine Below.drewN ?_) | ((with_reducible refine Below.al ?_ ?_); · first | omega | (simp; done) | (simp; omega)) | ((with_reducible refine Below.sc ?_ ?_); · first | omega | (simp; done) | (simp; omega)) | ((with_reducible refine Below.thru hb ?_ ?_); · first | omega | (simp; done) | (simp; omega))))⟩
                case measure => simp [intOf]; omega
              · have HF := Lib.hid (HNA.out k hnk (by rw [beq_eq_false_iff_ne.2 hk, beq_eq_false_iff_ne.2 h]))
                clear HOK HNO HNA hp hk hnk
                rcases hb with h2 | h2 | h2
                · exact absurd h2 h
                all_goals have hv : (s[n].toNat) = _ := congrArg UInt8.toNat h2
                all_goals clear h2 h
                all_goals go_wp2_with fail
                all_goals go_quiet (fail)
                all_goals go_wp2
                all_goals refine ret_at (v := .tuple #[mv ⟨0, 0, 0, 0⟩, .int .i64 2]) (fun w' => Blk w' (w.heap.size) 25 (mcs ⟨0, 0, 0, 0⟩)) (by repeat (first | (with_reducible assumption) | ((with_reducible refine Blk.new ?_); · first | omega | (simp; done) | (simp; omega)) | (with_reducible apply Blk.set4) | (with_reducible apply Blk.set3) | (with_reducible apply Blk.set2) | ((with_reducible refine Blk.put ?_ ?_); · first | omega | (simp; omega)) | (with_reducible refine Blk.old ?_) | (with_reducible refine Blk.drew ?_) | (with_reducible refine Blk.drewN ?_) | ((with_reducible refine Blk.below hb ?_ ?_); · first | omega | (simp; done) | (simp; omega)))) (fun w' hB => by have q := hB.m; simp [results, Try.results10, go_sem, q]) rfl ?_
                all_goals exact HG.out _ _ (by repeat (first | (with_reducible exact Below.refl _ _) | (with_reducible assumption) | (with_reducible refine Below.drew ?_) | (with_reducible refine Below.drewN ?_) | ((with_reducible refine Below.al ?_ ?_); · first | omega | (simp; done) | (simp; omega)) | ((with_reducible refine Below.sc ?_ ?_); · first | omega | (simp; done) | (simp; omega)) | ((with_reducible refine Below.thru hb ?_ ?_); · first | omega | (simp; done) | (simp; omega)))) (.inr ⟨HF.out, rfl⟩)
        · have HF := Lib.hid (HNO.out hb)
          have h1 : ((s[n].toNat : Int) != 83) = true := bne_iff_ne.2 (fun e => hb (.inl (UInt8.toNat_inj.1 (by show s[n].toNat = 83; omega))))
          have h2 : ((s[n].toNat : Int) != 85) = true := bne_iff_ne.2 (fun e => hb (.inr (.inl (UInt8.toNat_inj.1 (by show s[n].toNat = 85; omega)))))
          have h3 : ((s[n].toNat : Int) != 86) = true := bne_iff_ne.2 (fun e => hb (.inr (.inr (UInt8.toNat_inj.1 (by show s[n].toNat = 86; omega)))))
          clear HOK HNO HNA hp hb
          go_wp2_with fail
          go_quiet (fail)
          go_wp2
          refine ret_at (v := .tuple #[mv ⟨0, 0, 0, 0⟩, .int .i64 2]) (fun w' => Blk w' (w.heap.size) 25 (mcs ⟨0, 0, 0, 0⟩)) (by repeat (first | (with_reducible assumption) | ((with_reducible refine Blk.new ?_); · first | omega | (simp; done) | (simp; omega)) | (with_reducible apply Blk.set4) | (with_reducible apply Blk.set3) | (with_reducible apply Blk.set2) | ((with_reducible refine Blk.put ?_ ?_); · first | omega | (simp; omega)) | (with_reducible refine Blk.old ?_) | (with_reducible refine Blk.drew ?_) | (with_reducible refine Blk.drewN ?_) | ((with_reducible refine Blk.below hb ?_ ?_); · first | omega | (simp; done) | (simp; omega)))) (fun w' hB => by have q := hB.m; simp [results, Try.results10, go_sem, q]) rfl ?_
          exact HG.out _ _ (by repeat (first | (with_reducible exact Below.refl _ _) | (with_reducible assumption) | (with_reducible refine Below.drew ?_) | (with_reducible refine Below.drewN ?_) | ((with_reducible refine Below.al ?_ ?_); · first | omega | (simp; done) | (simp; omega)) | ((with_reducible refine Below.sc ?_ ?_); · first | omega | (simp; done) | (simp; omega)) | ((with_reducible refine Below.thru hb ?_ ?_); · first | omega | (simp; done) | (simp; omega)))) (.inr ⟨HF.out, rfl⟩)
      · have HFR := Lib.hid (show Free3 s from ⟨fun j h => hp.out.2 j h (by omega), fun j h => hp.out.1 j h (by omega), hz⟩)
        clear hp
        go_wp2_with fail
        refine (l02Unit_any _).mono ?_
        rintro e w1 ⟨rfl, hb⟩
        have B1 : Blk w1 w.heap.size 25 (mcs ⟨0, 0, 0, 0⟩) := (by repeat (first | (with_reducible assumption) | ((with_reducible refine Blk.new ?_); · first | omega | (simp; done) | (simp; omega)) | (with_reducible apply Blk.set4) | (with_reducible apply Blk.set3) | (with_reducible apply Blk.set2) | ((with_reducible refine Blk.put ?_ ?_); · first | omega | (simp; omega)) | (with_reducible refine Blk.old ?_) | (with_reducible refine Blk.drew ?_) | (with_reducible refine Blk.drewN ?_) | ((with_reducible refine Blk.below hb ?_ ?_); · first | omega | (simp; done) | (simp; omega))))
        have k1 : Below w.heap.size w w1 := (by repeat (first | (with_reducible exact Below.refl _ _) | (with_reducible assumption) | (with_reducible refine Below.drew ?_) | (with_reducible refine Below.drewN ?_) | ((with_reducible refine Below.al ?_ ?_); · first | omega | (simp; done) | (simp; omega)) | ((with_reducible refine Below.sc ?_ ?_); · first | omega | (simp; done) | (simp; omega)) | ((with_reducible refine Below.thru hb ?_ ?_); · first | omega | (simp; done) | (simp; omega))))
        have s1 := k1.size
        have l1 := B1.lt
        clear hb B kwr swr lB
        go_wp2_with fail
        go_loopw [6, 7] (fun f6 ii wr => ∃ (n : Nat) (b : Bool) (m : M), n ≤ s.size ∧ f6 = .bool b ∧ ii = .int .i64 (n : Int) ∧ Hid (SoFar s n b m) ∧ Blk wr w.heap.size 25 (mcs ⟨0, 0, 0, 0⟩) ∧ Blk wr w1.heap.size 25 (mcs m) ∧ Below w.heap.size w wr) (fun _ ii _ => s.size - (intOf ii).toNat)
        case atStart => exact ⟨0, true, ⟨1, 0, 0, 1⟩, Nat.zero_le _, rfl, rfl, Lib.hid ⟨by decide, .inl ⟨rfl, by unfold ms3; rw [List.take_zero]; rfl⟩⟩, (by repeat (first | (with_reducible assumption) | ((with_reducible refine Blk.new ?_); · first | omega | (simp; done) | (simp; omega)) | (with_reducible apply Blk.set4) | (with_reducible apply Blk.set3) | (with_reducible apply Blk.set2) | ((with_reducible refine Blk.put ?_ ?_); · first | omega | (simp; omega)) | (with_reducible refine Blk.old ?_) | (with_reducible refine Blk.drew ?_) | (with_reducible refine Blk.drewN ?_) | ((with_reducible refine Blk.below hb ?_ ?_); · first | omega | (simp; done) | (simp; omega)))), (by repeat (first | (with_reducible assumption) | ((with_reducible refine Blk.new ?_); · first | omega | (simp; done) | (simp; omega)) | (with_reducible apply Blk.set4) | (with_reducible apply Blk.set3) | (with_reducible apply Blk.set2) | ((with_reducible refine Blk.put ?_ ?_); · first | omega | (simp; omega)) | (with_reducible refine Blk.old ?_) | (with_reducible refine Blk.drew ?_) | (with_reducible refine Blk.drewN ?_) | ((with_reducible refine Blk.below hb ?_ ?_); · first | omega | (simp; done) | (simp; omega)))), (by repeat (first | (with_reducible exact Below.refl _ _) | (with_reducible assumption) | (with_reducible refine Below.drew ?_) | (with_reducible refine Below.drewN ?_) | ((with_reducible refine Below.al ?_ ?_); · first | omega | (simp; done) | (simp; omega)) | ((with_reducible refine Below.sc ?_ ?_); · first | omega | (simp; done) | (simp; omega)) | ((with_reducible refine Below.thru hb ?_ ?_); · first | omega | (simp; done) | (simp; omega))))⟩
        case round =>
          clear B1 k1
          obtain ⟨n, b, m, hn2, rfl, rfl, hso, B, B2, kwr⟩ := hrel
          have swr := kwr.size
          have lB := B.lt
          have lB2 := B2.lt
          have q0 := B.m
          have q1 := B.mf
          have q2 := B2.m
          have q3 := B2.mf
          have i0 : (0 : Int) ≤ (n : Int) := by omega
          by_cases hlt : n < s.size
          · have i1 : (n : Int) < (s.size : Int) := by omega
            cases b with
            | false =>
              have HE := Lib.hid (show prodRes (mat3 s) = .tuple #[mv ⟨0, 0, 0, 0⟩, .int .i64 3] by
                obtain ⟨-, ⟨h, -⟩ | ⟨-, -, h⟩⟩ := hso.out
                · cases h
                · rw [h]; rfl)
              go_wp2
              refine ret_at (v := .tuple #[mv ⟨0, 0, 0, 0⟩, .int .i64 3]) (fun w' => Blk w' (w.heap.size) 25 (mcs ⟨0, 0, 0, 0⟩)) (by repeat (first | (with_reducible assumption) | ((with_reducible refine Blk.new ?_); · first | omega | (simp; done) | (simp; omega)) | (with_reducible apply Blk.set4) | (with_reducible apply Blk.set3) | (with_reducible apply Blk.set2) | ((with_reducible refine Blk.put ?_ ?_); · first | omega | (simp; omega)) | (with_reducible refine Blk.old ?_) | (with_reducible refine Blk.drew ?_) | (with_reducible refine Blk.drewN ?_) | ((with_reducible refine Blk.below hb ?_ ?_); · first | omega | (simp; done) | (simp; omega)))) (fun w' hB => by have q := hB.m; simp [results, Try.results10, go_sem, q]) rfl ?_
              exact HG.out _ _ (by repeat (first | (with_reducible exact Below.refl _ _) | (with_reducible assumption) | (with_reducible refine Below.drew ?_) | (with_reducible refine Below.drewN ?_) | ((with_reducible refine Below.al ?_ ?_); · first | omega | (simp; done) | (simp; omega)) | ((with_reducible refine Below.sc ?_ ?_); · first | omega | (simp; done) | (simp; omega)) | ((with_reducible refine Below.thru hb ?_ ?_); · first | omega | (simp; done) | (simp; omega)))) (.inl ⟨HFR.out, by rw [HE.out]⟩)
            | true =>
              obtain ⟨r2, b2, hx, hr2, hcall⟩ := l01Times_x (m := m) (n := lm3 s[n]) hso.out.1 (lm3_ents _)
              have HNX := Lib.hid (SoFar.next hso.out hlt hr2.out hx.out)
              have HC := Lib.hid hcall
              have hl3 := HFR.out.2.1 n hlt
              clear hso hx hr2 hcall
              rcases hl3 with h | h | h
              · rw [h] at HC
                have HC2 : Hid (∀ w : World, Calls Try.prog 25 #[.agg #[.int .i64 m.a, .int .i64 m.b, .int .i64 m.c, .int .i64 m.d], .agg #[.int .i64 0, .int .i64 (-1), .int .i64 1, .int .i64 0]] w fun e w' => e = .returned (.tuple #[mv r2, .bool b2]) ∧ Below w.heap.size w w') := HC
                have hv : s[n].toNat = 83 := by rw [h]; rfl
                clear h HC
                go_wp2_with fail
                refine (HC2.out _).mono ?_
                rintro e w3 ⟨rfl, hb⟩
                have C0 : Blk w3 w.heap.size 25 (mcs ⟨0, 0, 0, 0⟩) := (by repeat (first | (with_reducible assumption) | ((with_reducible refine Blk.new ?_); · first | omega | (simp; done) | (simp; omega)) | (with_reducible apply Blk.set4) | (with_reducible apply Blk.set3) | (with_reducible apply Blk.set2) | ((with_reducible refine Blk.put ?_ ?_); · first | omega | (simp; omega)) | (with_reducible refine Blk.old ?_) | (with_reducible refine Blk.drew ?_) | (with_reducible refine Blk.drewN ?_) | ((with_reducible refine Blk.below hb ?_ ?_); · first | omega | (simp; done) | (simp; omega))))
                have C2 : Blk w3 w1.heap.size 25 (mcs m) := (by repeat (first | (with_reducible assumption) | ((with_reducible refine Blk.new ?_); · first | omega | (simp; done) | (simp; omega)) | (with_reducible apply Blk.set4) | (with_reducible apply Blk.set3) | (with_reducible apply Blk.set2) | ((with_reducible refine Blk.put ?_ ?_); · first | omega | (simp; omega)) | (with_reducible refine Blk.old ?_) | (with_reducible refine Blk.drew ?_) | (with_reducible refine Blk.drewN ?_) | ((with_reducible refine Blk.below hb ?_ ?_); · first | omega | (simp; done) | (simp; omega))))
                have kw3 : Below w.heap.size w w3 := (by repeat (first | (with_reducible exact Below.refl _ _) | (with_reducible assumption) | (with_reducible refine Below.drew ?_) | (with_reducible refine Below.drewN ?_) | ((with_reducible refine Below.al ?_ ?_); · first | omega | (simp; done) | (simp; omega)) | ((with_reducible refine Below.sc ?_ ?_); · first | omega | (simp; done) | (simp; omega)) | ((with_reducible refine Below.thru hb ?_ ?_); · first | omega | (simp; done) | (simp; omega))))
                clear hb B B2 kwr q0 q1 q2 q3 lB lB2
                have q2 := C2.m
                have q3 := C2.mf
                have lB := C0.lt
                have lB2 := C2.lt
                go_wp2
                go_roundw
                case rel => exact ⟨n + 1, b2, r2, by omega, rfl, by go_num, HNX, (by repeat (first | (with_reducible assumption) | ((with_reducible refine Blk.new ?_); · first | omega | (simp; done) | (simp; omega)) | (with_reducible apply Blk.set4) | (with_reducible apply Blk.set3) | (with_reducible apply Blk.set2) | ((with_reducible refine Blk.put ?_ ?_); · first | omega | (simp; omega)) | (with_reducible refine Blk.old ?_) | (with_reducible refine Blk.drew ?_) | (with_reducible refine Blk.drewN ?_) | ((with_reducible refine Blk.below hb ?_ ?_); · first | omega | (simp; done) | (simp; omega)))), (by repeat (first | (with_reducible assumption) | ((with_reducible refine Blk.new ?_); · first | omega | (simp; done) | (simp; omega)) | (with_reducible apply Blk.set4) | (with_reducible apply Blk.set3) | (with_reducible apply Blk.set2) | ((with_reducible refine Blk.put ?_ ?_); · first | omega | (simp; omega)) | (with_reducible refine Blk.old ?_) | (with_reducible refine Blk.drew ?_) | (with_reducible refine Blk.drewN ?_) | ((with_reducible refine Blk.below hb ?_ ?_); · first | omega | (simp; done) | (simp; omega)))), (by repeat (first | (with_reducible exact Below.refl _ _) | (with_reducible assumption) | (with_reducible refine Below.drew ?_) | (with_reducible refine Below.drewN ?_) | ((with_reducible refine Below.al ?_ ?_); · first | omega | (simp; done) | (simp; omega)) | ((with_reducible refine Below.sc ?_ ?_); · first | omega | (simp; done) | (simp; omega)) | ((with_reducible refine Below.thru hb ?_ ?_); · first | omega | (simp; done) | (simp; omega))))⟩
                case measure => simp [intOf]; omega
              · rw [h] at HC
                have HC2 : Hid (∀ w : World, Calls Try.prog 25 #[.agg #[.int .i64 m.a, .int .i64 m.b, .int .i64 m.c, .int .i64 m.d], .agg #[.int .i64 1, .int .i64 (-1), .int .i64 1, .int .i64 0]] w fun e w' => e = .returned (.tuple #[mv r2, .bool b2]) ∧ Below w.heap.size w w') := HC
                have hv : s[n].toNat = 85 := by rw [h]; rfl
                clear h HC
                go_wp2_with fail
                refine (HC2.out _).mono ?_
                rintro e w3 ⟨rfl, hb⟩
                have C0 : Blk w3 w.heap.size 25 (mcs ⟨0, 0, 0, 0⟩) := (by repeat (first | (with_reducible assumption) | ((with_reducible refine Blk.new ?_); · first | omega | (simp; done) | (simp; omega)) | (with_reducible apply Blk.set4) | (with_reducible apply Blk.set3) | (with_reducible apply Blk.set2) | ((with_reducible refine Blk.put ?_ ?_); · first | omega | (simp; omega)) | (with_reducible refine Blk.old ?_) | (with_reducible refine Blk.drew ?_) | (with_reducible refine Blk.drewN ?_) | ((with_reducible refine Blk.below hb ?_ ?_); · first | omega | (simp; done) | (simp; omega))))
                have C2 : Blk w3 w1.heap.size 25 (mcs m) := (by repeat (first | (with_reducible assumption) | ((with_reducible refine Blk.new ?_); · first | omega | (simp; done) | (simp; omega)) | (with_reducible apply Blk.set4) | (with_reducible apply Blk.set3) | (with_reducible apply Blk.set2) | ((with_reducible refine Blk.put ?_ ?_); · first | omega | (simp; omega)) | (with_reducible refine Blk.old ?_) | (with_reducible refine Blk.drew ?_) | (with_reducible refine Blk.drewN ?_) | ((with_reducible refine Blk.below hb ?_ ?_); · first | omega | (simp; done) | (simp; omega))))
                have kw3 : Below w.heap.size w w3 := (by repeat (first | (with_reducible exact Below.refl _ _) | (with_reducible assumption) | (with_reducible refine Below.drew ?_) | (with_reducible refine Below.drewN ?_) | ((with_reducible refine Below.al ?_ ?_); · first | omega | (simp; done) | (simp; omega)) | ((with_reducible refine Below.sc ?_ ?_); · first | omega | (simp; done) | (simp; omega)) | ((with_reducible refine Below.thru hb ?_ ?_); · first | omega | (simp; done) | (simp; omega))))
                clear hb B B2 kwr q0 q1 q2 q3 lB lB2
                have q2 := C2.m
                have q3 := C2.mf
                have lB := C0.lt
                have lB2 := C2.lt
                go_wp2
                go_roundw
                case rel => exact ⟨n + 1, b2, r2, by omega, rfl, by go_num, HNX, (by repeat (first | (with_reducible assumption) | ((with_reducible refine Blk.new ?_); · first | omega | (simp; done) | (simp; omega)) | (with_reducible apply Blk.set4) | (with_reducible apply Blk.set3) | (with_reducible apply Blk.set2) | ((with_reducible refine Blk.put ?_ ?_); · first | omega | (simp; omega)) | (with_reducible refine Blk.old ?_) | (with_reducible refine Blk.drew ?_) | (with_reducible refine Blk.drewN ?_) | ((with_reducible refine Blk.below hb ?_ ?_); · first | omega | (simp; done) | (simp; omega)))), (by repeat (first | (with_reducible assumption) | ((with_reducible refine Blk.new ?_); · first | omega | (simp; done) | (simp; omega)) | (with_reducible apply Blk.set4) | (with_reducible apply Blk.set3) | (with_reducible apply Blk.set2) | ((with_reducible refine Blk.put ?_ ?_); · first | omega | (simp; omega)) | (with_reducible refine Blk.old ?_) | (with_reducible refine Blk.drew ?_) | (with_reducible refine Blk.drewN ?_) | ((with_reducible refine Blk.below hb ?_ ?_); · first | omega | (simp; done) | (simp; omega)))), (by repeat (first | (with_reducible exact Below.refl _ _) | (with_reducible assumption) | (with_reducible refine Below.drew ?_) | (with_reducible refine Below.drewN ?_) | ((with_reducible refine Below.al ?_ ?_); · first | omega | (simp; done) | (simp; omega)) | ((with_reducible refine Below.sc ?_ ?_); · first | omega | (simp; done) | (simp; omega)) | ((with_reducible refine Below.thru hb ?_ ?_); · first | omega | (simp; done) | (simp; omega))))⟩
                case measure => simp [intOf]; omega
              · rw [h] at HC
                have HC2 : Hid (∀ w : World, Calls Try.prog 25 #[.agg #[.int .i64 m.a, .int .i64 m.b, .int .i64 m.c, .int .i64 m.d], .agg #[.int .i64 0, .int .i64 (-1), .int .i64 1, .int .i64 (-1)]] w fun e w' => e = .returned (.tuple #[mv r2, .bool b2]) ∧ Below w.heap.size w w') := HC
                have hv : s[n].toNat = 86 := by rw [h]; rfl
                clear h HC
                go_wp2_with fail
                refine (HC2.out _).mono ?_
                rintro e w3 ⟨rfl, hb⟩
                have C0 : Blk w3 w.heap.size 25 (mcs ⟨0, 0, 0, 0⟩) := (by repeat (first | (with_reducible assumption) | ((with_reducible refine Blk.new ?_); · first | omega | (simp; done) | (simp; omega)) | (with_reducible apply Blk.set4) | (with_reducible apply Blk.set3) | (with_reducible apply Blk.set2) | ((with_reducible refine Blk.put ?_ ?_); · first | omega | (simp; omega)) | (with_reducible refine Blk.old ?_) | (with_reducible refine Blk.drew ?_) | (with_reducible refine Blk.drewN ?_) | ((with_reducible refine Blk.below hb ?_ ?_); · first | omega | (simp; done) | (simp; omega))))
                have C2 : Blk w3 w1.heap.size 25 (mcs m) := (by repeat (first | (with_reducible assumption) | ((with_reducible refine Blk.new ?_); · first | omega | (simp; done) | (simp; omega)) | (with_reducible apply Blk.set4) | (with_reducible apply Blk.set3) | (with_reducible apply Blk.set2) | ((with_reducible refine Blk.put ?_ ?_); · first | omega | (simp; omega)) | (with_reducible refine Blk.old ?_) | (with_reducible refine Blk.drew ?_) | (with_reducible refine Blk.drewN ?_) | ((with_reducible refine Blk.below hb ?_ ?_); · first | omega | (simp; done) | (simp; omega))))
                have kw3 : Below w.heap.size w w3 := (by repeat (first | (with_reducible exact Below.refl _ _) | (with_reducible assumption) | (with_reducible refine Below.drew ?_) | (with_reducible refine Below.drewN ?_) | ((with_reducible refine Below.al ?_ ?_); · first | omega | (simp; done) | (simp; omega)) | ((with_reducible refine Below.sc ?_ ?_); · first | omega | (simp; done) | (simp; omega)) | ((with_reducible refine Below.thru hb ?_ ?_); · first | omega | (simp; done) | (simp; omega))))
                clear hb B B2 kwr q0 q1 q2 q3 lB lB2
                have q2 := C2.m
                have q3 := C2.mf
                have lB := C0.lt
                have lB2 := C2.lt
                go_wp2
                go_roundw
                case rel => exact ⟨n + 1, b2, r2, by omega, rfl, by go_num, HNX, (by repeat (first | (with_reducible assumption) | ((with_reducible refine Blk.new ?_); · first | omega | (simp; done) | (simp; omega)) | (with_reducible apply Blk.set4) | (with_reducible apply Blk.set3) | (with_reducible apply Blk.set2) | ((with_reducible refine Blk.put ?_ ?_); · first | omega | (simp; omega)) | (with_reducible refine Blk.old ?_) | (with_reducible refine Blk.drew ?_) | (with_reducible refine Blk.drewN ?_) | ((with_reducible refine Blk.below hb ?_ ?_); · first | omega | (simp; done) | (simp; omega)))), (by repeat (first | (with_reducible assumption) | ((with_reducible refine Blk.new ?_); · first | omega | (simp; done) | (simp; omega)) | (with_reducible apply Blk.set4) | (with_reducible apply Blk.set3) | (with_reducible apply Blk.set2) | ((with_reducible refine Blk.put ?_ ?_); · first | omega | (simp; omega)) | (with_reducible refine Blk.old ?_) | (with_reducible refine Blk.drew ?_) | (with_reducible refine Blk.drewN ?_) | ((with_reducible refine Blk.below hb ?_ ?_); · first | omega | (simp; done) | (simp; omega)))), (by repeat (first | (with_reducible exact Below.refl _ _) | (with_reducible assumption) | (with_reducible refine Below.drew ?_) | (with_reducible refine Below.drewN ?_) | ((with_reducible refine Below.al ?_ ?_); · first | omega | (simp; done) | (simp; omega)) | ((with_reducible refine Below.sc ?_ ?_); · first | omega | (simp; done) | (simp; omega)) | ((with_reducible refine Below.thru hb ?_ ?_); · first | omega | (simp; done) | (simp; omega))))⟩
                case measure => simp [intOf]; omega
          · obtain rfl : n = s.size := by omega
            cases b with
            | false =>
              have HE := Lib.hid (show prodRes (mat3 s) = .tuple #[mv ⟨0, 0, 0, 0⟩, .int .i64 3] by
                obtain ⟨-, ⟨h, -⟩ | ⟨-, -, h⟩⟩ := hso.out
                · cases h
                · rw [h]; rfl)
              go_wp2
              refine ret_at (v := .tuple #[mv ⟨0, 0, 0, 0⟩, .int .i64 3]) (fun w' => Blk w' (w.heap.size) 25 (mcs ⟨0, 0, 0, 0⟩)) (by repeat (first | (with_reducible assumption) | ((with_reducible refine Blk.new ?_); · first | omega | (simp; done) | (simp; omega)) | (with_reducible apply Blk.set4) | (with_reducible apply Blk.set3) | (with_reducible apply Blk.set2) | ((with_reducible refine Blk.put ?_ ?_); · first | omega | (simp; omega)) | (with_reducible refine Blk.old ?_) | (with_reducible refine Blk.drew ?_) | (with_reducible refine Blk.drewN ?_) | ((with_reducible refine Blk.below hb ?_ ?_); · first | omega | (simp; done) | (simp; omega)))) (fun w' hB => by have q := hB.m; simp [results, Try.results10, go_sem, q]) rfl ?_
              exact HG.out _ _ (by repeat (first | (with_reducible exact Below.refl _ _) | (with_reducible assumption) | (with_reducible refine Below.drew ?_) | (with_reducible refine Below.drewN ?_) | ((with_reducible refine Below.al ?_ ?_); · first | omega | (simp; done) | (simp; omega)) | ((with_reducible refine Below.sc ?_ ?_); · first | omega | (simp; done) | (simp; omega)) | ((with_reducible refine Below.thru hb ?_ ?_); · first | omega | (simp; done) | (simp; omega)))) (.inl ⟨HFR.out, by rw [HE.out]⟩)
            | true =>
              have HE := Lib.hid (show prodRes (mat3 s) = .tuple #[mv m, .int .i64 0] by
                obtain ⟨-, ⟨-, h⟩ | ⟨h, -⟩⟩ := hso.out
                · unfold mat3; rw [h]; rfl
                · cases h)
              go_wp2
              refine ret_at (v := .tuple #[mv m, .int .i64 0]) (fun w' => Blk w' (w.heap.size) 25 (mcs m)) (by repeat (first | (with_reducible assumption) | ((with_reducible refine Blk.new ?_); · first | omega | (simp; done) | (simp; omega)) | (with_reducible apply Blk.set4) | (with_reducible apply Blk.set3) | (with_reducible apply Blk.set2) | ((with_reducible refine Blk.put ?_ ?_); · first | omega | (simp; omega)) | (with_reducible refine Blk.old ?_) | (with_reducible refine Blk.drew ?_) | (with_reducible refine Blk.drewN ?_) | ((with_reducible refine Blk.below hb ?_ ?_); · first | omega | (simp; done) | (simp; omega)))) (fun w' hB => by have q := hB.m; simp [results, Try.results10, go_sem, q]) rfl ?_
              exact HG.out _ _ (by repeat (first | (with_reducible exact Below.refl _ _) | (with_reducible assumption) | (with_reducible refine Below.drew ?_) | (with_reducible refine Below.drewN ?_) | ((with_reducible refine Below.al ?_ ?_); · first | omega | (simp; done) | (simp; omega)) | ((with_reducible refine Below.sc ?_ ?_); · first | omega | (simp; done) | (simp; omega)) | ((with_reducible refine Below.thru hb ?_ ?_); · first | omega | (simp; done) | (simp; omega)))) (.inl ⟨HFR.out, by rw [HE.out]⟩)
  · have HN := Lib.hid (show ¬ Free3 s from fun h => hz h.2.2)
    go_enter Try.func10, Try.ntmps10
    go_wp2
    refine ret_at (v := .tuple #[mv ⟨0, 0, 0, 0⟩, .int .i64 2]) (fun w' => Blk w' (w.heap.size) 25 (mcs ⟨0, 0, 0, 0⟩)) (by repeat (first | (with_reducible assumption) | ((with_reducible refine Blk.new ?_); · first | omega | (simp; done) | (simp; omega)) | (with_reducible apply Blk.set4) | (with_reducible apply Blk.set3) | (with_reducible apply Blk.set2) | ((with_reducible refine Blk.put ?_ ?_); · first | omega | (simp; omega)) | (with_reducible refine Blk.old ?_) | (with_reducible refine Blk.drew ?_) | (with_reducible refine Blk.drewN ?_) | ((with_reducible refine Blk.below hb ?_ ?_); · first | omega | (simp; done) | (simp; omega)))) (fun w' hB => by have q := hB.m; simp [results, Try.results10, go_sem, q]) rfl ?_
    exact HG.out _ _ (by repeat (first | (with_reducible exact Below.refl _ _) | (with_reducible assumption) | (with_reducible refine Below.drew ?_) | (with_reducible refine Below.drewN ?_) | ((with_reducible refine Below.al ?_ ?_); · first | omega | (simp; done) | (simp; omega)) | ((with_reducible refine Below.sc ?_ ?_); · first | omega | (simp; done) | (simp; omega)) | ((with_reducible refine Below.thru hb ?_ ?_); · first | omega | (simp; done) | (simp; omega)))) (.inr ⟨HN.out, rfl⟩)
set_option maxRecDepth 8000 in
set_option maxHeartbeats 2000000 in
theorem signBetween_any (m n : M) (w : World) (hm : m.ok = true) (hn : n.ok = true) (h : Sg m n) : Calls Try.prog 11 #[mv m, mv n] w fun e w' => ∃ k : Int, e = .returned (.tuple #[.int .i64 k, .int .i64 0]) ∧ k ≠ 0 ∧ Below w.heap.size w w' := by
  have HO := Lib.hid (show ([m, n].all M.ok) = true by simp [hm, hn])
  have HE1 := fun w' : World => run_equalInM m n w'
  have HE2 := fun w' : World => run_equalInM m n.neg w'
  have HNG := Lib.hid (fun w' => negative_any n w' (M.ok_ents hn))
  have HS := Lib.hid h
  clear hm hn h
  go_enter Try.func11, Try.ntmps11
  go_wp2_with fail
  refine (areMatrices_any (w.heap.size + 1 + 1) 0 2 [m, n] _ (by simp) (MRow.of2 (E := 25) (by repeat (first | (with_reducible assumption) | ((with_reducible refine Blk.new ?_); · first | omega | (simp; done) | (simp; omega)) | (with_reducible apply Blk.set4) | (with_reducible apply Blk.set3) | (with_reducible apply Blk.set2) | ((with_reducible refine Blk.put ?_ ?_); · first | omega | (simp; omega)) | (with_reducible refine Blk.old ?_) | (with_reducible refine Blk.drew ?_) | (with_reducible refine Blk.drewN ?_) | ((with_reducible refine Blk.below hb ?_ ?_); · first | omega | (simp; done) | (simp; omega)))))).mono ?_
  rintro e w1 ⟨rfl, hb⟩
  rw [HO.out]
  have C0 : Blk w1 w.heap.size 25 (mcs m) := (by repeat (first | (with_reducible assumption) | ((with_reducible refine Blk.new ?_); · first | omega | (simp; done) | (simp; omega)) | (with_reducible apply Blk.set4) | (with_reducible apply Blk.set3) | (with_reducible apply Blk.set2) | ((with_reducible refine Blk.put ?_ ?_); · first | omega | (simp; omega)) | (with_reducible refine Blk.old ?_) | (with_reducible refine Blk.drew ?_) | (with_reducible refine Blk.drewN ?_) | ((with_reducible refine Blk.below hb ?_ ?_); · first | omega | (simp; done) | (simp; omega))))
  have C1 : Blk w1 (w.heap.size + 1) 25 (mcs n) := (by repeat (first | (with_reducible assumption) | ((with_reducible refine Blk.new ?_); · first | omega | (simp; done) | (simp; omega)) | (with_reducible apply Blk.set4) | (with_reducible apply Blk.set3) | (with_reducible apply Blk.set2) | ((with_reducible refine Blk.put ?_ ?_); · first | omega | (simp; omega)) | (with_reducible refine Blk.old ?_) | (with_reducible refine Blk.drew ?_) | (with_reducible refine Blk.drewN ?_) | ((with_reducible refine Blk.below hb ?_ ?_); · first | omega | (simp; done) | (simp; omega))))
  have k1 : Below w.heap.size w w1 := (by repeat (first | (with_reducible exact Below.refl _ _) | (with_reducible assumption) | (with_reducible refine Below.drew ?_) | (with_reducible refine Below.drewN ?_) | ((with_reducible refine Below.al ?_ ?_); · first | omega | (simp; done) | (simp; omega)) | ((with_reducible refine Below.sc ?_ ?_); · first | omega | (simp; done) | (simp; omega)) | ((with_reducible refine Below.thru hb ?_ ?_); · first | omega | (simp; done) | (simp; omega))))
  have q0 := C0.m
  have q1 := C1.m
  have s1 := k1.size
  have g0 := C0.later4
  have g1 := C1.later4
  have l0 := C0.lt
  have l1 := C1.lt
  clear hb
  by_cases he : m = n
  · have hd : decide (m = n) = true := decide_eq_true he
    clear he
    go_wp2
    go_ret2
    exact ⟨1, rfl, by decide, k1⟩
  · have hd : decide (m = n) = false := decide_eq_false he
    have hd2 : decide (m = n.neg) = true := by
      rcases HS.out with h | h
      · exact absurd h he
      · exact decide_eq_true h
    rw [hd] at HE1
    rw [hd2] at HE2
    clear he
    go_wp2_with fail
    refine wp_region_calm (by kernel_rfl) (by kernel_rfl) ?_
    repeat (go_big_quiet_step (first | (go_at_call 27; with_reducible exact Calls.calm ((HNG.out _)))))
    refine wpQuiet_nil ?_
    rintro w2 ⟨⟨_, hb⟩, rfl⟩
    have kw2 : Below w.heap.size w w2 := (by repeat (first | (with_reducible exact Below.refl _ _) | (with_reducible assumption) | (with_reducible refine Below.drew ?_) | (with_reducible refine Below.drewN ?_) | ((with_reducible refine Below.al ?_ ?_); · first | omega | (simp; done) | (simp; omega)) | ((with_reducible refine Below.sc ?_ ?_); · first | omega | (simp; done) | (simp; omega)) | ((with_reducible refine Below.thru hb ?_ ?_); · first | omega | (simp; done) | (simp; omega))))
    have sw2 := kw2.size
    clear hb
    clear g0 g1
    go_wp2
    go_ret2
    exact ⟨-1, rfl, by decide, kw2⟩

end Go.Proofs.Ytcapmljnhflopaa
