/- The program's list of triples. -/
import Derived.Test.YtbmkpcenjjdflaaTbP
import Derived.Test.YtbmkpcenjjdflaaTso
import Derived.Test.YtbmkpcenjjdflaaOrdm
namespace Go.Proofs.Ytbmkpcenjjdflaa
open Go.RowKit
set_option linter.unusedSimpArgs false

theorem putL_mem {n : Int} {A : List T3} {t s : T3} : s ∈ putL n A t ↔ s ∈ A ∨ (s = t ∧ t.z ≤ n) := by
  unfold putL
  by_cases h : t.z ≤ n
  · by_cases hm : t ∈ A
    · rw [if_neg (fun h2 => h2.2 hm)]
      constructor
      · exact .inl
      · rintro (h2 | ⟨rfl, _⟩)
        · exact h2
        · exact hm
    · rw [if_pos ⟨h, hm⟩, List.mem_append, List.mem_singleton]
      simp [h]
  · rw [if_neg (fun h2 => h h2.1)]
    simp [h]
theorem putL_nodup {n : Int} {A : List T3} {t : T3} (h : A.Nodup) : (putL n A t).Nodup := by
  unfold putL
  split
  · rename_i h2
    rw [List.nodup_append]
    exact ⟨h, by simp, fun a ha b hb e => by rw [List.mem_singleton] at hb; subst hb; subst e; exact h2.2 ha⟩
  · exact h
theorem putL_len {n : Int} {A : List T3} {t : T3} : A.length ≤ (putL n A t).length := by
  unfold putL
  split
  · simp
  · exact Nat.le_refl _
theorem putL_at {n : Int} {A : List T3} {t : T3} {j : Nat} (h : j < A.length) : (putL n A t)[j]'(Nat.lt_of_lt_of_le h putL_len) = A[j] := by
  unfold putL
  split
  · exact List.getElem_append_left h
  · rfl
/-- A list on its way: triples of at most n, each once; the neighbours of the first k have been put. -/
structure Clo (n : Int) (A : List T3) (k : Nat) : Prop where
  mem : ∀ t ∈ A, t ∈ trL ∧ t.z ≤ n
  nd : A.Nodup
  one : 1 ≤ n → (⟨1, 1, 1⟩ : T3) ∈ A
  cl : ∀ j (h : j < A.length), j < k → ((A[j].nb 0).z ≤ n → A[j].nb 0 ∈ A) ∧ ((A[j].nb 1).z ≤ n → A[j].nb 1 ∈ A)
  le : k ≤ A.length
theorem nodup_sub {A B : List T3} (hA : A.Nodup) (h : ∀ t ∈ A, t ∈ B) : A.length ≤ B.length := by
  induction A generalizing B with
  | nil => exact Nat.zero_le _
  | cons a A ih =>
    obtain ⟨h1, h2⟩ := List.nodup_cons.1 hA
    have hb := h a List.mem_cons_self
    have := ih h2 (B := B.erase a) fun t ht => (List.mem_erase_of_ne (fun e => h1 (by rw [← e]; exact ht))).2 (h t (List.mem_cons_of_mem _ ht))
    rw [List.length_erase_of_mem hb] at this
    have h3 := List.length_pos_of_mem hb
    rw [List.length_cons]
    omega
theorem Clo.small {n : Int} {A : List T3} {k : Nat} (h : Clo n A k) : ∀ s ∈ A, s.small := fun s hs => trL_small (h.mem s hs).1
theorem Clo.len {n : Int} {A : List T3} {k : Nat} (h : Clo n A k) : A.length ≤ 40 := nodup_sub h.nd (B := trL) fun t ht => (h.mem t ht).1
theorem Clo.start (n : Int) : Clo n (putL n [] ⟨1, 1, 1⟩) 0 := by
  refine ⟨fun t ht => ?_, putL_nodup List.nodup_nil, fun h => putL_mem.2 (.inr ⟨rfl, h⟩), fun j _ h => absurd h (by omega), Nat.zero_le _⟩
  rcases putL_mem.1 ht with h | ⟨rfl, h⟩
  · cases h
  · exact ⟨by simp [trL], h⟩
theorem Clo.step {n : Int} {A : List T3} {k : Nat} (hn : n ≤ trM) (h : Clo n A k) (hk : k < A.length) : Clo n (putL n (putL n A (A[k].nb 0)) (A[k].nb 1)) (k + 1) := by
  have hm := (h.mem A[k] (List.getElem_mem hk)).1
  have hnb := trL_nb hm
  refine ⟨fun t ht => ?_, putL_nodup (putL_nodup h.nd), fun h1 => putL_mem.2 (.inl (putL_mem.2 (.inl (h.one h1)))), fun j hj hjk => ?_, ?_⟩
  · rcases putL_mem.1 ht with h1 | ⟨rfl, h1⟩
    · rcases putL_mem.1 h1 with h2 | ⟨rfl, h2⟩
      · exact h.mem t h2
      · exact ⟨hnb.1 (by omega), h2⟩
    · exact ⟨hnb.2 (by omega), h1⟩
  · have hj2 : j < A.length := by omega
    have e : (putL n (putL n A (A[k].nb 0)) (A[k].nb 1))[j] = A[j] := by
      rw [putL_at (Nat.lt_of_lt_of_le hj2 putL_len), putL_at hj2]
    rw [e]
    by_cases hjk2 : j < k
    · have := h.cl j hj2 hjk2
      exact ⟨fun h1 => putL_mem.2 (.inl (putL_mem.2 (.inl (this.1 h1)))), fun h1 => putL_mem.2 (.inl (putL_mem.2 (.inl (this.2 h1))))⟩
    · have : j = k := by omega
      subst this
      exact ⟨fun h1 => putL_mem.2 (.inl (putL_mem.2 (.inr ⟨rfl, h1⟩))), fun h1 => putL_mem.2 (.inr ⟨rfl, h1⟩)⟩
  · exact Nat.le_trans hk (Nat.le_trans putL_len putL_len)
theorem Clo.done {n : Int} {A : List T3} {k : Nat} (h : Clo n A k) (hk : ¬ k < A.length) {ys : List T3} (hp : ys.Perm A) (hs : ys.Pairwise fun a b => a.z ≤ b.z) : ys = trB n := by
  have hm : ∀ t, t ∈ ys ↔ t ∈ trL ∧ t.z ≤ n := by
    intro t
    rw [hp.mem_iff]
    constructor
    · exact h.mem t
    · rintro ⟨h1, h2⟩
      refine clo_all h.one (fun t ht => ?_) t h1 h2
      obtain ⟨j, hj, rfl⟩ := List.getElem_of_mem ht
      exact h.cl j hj (by omega)
  exact tr_uniq (strict_of hs (hp.nodup_iff.2 h.nd) fun t ht => ((hm t).1 ht).1) hm

set_option maxRecDepth 8000 in
set_option maxHeartbeats 2000000 in
theorem triplesBelow_any (n : Int) (w : World) (hm : n ≤ trM) :
    Calls Try.prog 32 #[.int .i64 n] w (GivesT (trB n) w) := by
  have hmm := @run_makeMap Try.prog
  have hmf : ∀ (fn : Fn) (first cap : Array Value) (w : World), (Instr.makeFunc fn first cap).run Try.prog w = .ok (.func fn first cap) w := fun _ _ _ _ => rfl
  obtain ⟨GF, hGF⟩ : ∃ GF, GivesT (trB n) w = GF := ⟨_, rfl⟩
  rw [hGF]
  have HGF := Lib.hid hGF
  have HM := Lib.hid hm
  clear hGF hm
  go_enter Try.func32, Try.ntmps32
  go_wp2_with fail
  have H0 := Lib.hid (show PutS w (((((w.alloc (Obj.cells #[Value.int IntKind.i64 n] 2)).alloc (Obj.cells #[] 36)).alloc (Obj.map #[] 0)).alloc (Obj.cells #[Value.slice (some ⟨w.heap.size + 1, 0, none⟩) 0 0] 22)).alloc (Obj.cells #[Value.map (some (w.heap.size + 1 + 1))] 60)) n [] (.slice (some ⟨w.heap.size + 1, 0, none⟩) 0 0) 0 from by
    refine ⟨(by repeat (first | (with_reducible assumption) | ((with_reducible refine Blk.new ?_); · first | omega | (simp; done) | (simp; omega)) | (with_reducible apply Blk.set4) | (with_reducible apply Blk.set3) | (with_reducible apply Blk.set2) | ((with_reducible refine Blk.put ?_ ?_); · first | omega | (simp; omega)) | (with_reducible refine Blk.old ?_) | (with_reducible refine Blk.drew ?_) | (with_reducible refine Blk.drewN ?_) | ((with_reducible refine Blk.below hb ?_ ?_); · first | omega | (simp; done) | (simp; omega)))), (by repeat (first | (with_reducible assumption) | ((with_reducible refine Blk.new ?_); · first | omega | (simp; done) | (simp; omega)) | (with_reducible apply Blk.set4) | (with_reducible apply Blk.set3) | (with_reducible apply Blk.set2) | ((with_reducible refine Blk.put ?_ ?_); · first | omega | (simp; omega)) | (with_reducible refine Blk.old ?_) | (with_reducible refine Blk.drew ?_) | (with_reducible refine Blk.drewN ?_) | ((with_reducible refine Blk.below hb ?_ ?_); · first | omega | (simp; done) | (simp; omega)))), (by repeat (first | (with_reducible assumption) | ((with_reducible refine Blk.new ?_); · first | omega | (simp; done) | (simp; omega)) | (with_reducible apply Blk.set4) | (with_reducible apply Blk.set3) | (with_reducible apply Blk.set2) | ((with_reducible refine Blk.put ?_ ?_); · first | omega | (simp; omega)) | (with_reducible refine Blk.old ?_) | (with_reducible refine Blk.drew ?_) | (with_reducible refine Blk.drewN ?_) | ((with_reducible refine Blk.below hb ?_ ?_); · first | omega | (simp; done) | (simp; omega)))), OwnK.of_blk (xs := []) (by repeat (first | (with_reducible assumption) | ((with_reducible refine Blk.new ?_); · first | omega | (simp; done) | (simp; omega)) | (with_reducible apply Blk.set4) | (with_reducible apply Blk.set3) | (with_reducible apply Blk.set2) | ((with_reducible refine Blk.put ?_ ?_); · first | omega | (simp; omega)) | (with_reducible refine Blk.old ?_) | (with_reducible refine Blk.drew ?_) | (with_reducible refine Blk.drewN ?_) | ((with_reducible refine Blk.below hb ?_ ?_); · first | omega | (simp; done) | (simp; omega)))) (by omega) rfl (by simp [maxLen]), by simp, ?_, (by repeat (first | (with_reducible exact Below.refl _ _) | (with_reducible assumption) | (with_reducible refine Below.drew ?_) | (with_reducible refine Below.drewN ?_) | ((with_reducible refine Below.al ?_ ?_); · first | omega | (simp; done) | (simp; omega)) | ((with_reducible refine Below.sc ?_ ?_); · first | omega | (simp; done) | (simp; omega)) | ((with_reducible refine Below.thru hb ?_ ?_); · first | omega | (simp; done) | (simp; omega))))⟩
    have := (World.ownsMap_made ((w.alloc (Obj.cells #[Value.int IntKind.i64 n] 2)).alloc (Obj.cells #[] 36)) Try.prog 36 (plainElem (H := Unit) Try.prog 4))
    rw [show ((w.alloc (Obj.cells #[Value.int IntKind.i64 n] 2)).alloc (Obj.cells #[] 36)).heap.size = w.heap.size + 1 + 1 by simp] at this
    exact (this.alloc _).alloc _)
  refine (put_any w _ n [] _ 0 ⟨1, 1, 1⟩ H0.out (fun _ => trL_small (t := ⟨1, 1, 1⟩) (by simp [trL])) (by simp) (by omega) (by simp)).mono ?_
  rintro e w1 ⟨rfl, v1, S1⟩
  have HS := Lib.hid S1
  have HC := Lib.hid (Clo.start n)
  generalize putL n [] ⟨1, 1, 1⟩ = A1 at *
  clear H0 S1
  go_wp2_with fail
  go_loopw [6] (fun i wr => ∃ (k c : Nat) (A : List T3) (v : Value), i = .int .i64 k ∧ PutS w wr n A v c ∧ Hid (Clo n A k) ∧ c ≤ 2 * k + 1) (fun i _ => 40 - (intOf i).toNat)
  case atStart => exact ⟨0, 1, A1, v1, rfl, HS.out, HC, by omega⟩
  case round =>
    clear HC HS
    obtain ⟨k, c, A, v, rfl, S2, HC, hc⟩ := hrel
    have hlen := HC.out.len
    have hle := HC.out.le
    rcases S2.own.form with ⟨h1, _⟩ | ⟨gx, cx, h1, hgx, hgx2, -⟩
    · exact absurd h1 S2.nn
    subst h1
    have b1 := S2.bo.at (i := 0) rfl
    by_cases hlt : k < A.length
    · have r1 := OwnT.rd S2.own hlt
      have HSM := Lib.hid (HC.out.small A[k] (List.getElem_mem hlt))
      have HCN := Lib.hid (HC.out.step HM.out hlt)
      have HSA := Lib.hid HC.out.small
      have HMM := Lib.hid (HC.out.mem A[k] (List.getElem_mem hlt)).1
      have HAT := Lib.hid (show ∀ t, (putL n A t)[k]'(Nat.lt_of_lt_of_le hlt putL_len) = A[k] from fun t => putL_at hlt)
      have HPL := Lib.hid (show ∀ t, k < (putL n A t).length from fun t => Nat.lt_of_lt_of_le hlt putL_len)
      have HPS := Lib.hid (show ∀ t, (t.z ≤ n → t.small) → ∀ s ∈ putL n A t, s.small from fun t ht s hs => by
        rcases putL_mem.1 hs with h | ⟨rfl, h⟩
        · exact HC.out.small s h
        · exact ht h)
      have HPN := Lib.hid (show ∀ t, (putL n A t).length ≤ A.length + 1 from fun t => by
        unfold putL
        split
        · simp
        · omega)
      have HN0 := Lib.hid (fun w' => neighbour_any A[k] 0 w' HSM.out (by omega))
      have HN1 := Lib.hid (fun w' => neighbour_any A[k] 1 w' HSM.out (by omega))
      have HT0 := Lib.hid (show (A[k].nb 0).z ≤ n → (A[k].nb 0).small from fun h => trL_small ((trL_nb HMM.out).1 (by have := HM.out; omega)))
      have HT1 := Lib.hid (show (A[k].nb 1).z ≤ n → (A[k].nb 1).small from fun h => trL_small ((trL_nb HMM.out).2 (by have := HM.out; omega)))
      obtain ⟨x, hx⟩ : ∃ x, A[k] = x := ⟨_, rfl⟩
      rw [hx] at r1 HSM HCN HMM HAT HN0 HN1 HT0 HT1
      clear hx
      generalize x.nb 0 = y0 at *
      generalize x.nb 1 = y1 at *
      have i0 : (0 : Int) ≤ (k : Int) := by omega
      have i1 : (k : Int) < (A.length : Int) := by omega
      have HS2 := Lib.hid S2
      clear S2
      go_wp2_with fail
      refine (HN0.out _).mono ?_
      rintro e w2 ⟨rfl, k2⟩
      have S3 := HS2.out.below k2
      go_wp2_with fail
      refine (put_any w w2 n A _ c y0 S3 HT0.out HSA.out (by omega) (by omega)).mono ?_
      rintro e w3 ⟨rfl, v3, S4⟩
      have hl4 := HPL.out y0
      have hlen4 := HPN.out y0
      have hat4 := HAT.out y0
      have hsm4 := HPS.out y0 HT0.out
      have HS4A := Lib.hid hsm4
      rcases S4.own.form with ⟨h1, _⟩ | ⟨gy, cy, h1, hgy, hgy2, -⟩
      · exact absurd h1 S4.nn
      subst h1
      have b2 := S4.bo.at (i := 0) rfl
      have r2 := OwnT.rd S4.own hl4
      rw [hat4] at r2
      clear hat4 hsm4 k2 S3 r1 b1 HS2
      generalize putL n A y0 = A4 at *
      have i2 : (k : Int) < (A4.length : Int) := by omega
      have HS4 := Lib.hid S4
      clear S4
      go_wp2_with fail
      refine (HN1.out _).mono ?_
      rintro e w4 ⟨rfl, k4⟩
      have S5 := HS4.out.below k4
      go_wp2_with fail
      refine (put_any w w4 n A4 _ (c + 1) y1 S5 HT1.out HS4A.out (by omega) (by omega)).mono ?_
      rintro e w5 ⟨rfl, v5, S6⟩
      have HS6 := Lib.hid S6
      clear S6 S5 k4 r2 b2 HS4
      go_wp2
      go_roundw
      case rel => exact ⟨k + 1, c + 1 + 1, _, v5, by go_num, HS6.out, HCN, by omega⟩
      case measure => first | (simp [intOf]; done) | (simp [intOf]; omega)
    · have HD := Lib.hid (fun ys hp hs => HC.out.done hlt (ys := ys) hp hs)
      have HSO := Lib.hid (fun w' h => sortT_any (.slice (some ⟨gx, 0, none⟩) A.length cx) A w.heap.size w' h (by simp) (by omega))
      have HS2 := Lib.hid S2
      have i1 : ¬ ((k : Int) < (A.length : Int)) := by omega
      clear S2
      go_wp2_with fail
      refine (HSO.out _ HS2.out.own).mono ?_
      rintro e w2 ⟨rfl, ys, hp, hs, O2, hg⟩
      have HE := Lib.hid (HD.out ys hp hs)
      have bo2 : Blk w2 (w.heap.size + 1 + 1 + 1) 22 #[.slice (some ⟨gx, 0, none⟩) A.length cx] := Blk.grownN hg (HS2.out.own.ne_blk HS2.out.bo (by decide)) HS2.out.bo
      have k2 : Below w.heap.size w w2 := Below.grownK hg HS2.out.own (Nat.le_refl _) HS2.out.kw.size HS2.out.kw
      have b2 := bo2.at (i := 0) rfl
      have HO2 := Lib.hid O2
      clear O2 hp hs hg bo2
      go_wp2
      rw [← HGF.out]
      exact ⟨_, rfl, by rw [← HE.out]; exact HO2.out, by simp, k2⟩

end Go.Proofs.Ytbmkpcenjjdflaa
