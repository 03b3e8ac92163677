/- Cosets moved by a matrix: the program's walk. -/
import Derived.Test.YtamkbgodenkboaaCos
namespace Go.Proofs.Ytamkbgodenkboaa
open Go.RowKit
set_option linter.unusedSimpArgs false

/-- The coset to which a matrix moves a pair. -/
def mv1 (n : Nat) (m : M) (x : Nat × Nat) : Int := idxP (lineL n) (nrmC n ((x.1 : Int) * m.a + (x.2 : Int) * m.c) ((x.1 : Int) * m.b + (x.2 : Int) * m.d))
def movL (n : Nat) (m : M) : List Int := (lineL n).map (mv1 n m)
/-- The numbers in a slice of the call's own. -/
def GivesI (xs : List Int) (w : World) (e : Ending) (w' : World) : Prop := ∃ v, e = .returned v ∧ Own w' w.heap.size v xs ∧ Below w.heap.size w w'
theorem line_lt {n : Nat} {k : Nat} (h : k < (lineL n).length) : (lineL n)[k].1 < n ∧ (lineL n)[k].2 < n := by
  have := lnTo_mem.1 (List.getElem_mem h)
  exact ⟨this.1, this.2.1⟩
theorem mul60 {x : Nat} {a : Int} (hx : x < 60) (ha : -1000000000 ≤ a ∧ a ≤ 1000000000) : -60000000000 ≤ (x : Int) * a ∧ (x : Int) * a ≤ 60000000000 := by
  have := mul_bd (a := (x : Int)) (b := a) (A := 60) (B := 1000000000) (by omega) (by omega) ha.1 ha.2
  omega

set_option maxRecDepth 8000 in
set_option maxHeartbeats 2000000 in
theorem moved_any (n : Nat) (m : M) (w : World) (hn : 1 ≤ n ∧ n ≤ 60) (hm : m.ents = true) :
    Calls Try.prog 88 #[.int .i64 (n : Int), mv m] w (GivesI (movL n m) w) := by
  have HINF := Lib.hid (info_parts infoI)
  have HM := M.ents_bd hm
  have hl : (lineL n).length ≤ 3600 := by
    have := lnTo_len n n
    have h2 : n * n ≤ 60 * 60 := Nat.mul_le_mul hn.2 hn.2
    unfold lineL
    omega
  go_enter Try.func88, Try.ntmps88
  go_wp2_with fail
  refine (line_any n _ hn).mono ?_
  rintro e w1 ⟨v, rfl, O1, hb⟩
  have OP1 : OwnP w1 w.heap.size v (lineL n) := OwnK.mono (by simp; omega) O1
  have B1 : Blk w1 w.heap.size 58 (mcs m) := (by repeat (first | (with_reducible assumption) | ((with_reducible refine Blk.new ?_); · first | omega | (simp; done) | (simp; omega)) | (with_reducible apply Blk.set4) | (with_reducible apply Blk.set3) | (with_reducible apply Blk.set2) | ((with_reducible refine Blk.put ?_ ?_); · first | omega | (simp; omega)) | (with_reducible refine Blk.old ?_) | (with_reducible refine Blk.drew ?_) | (with_reducible refine Blk.drewN ?_) | ((with_reducible refine Blk.below hb ?_ ?_); · first | omega | (simp; done) | (simp; omega))))
  have O2 : Own w1 w.heap.size (.slice (some ⟨w.heap.size + 1, 0, none⟩) 0 0) [] := Own.below hb (Own.of_blk (xs := []) (Blk.new (by simp)) (by omega) rfl (by simp [maxLen]))
  have k1 : Below w.heap.size w w1 := (by repeat (first | (with_reducible exact Below.refl _ _) | (with_reducible assumption) | (with_reducible refine Below.drew ?_) | (with_reducible refine Below.drewN ?_) | ((with_reducible refine Below.al ?_ ?_); · first | omega | (simp; done) | (simp; omega)) | ((with_reducible refine Below.sc ?_ ?_); · first | omega | (simp; done) | (simp; omega)) | ((with_reducible refine Below.thru hb ?_ ?_); · first | omega | (simp; done) | (simp; omega))))
  obtain ⟨vo, vc, rfl⟩ := O1.len
  clear hb O1
  go_wp2_with fail
  go_loopw [5, 14] (fun v kk wr => ∃ k : Nat, k ≤ (lineL n).length ∧ kk = .int .i64 k ∧ Own wr w.heap.size v (((lineL n).take k).map (mv1 n m)) ∧ Blk wr w.heap.size 58 (mcs m) ∧ OwnP wr w.heap.size (.slice vo (lineL n).length vc) (lineL n) ∧ Below w.heap.size w wr) (fun _ kk _ => (lineL n).length - (intOf kk).toNat)
  case atStart => exact ⟨0, Nat.zero_le _, rfl, O2, B1, OP1, k1⟩
  case round =>
    clear O2 B1 OP1 k1
    obtain ⟨k, hk, rfl, O, B, OP, kwr⟩ := hrel
    obtain ⟨ro, rc, rfl, -⟩ := O.slIn.form
    rw [List.length_map, List.length_take, Nat.min_eq_left hk] at *
    have swr := kwr.size
    have lB := B.lt
    by_cases hlt : k < (lineL n).length
    · obtain ⟨g, cap, hvg, hg1, hg2⟩ : ∃ g cap, Value.slice vo (lineL n).length vc = .slice (some ⟨g, 0, none⟩) (lineL n).length cap ∧ w.heap.size ≤ g ∧ g < wr.heap.size := by
        rcases OP.form with ⟨h1, h2⟩ | ⟨g, cap, h1, h2, h3, -⟩
        · rw [h2] at hlt; simp at hlt
        · exact ⟨g, cap, h1, h2, h3⟩
      simp only [Value.slice.injEq, true_and] at hvg
      obtain ⟨rfl, rfl⟩ := hvg
      have HX := Lib.hid (show ((lineL n).take (k + 1)).map (mv1 n m) = ((lineL n).take k).map (mv1 n m) ++ [mv1 n m (lineL n)[k]] by rw [List.take_succ_eq_append_getElem hlt, List.map_append]; rfl)
      obtain ⟨c1, c2⟩ := OwnP.at2 OP hlt
      have hx := line_lt hlt
      have HV := Lib.hid (show mv1 n m (lineL n)[k] = idxP (lineL n) (nrmC n (((lineL n)[k].1 : Int) * m.a + ((lineL n)[k].2 : Int) * m.c) (((lineL n)[k].1 : Int) * m.b + ((lineL n)[k].2 : Int) * m.d)) from rfl)
      have i0 : (0 : Int) ≤ (k : Int) := by omega
      have i1 : (k : Int) < ((lineL n).length : Int) := by omega
      generalize (lineL n)[k] = x at *
      obtain ⟨x1, x2⟩ := x
      simp only at c1 c2 hx HV
      have p1 := mul60 (x := x1) (a := m.a) (by omega) HM.1
      have p2 := mul60 (x := x2) (a := m.c) (by omega) HM.2.2.1
      have p3 := mul60 (x := x1) (a := m.b) (by omega) HM.2.1
      have p4 := mul60 (x := x2) (a := m.d) (by omega) HM.2.2.2
      obtain ⟨q1, e1⟩ : ∃ q, (x1 : Int) * m.a = q := ⟨_, rfl⟩
      rw [e1] at HV p1
      have w1 : wrap64 ((x1 : Int) * m.a) = q1 := by rw [e1]; unfold wrap64; omega
      clear e1
      obtain ⟨q2, e2⟩ : ∃ q, (x2 : Int) * m.c = q := ⟨_, rfl⟩
      rw [e2] at HV p2
      have w2 : wrap64 ((x2 : Int) * m.c) = q2 := by rw [e2]; unfold wrap64; omega
      clear e2
      obtain ⟨q3, e3⟩ : ∃ q, (x1 : Int) * m.b = q := ⟨_, rfl⟩
      rw [e3] at HV p3
      have w3 : wrap64 ((x1 : Int) * m.b) = q3 := by rw [e3]; unfold wrap64; omega
      clear e3
      obtain ⟨q4, e4⟩ : ∃ q, (x2 : Int) * m.d = q := ⟨_, rfl⟩
      rw [e4] at HV p4
      have w4 : wrap64 ((x2 : Int) * m.d) = q4 := by rw [e4]; unfold wrap64; omega
      clear e4
      have hm4 := B.m
      obtain ⟨ma, mb, mc, md⟩ := hm4
      go_wp2_with fail
      refine (coset_any n _ _ (lineL n) _ w.heap.size _ (OwnK.below (by first | (with_reducible exact (by (repeat (first | (with_reducible exact Below.refl _ _) | (with_reducible assumption) | (with_reducible refine Below.drew ?_) | (with_reducible refine Below.drewN ?_) | ((with_reducible refine Below.al ?_ ?_); · first | omega | (simp; done) | (simp; omega)) | ((with_reducible refine Below.sc ?_ ?_); · first | omega | (simp; done) | (simp; omega)) | ((with_reducible refine Below.thru hb ?_ ?_); · first | omega | (simp; done) | (simp; omega)))); first | done | fail))) OP) (by omega) hn).mono ?_
      rintro e w5 ⟨rfl, hb⟩
      have kk : Below wr.heap.size wr w5 := (by repeat (first | (with_reducible exact Below.refl _ _) | (with_reducible assumption) | (with_reducible refine Below.drew ?_) | (with_reducible refine Below.drewN ?_) | ((with_reducible refine Below.al ?_ ?_); · first | omega | (simp; done) | (simp; omega)) | ((with_reducible refine Below.sc ?_ ?_); · first | omega | (simp; done) | (simp; omega)) | ((with_reducible refine Below.thru hb ?_ ?_); · first | omega | (simp; done) | (simp; omega))))
      have B5 : Blk w5 w.heap.size 58 (mcs m) := B.below kk lB
      have OP5 : OwnP w5 w.heap.size (.slice (some ⟨g, 0, none⟩) (lineL n).length vc) (lineL n) := OwnK.below kk OP
      have O5 := O.below kk
      have k5 : Below w.heap.size w w5 := Below.thru kk (by omega) kwr
      have s5 := k5.size
      rw [← HV.out]
      clear hb kk B OP O kwr ma mb mc md
      obtain ⟨jI, hinf⟩ := HINF.out
      replace hinf := Lib.hid hinf
      generalize mv1 n m (x1, x2) = r at *
      go_wp2_with (at_builtin; refine wpList_app encI rfl _ _ 22 2 8 rfl Try.underlying22 jI _ hinf.out.1 hinf.out.2.1 hinf.out.2.2.1 hinf.out.2.2.2 rfl (.slice ro k rc) (((lineL n).take k).map (mv1 n m)) w.heap.size w5.heap.size 1 #[.int .i64 r] [r] rfl ?o1 rfl ?b1 rfl ?l1 ?l2 (by first | omega | (simp; done) | (simp; omega)) ?_)
      case o1 => exact O5.alloc.toK
      case b1 => exact Blk.new (by simp)
      case l1 => (try simp only [List.length_map, List.length_take, List.length_cons, List.length_nil]); unfold maxLen; omega
      case l2 => (try simp only [List.length_map, List.length_take, List.length_cons, List.length_nil]); omega
      intro v' w6 O6 hg
      have B6 : Blk w6 w.heap.size 58 (mcs m) := Blk.grownN hg (O5.toK.ne_blk B5 (by decide)) (Blk.old B5)
      have OP6 : OwnP w6 w.heap.size (.slice (some ⟨g, 0, none⟩) (lineL n).length vc) (lineL n) := OwnK.grownO hg O5.alloc (by decide) (OwnK.alloc OP5)
      have k6 : Below w.heap.size w w6 := Below.grownO hg O5.alloc (Nat.le_refl _) (by simp; omega) (by repeat (first | (with_reducible exact Below.refl _ _) | (with_reducible assumption) | (with_reducible refine Below.drew ?_) | (with_reducible refine Below.drewN ?_) | ((with_reducible refine Below.al ?_ ?_); · first | omega | (simp; done) | (simp; omega)) | ((with_reducible refine Below.sc ?_ ?_); · first | omega | (simp; done) | (simp; omega)) | ((with_reducible refine Below.thru hb ?_ ?_); · first | omega | (simp; done) | (simp; omega))))
      have O7 := OwnK.toOwn O6
      clear hg O5 B5 OP5 k5 O6
      go_wp2
      go_roundw
      case rel => exact ⟨k + 1, by omega, by go_num, by rw [HX.out]; simpa only [List.map_take] using O7, B6, OP6, k6⟩
      case measure => simp [intOf]; omega
    · obtain rfl : k = (lineL n).length := by omega
      go_wp2
      refine bodyPost_ret (v := .slice ro (lineL n).length rc) (by simp [results, Try.results88, go_sem]) rfl ?_
      exact ⟨_, rfl, by rw [List.take_length] at O; exact O, kwr⟩

end Go.Proofs.Ytamkbgodenkboaa
