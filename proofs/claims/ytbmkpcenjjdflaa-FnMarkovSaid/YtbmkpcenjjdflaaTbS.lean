/- The reference's triples below a number. -/
import Derived.Test.YtbmkpcenjjdflaaTbl
import Derived.Test.YtbmkpcenjjdflaaApq
namespace Go.Proofs.Ytbmkpcenjjdflaa
open Go.RowKit
set_option linter.unusedSimpArgs false

theorem infoT : (Try.prog.info? 36).map (fun i => (i.zero, i.size, i.bytes)) = some (some (.agg #[.int .i64 0, .int .i64 0, .int .i64 0]), 3, 24) := by kernel_rfl
def part (f : Nat) (t : T3) (n : Int) (i : Nat) : List T3 := if okS t (t.nb (i : Int)) i n then t.nb (i : Int) :: bel f (t.nb (i : Int)) n else []
def belK (f : Nat) (t : T3) (n : Int) (k : Nat) : List T3 := (List.range k).flatMap (part f t n)
theorem belK_succ (f : Nat) (t : T3) (n : Int) (k : Nat) : belK f t n (k + 1) = belK f t n k ++ part f t n k := by simp [belK, List.range_succ]
theorem bel_two (f : Nat) (t : T3) (n : Int) : bel (f + 1) t n = belK f t n 2 := by
  rw [bel, belK_succ, belK_succ]
  rfl
/-- Triples in memory of the call's own, not nil. -/
def GivesT (xs : List T3) (w : World) (e : Ending) (w' : World) : Prop := ∃ v, e = .returned v ∧ OwnK encT 36 w' w.heap.size v xs ∧ v ≠ .slice none 0 0 ∧ Below w.heap.size w w'

theorem bel_len (f : Nat) (t : T3) (n : Int) : (bel f t n).length + 2 ≤ 2 ^ (f + 1) := by
  induction f generalizing t with
  | zero => simp [bel]
  | succ f ih =>
    have aux : ∀ (q : T3) (i : Nat), (if okS t q i n then q :: bel f q n else []).length + 1 ≤ 2 ^ (f + 1) := by
      intro q i
      have := ih q
      split
      · rw [List.length_cons]; omega
      · simp only [List.length_nil]
        omega
    rw [bel, List.length_append]
    have h0 := aux (t.nb 0) 0
    have h1 := aux (t.nb 1) 1
    rw [Nat.pow_succ 2 (f + 1)]
    omega
theorem part_len (f : Nat) (t : T3) (n : Int) (i : Nat) : (part f t n i).length + 1 ≤ 2 ^ (f + 1) := by
  unfold part
  have := bel_len f (t.nb (i : Int)) n
  split
  · rw [List.length_cons]; omega
  · simp only [List.length_nil]
    omega
theorem belK_len (f : Nat) (t : T3) (n : Int) (k : Nat) : (belK f t n k).length ≤ k * 2 ^ (f + 1) := by
  induction k with
  | zero => simp [belK]
  | succ k ih =>
    rw [belK_succ, List.length_append, Nat.succ_mul]
    have := part_len f t n k
    omega
theorem dp_nb {f : Nat} {t : T3} {n : Int} {k : Nat} (hn : n ≤ trM) (hk : k < 2) (hd : dp (f + 1) t = true) (h : okS t (t.nb (k : Int)) k n = true) : dp f (t.nb (k : Int)) = true ∧ (t.nb (k : Int)).small := by
  rw [okS_le hn, Bool.and_eq_true] at h
  rw [dp, Bool.and_eq_true] at hd
  have aux : ∀ (s : T3) (i : Nat), okS t s i trM = true → (!okS t s i trM || (smallB s && dp f s)) = true → dp f s = true ∧ s.small := by
    intro s i h1 h2
    rw [h1] at h2
    simp only [Bool.not_true, Bool.false_or, Bool.and_eq_true] at h2
    exact ⟨h2.2, smallB_ok h2.1⟩
  match k, hk with
  | 0, _ => exact aux _ _ h.2 hd.1
  | 1, _ => exact aux _ _ h.2 hd.2
/-- What stands while a list grows: the list, two triples, the world before. -/
structure StB (w : World) (gn : Nat) (t nx : T3) (W : World) (u : Value) (xs : List T3) : Prop where
  own : OwnK encT 36 W (w.heap.size + 1) u xs
  bn : Blk W gn 36 (tcs nx)
  bt : Blk W w.heap.size 36 (tcs t)
  kw : Below w.heap.size w W
  ne : u.ownBlock ≠ some gn
  nn : u ≠ .slice none 0 0
  gl : w.heap.size < gn
theorem StB.drew {w W : World} {gn : Nat} {t nx : T3} {u : Value} {xs : List T3} (h : StB w gn t nx W u xs) : StB w gn t nx W.drew u xs := ⟨h.own.drew, h.bn.drew, h.bt.drew, h.kw.drew, h.ne, h.nn, h.gl⟩
theorem StB.drewN {w W : World} {gn k : Nat} {t nx : T3} {u : Value} {xs : List T3} (h : StB w gn t nx W u xs) : StB w gn t nx (W.drewN k) u xs := ⟨h.own.drewN, h.bn.drewN, h.bt.drewN, Below.drewN h.kw, h.ne, h.nn, h.gl⟩
theorem StB.alloc {w W : World} {gn : Nat} {t nx : T3} {u : Value} {xs : List T3} {o : Obj} (h : StB w gn t nx W u xs) : StB w gn t nx (W.alloc o) u xs := ⟨h.own.alloc, h.bn.old, h.bt.old, h.kw.alloc h.kw.size _, h.ne, h.nn, h.gl⟩
theorem StB.below {w W W' : World} {gn : Nat} {t nx : T3} {u : Value} {xs : List T3} (h : StB w gn t nx W u xs) (k : Below W.heap.size W W') : StB w gn t nx W' u xs :=
  ⟨h.own.below k, h.bn.below k h.bn.lt, h.bt.below k h.bt.lt, h.kw.trans (k.mono h.kw.size), h.ne, h.nn, h.gl⟩
theorem StB.app {w W W' : World} {gn : Nat} {t nx : T3} {u v : Value} {xs ys : List T3} (h : StB w gn t nx W u xs) (O : OwnK encT 36 W' (w.heap.size + 1) v ys) (hg : W.grownBy W' u.ownBlock) (ha : v.ownBlock = u.ownBlock ∨ v.ownBlock = some W.heap.size) (hn : u ≠ .slice none 0 0 → v ≠ .slice none 0 0) : StB w gn t nx W' v ys := by
  refine ⟨O, h.bn.grownN hg h.ne, h.bt.grownN hg (fun e => by have := (h.own.lt e).1; omega), Below.grownK hg h.own (by omega) h.kw.size h.kw, ?_, hn h.nn, h.gl⟩
  rcases ha with e | e
  · rw [e]; exact h.ne
  · rw [e]
    intro e2
    have := h.bn.lt
    simp only [Option.some.injEq] at e2
    omega
/-- The same, with a second list. -/
structure StC (w : World) (gn : Nat) (t nx : T3) (W : World) (u : Value) (xs : List T3) (v : Value) (ys : List T3) : Prop where
  st : StB w gn t nx W u xs
  own : ∃ B, OwnK encT 36 W B v ys
  ne : ∀ g, v.ownBlock = some g → u.ownBlock ≠ some g
  nn : v ≠ .slice none 0 0
theorem StC.of {w W W' : World} {gn : Nat} {t nx : T3} {u v : Value} {xs ys : List T3} (h : StB w gn t nx W u xs) (k : Below W.heap.size W W') (O : OwnK encT 36 W' W.heap.size v ys) (hn : v ≠ .slice none 0 0) : StC w gn t nx W' u xs v ys :=
  ⟨h.below k, ⟨_, O⟩, fun g e e2 => by have h1 := (O.lt e).1; have h2 := (h.own.lt e2).2; omega, hn⟩
theorem StC.drew {w W : World} {gn : Nat} {t nx : T3} {u v : Value} {xs ys : List T3} (h : StC w gn t nx W u xs v ys) : StC w gn t nx W.drew u xs v ys := ⟨h.st.drew, by obtain ⟨B, h⟩ := h.own; exact ⟨B, h.drew⟩, h.ne, h.nn⟩
theorem StC.alloc {w W : World} {gn : Nat} {t nx : T3} {u v : Value} {xs ys : List T3} {o : Obj} (h : StC w gn t nx W u xs v ys) : StC w gn t nx (W.alloc o) u xs v ys := ⟨h.st.alloc, by obtain ⟨B, h⟩ := h.own; exact ⟨B, h.alloc⟩, h.ne, h.nn⟩
theorem StC.app {w W W' : World} {gn : Nat} {t nx : T3} {u u' v : Value} {xs zs ys : List T3} (h : StC w gn t nx W u xs v ys) (O : OwnK encT 36 W' (w.heap.size + 1) u' zs) (hg : W.grownBy W' u.ownBlock) (ha : u'.ownBlock = u.ownBlock ∨ u'.ownBlock = some W.heap.size) (hn : u ≠ .slice none 0 0 → u' ≠ .slice none 0 0) : StC w gn t nx W' u' zs v ys := by
  obtain ⟨B, O4⟩ := h.own
  refine ⟨h.st.app O hg ha hn, ⟨B, O4.same fun g e => hg.block g (O4.lt e).2 (fun e2 => h.ne g e e2.symm)⟩, fun g e e2 => ?_, h.nn⟩
  rcases ha with e3 | e3
  · exact h.ne g e (by rw [← e3]; exact e2)
  · rw [e3] at e2
    have := (O4.lt e).2
    simp only [Option.some.injEq] at e2
    omega
theorem StC.lie {w W : World} {gn : Nat} {t nx : T3} {u v : Value} {xs ys : List T3} (h : StC w gn t nx W u xs v ys) : ∃ g c, v = .slice (some ⟨g, 0, none⟩) ys.length c ∧ ∀ j x, (ys.flatMap encT.enc)[j]? = some x → W.cell? ((⟨g, 0, none⟩ : Addr).add j) = some x := by
  obtain ⟨B, O⟩ := h.own
  rcases O.form with ⟨h1, _⟩ | ⟨g, c, h1, -⟩
  · exact absurd h1 h.nn
  · refine ⟨g, c, h1, O.lie (by rw [h1]; rfl)⟩

set_option maxRecDepth 8000 in
set_option maxHeartbeats 2000000 in
theorem l09Below_any (n : Int) (hn : n ≤ trM) (f : Nat) : ∀ (t : T3) (w : World), f ≤ 20 → dp f t = true → t.small →
    Calls Try.prog 46 #[.agg #[.int .i64 t.x, .int .i64 t.y, .int .i64 t.z], .int .i64 n] w (GivesT (bel f t n) w) := by
  induction f with
  | zero => intro t w _ h; cases h
  | succ f ih =>
    intro t w hf hd hs
    have IH := Lib.hid ih
    have HINF := Lib.hid (info_parts infoT)
    clear ih
    obtain ⟨GF, hGF⟩ : ∃ GF, GivesT (bel (f + 1) t n) w = GF := ⟨_, rfl⟩
    rw [hGF]
    have HGF := Lib.hid hGF
    have HD := Lib.hid hd
    have HS := Lib.hid hs
    clear hGF hd hs
    go_enter Try.func46, Try.ntmps46
    go_wp2_with fail
    refine forget (fun W_ => Blk W_ w.heap.size 36 (tcs t) ∧ OwnK encT 36 W_ (w.heap.size + 1) (.slice (some ⟨w.heap.size + 1, 0, none⟩) 0 0) [] ∧ Below w.heap.size w W_ ∧ w.heap.size + 2 ≤ W_.heap.size) ⟨(by repeat (first | (with_reducible assumption) | ((with_reducible refine Blk.new ?_); · first | omega | (simp; done) | (simp; omega)) | (with_reducible apply Blk.set4) | (with_reducible apply Blk.set3) | (with_reducible apply Blk.set2) | ((with_reducible refine Blk.put ?_ ?_); · first | omega | (simp; omega)) | (with_reducible refine Blk.old ?_) | (with_reducible refine Blk.drew ?_) | (with_reducible refine Blk.drewN ?_) | ((with_reducible refine Blk.below hb ?_ ?_); · first | omega | (simp; done) | (simp; omega)))), OwnK.of_blk (xs := []) (by repeat (first | (with_reducible assumption) | ((with_reducible refine Blk.new ?_); · first | omega | (simp; done) | (simp; omega)) | (with_reducible apply Blk.set4) | (with_reducible apply Blk.set3) | (with_reducible apply Blk.set2) | ((with_reducible refine Blk.put ?_ ?_); · first | omega | (simp; omega)) | (with_reducible refine Blk.old ?_) | (with_reducible refine Blk.drew ?_) | (with_reducible refine Blk.drewN ?_) | ((with_reducible refine Blk.below hb ?_ ?_); · first | omega | (simp; done) | (simp; omega)))) (by omega) rfl (by simp [maxLen]), (by repeat (first | (with_reducible exact Below.refl _ _) | (with_reducible assumption) | (with_reducible refine Below.drew ?_) | (with_reducible refine Below.drewN ?_) | ((with_reducible refine Below.al ?_ ?_); · first | omega | (simp; done) | (simp; omega)) | ((with_reducible refine Below.sc ?_ ?_); · first | omega | (simp; done) | (simp; omega)) | ((with_reducible refine Below.thru hb ?_ ?_); · first | omega | (simp; done) | (simp; omega)))), by simp⟩ ?_
    rintro w0 ⟨B0, O0, k0, s0⟩
    go_loopw [5, 6] (fun v i wr => ∃ k : Nat, k ≤ 2 ∧ i = .int .i64 k ∧ OwnK encT 36 wr (w.heap.size + 1) v (belK f t n k) ∧ v ≠ .slice none 0 0 ∧ Blk wr w.heap.size 36 (tcs t) ∧ Below w.heap.size w wr ∧ w.heap.size + 2 ≤ wr.heap.size) (fun _ i _ => 2 - (intOf i).toNat)
    case atStart => exact ⟨0, by omega, rfl, O0, by simp, B0, k0, s0⟩
    case round =>
      clear O0 B0 k0 s0
      obtain ⟨k, hk, rfl, O, hnv, Bt, kwr, swr⟩ := hrel
      by_cases hlt : k < 2
      · have i0 : (k : Int) < 2 := by omega
        have HN := Lib.hid (fun w' => l09Neighbour_any t (k : Int) w' HS.out (by omega))
        have H := Lib.hid (And.intro O (And.intro hnv (And.intro Bt kwr)))
        have q0 := Bt.t
        clear O hnv Bt kwr
        go_wp2_with fail
        refine (HN.out _).mono ?_
        rintro e w1 ⟨rfl, hb⟩
        have H1 := Lib.hid (And.intro (H.out.1.below hb) (And.intro (H.out.2.2.1.below hb H.out.2.2.1.lt) (H.out.2.2.2.trans (hb.mono H.out.2.2.2.size))))
        have s1 : w.heap.size + 2 ≤ w1.heap.size := by have := hb.size; omega
        have q1 := H1.out.2.1.t
        have HNV := Lib.hid H.out.2.1
        have HPK := Lib.hid (show belK f t n (k + 1) = belK f t n k ++ (if okS t (t.nb (k : Int)) k n then t.nb (k : Int) :: bel f (t.nb (k : Int)) n else []) from belK_succ f t n k)
        have HNX := Lib.hid (show okS t (t.nb (k : Int)) k n = true → dp f (t.nb (k : Int)) = true ∧ (t.nb (k : Int)).small from fun h => dp_nb hn hlt HD.out h)
        have HOK := Lib.hid (show okS t (t.nb (k : Int)) k n = (decide ((t.nb (k : Int)).z ≤ n) && decide (t.z < (t.nb (k : Int)).z) && ((k : Int) == 0 || !decide (t.x = t.y))) by
          unfold okS
          congr 2
          rw [Bool.eq_iff_iff]
          simp)
        have l1 : w.heap.size < w1.heap.size := by omega
        clear hb H HN q0
        generalize t.nb (k : Int) = nx at *
        have HXS := Lib.hid (belK_len f t n k)
        obtain ⟨xs, hxs⟩ : ∃ xs, belK f t n k = xs := ⟨_, rfl⟩
        have hxl : xs.length ≤ 4194304 := by
          have h1 := HXS.out
          have h2 : 2 ^ (f + 1) ≤ 2 ^ 21 := Nat.pow_le_pow_right (by decide) (by omega)
          rw [hxs] at h1
          have h3 : k * 2 ^ (f + 1) ≤ 2 * 2 ^ 21 := Nat.mul_le_mul (by omega) h2
          omega
        have HL := Lib.hid hxl
        have HL2 := Lib.hid (show (bel f nx n).length ≤ 4194304 by
          have h1 := bel_len f nx n
          have h2 : 2 ^ (f + 1) ≤ 2 ^ 21 := Nat.pow_le_pow_right (by decide) (by omega)
          omega)
        rw [hxs] at HPK H1
        have S00 := Lib.hid (show StB w w1.heap.size t nx (w1.alloc (.cells (tcs nx) 36)) u5 xs from ⟨H1.out.1.alloc, Blk.new rfl, H1.out.2.1.old, H1.out.2.2.alloc H1.out.2.2.size _, fun e => by have := (H1.out.1.lt e).2; omega, HNV.out, l1⟩)
        clear hxs hxl HXS H1 q1
        obtain ⟨jT, hinf⟩ := HINF.out
        replace hinf := Lib.hid hinf
        by_cases hz1 : nx.z ≤ n
        · by_cases hz2 : t.z < nx.z
          · have HI : Hid (k = 0 ∨ (k = 1 ∧ ¬ t.x = t.y) ∨ (k = 1 ∧ t.x = t.y)) := Lib.hid (by omega)
            rcases HI.out with hk0 | ⟨hk1, hxy⟩ | ⟨hk1, hxy⟩
            · have HT := Lib.hid (show okS t nx k n = true by rw [HOK.out]; simp [hz1, hz2, hk0])
              have HDN := Lib.hid (HNX.out HT.out)
              subst hk0
              have q1 := S00.out.bt.t
              have q0 := S00.out.bn.t
              go_wp2_with fail
              refine forget (fun W_ => StB w w1.heap.size t nx W_ u5 xs) S00.out ?_
              rintro wa hS0
              have S0 := Lib.hid hS0
              have qa := hS0.bn.t
              have la := hS0.bn.lt
              clear hS0 q0 q1 S00
              generalize w1.heap.size = gn at *
              go_region_law (first | (have chk_ := C5.out; clear chk_; refine step_appX encT rfl _ _ 22 36 24 rfl Try.underlying22 jT _ hinf.out.1 hinf.out.2.1 hinf.out.2.2.1 hinf.out.2.2.2 rfl v1 (xs ++ [nx]) (w.heap.size + 1) ⟨g4, 0, none⟩ c4 (bel f nx n) rfl (StB.own (gn := gn) (t := t) (nx := nx) (StC.st (v := .slice (some ⟨g4, 0, none⟩) (bel f nx n).length c4) (ys := bel f nx n) (by have S_ := C5.out; exact (by (repeat (first | (with_reducible assumption) | (with_reducible refine StC.drew ?_) | (with_reducible refine StC.alloc ?_))); first | done | fail)))) rfl (by obtain ⟨g_, c_, e_, L_⟩ := C5.out.lie; cases e_; exact L_) (by have h1 := HL.out; have h2 := HL2.out; simp only [List.length_append, List.length_cons, List.length_nil]; (try unfold maxLen); omega) (by have h1 := HL.out; have h2 := HL2.out; simp only [List.length_append, List.length_cons, List.length_nil]; (try unfold maxLen); omega) (by have h1 := C5.out.st.bn.lt; have h2 := C5.out.st.gl; first | omega | (simp; omega)) ?_; intro v5 w7 O7 hg ha hn5; have S7 := Lib.hid (StB.app (gn := gn) (t := t) (nx := nx) (xs := xs ++ [nx]) (StC.st (v := .slice (some ⟨g4, 0, none⟩) (bel f nx n).length c4) (ys := bel f nx n) (by have S_ := C5.out; exact (by (repeat (first | (with_reducible assumption) | (with_reducible refine StC.drew ?_) | (with_reducible refine StC.alloc ?_))); first | done | fail))) O7 hg ha hn5); clear O7 hg ha hn5) | (have chk_ := S2.out; clear chk_; have chk_ := C3.out; clear chk_; refine step_appX encT rfl _ _ 22 36 24 rfl Try.underlying22 jT _ hinf.out.1 hinf.out.2.1 hinf.out.2.2.1 hinf.out.2.2.2 rfl v1 (xs ++ [nx]) (w.heap.size + 1) ⟨g4, 0, none⟩ c4 (bel f nx n) rfl (StB.own (gn := gn) (t := t) (nx := nx) (StC.st (v := .slice (some ⟨g4, 0, none⟩) (bel f nx n).length c4) (ys := bel f nx n) (by have S_ := C3.out; exact (by (repeat (first | (with_reducible assumption) | (with_reducible refine StC.drew ?_) | (with_reducible refine StC.alloc ?_))); first | done | fail)))) rfl (by obtain ⟨g_, c_, e_, L_⟩ := C3.out.lie; cases e_; exact L_) (by have h1 := HL.out; have h2 := HL2.out; simp only [List.length_append, List.length_cons, List.length_nil]; (try unfold maxLen); omega) (by have h1 := HL.out; have h2 := HL2.out; simp only [List.length_append, List.length_cons, List.length_nil]; (try unfold maxLen); omega) (by have h1 := C3.out.st.bn.lt; have h2 := C3.out.st.gl; first | omega | (simp; omega)) ?_; intro v5 w7 O7 hg ha hn5; have S7 := Lib.hid (StB.app (gn := gn) (t := t) (nx := nx) (xs := xs ++ [nx]) (StC.st (v := .slice (some ⟨g4, 0, none⟩) (bel f nx n).length c4) (ys := bel f nx n) (by have S_ := C3.out; exact (by (repeat (first | (with_reducible assumption) | (with_reducible refine StC.drew ?_) | (with_reducible refine StC.alloc ?_))); first | done | fail))) O7 hg ha hn5); clear O7 hg ha hn5) | (have chk_ := C3.out; clear chk_; refine step_appX encT rfl _ _ 22 36 24 rfl Try.underlying22 jT _ hinf.out.1 hinf.out.2.1 hinf.out.2.2.1 hinf.out.2.2.2 rfl u5 xs (w.heap.size + 1) ⟨wa.heap.size, 0, none⟩ 1 [nx] rfl (StB.own (gn := gn) (t := t) (nx := nx) (StC.st (v := .slice (some ⟨g4, 0, none⟩) (bel f nx n).length c4) (ys := bel f nx n) (by have S_ := C3.out; exact (by (repeat (first | (with_reducible assumption) | (with_reducible refine StC.drew ?_) | (with_reducible refine StC.alloc ?_))); first | done | fail)))) rfl (lieB (g := wa.heap.size) (E := 36) (cs := tcs nx) (by (repeat (first | (with_reducible assumption) | ((with_reducible refine Blk.new ?_); · first | omega | (simp; done) | (simp; omega)) | (with_reducible apply Blk.set4) | (with_reducible apply Blk.set3) | (with_reducible apply Blk.set2) | ((with_reducible refine Blk.put ?_ ?_); · first | omega | (simp; omega)) | (with_reducible refine Blk.old ?_) | (with_reducible refine Blk.drew ?_) | (with_reducible refine Blk.drewN ?_) | ((with_reducible refine Blk.below hb ?_ ?_); · first | omega | (simp; done) | (simp; omega)))); first | done | fail) rfl) (by have h1 := HL.out; have h2 := HL2.out; simp only [List.length_append, List.length_cons, List.length_nil]; (try unfold maxLen); omega) (by have h1 := HL.out; have h2 := HL2.out; simp only [List.length_append, List.length_cons, List.length_nil]; (try unfold maxLen); omega) (by have h1 := C3.out.st.bn.lt; have h2 := C3.out.st.gl; first | omega | (simp; omega)) ?_; intro v1 w5 O5 hg ha hn1; have C5 := Lib.hid (StC.app (gn := gn) (t := t) (nx := nx) (v := .slice (some ⟨g4, 0, none⟩) (bel f nx n).length c4) (ys := bel f nx n) (xs := xs) (u := u5) (by have S_ := C3.out; exact (by (repeat (first | (with_reducible assumption) | (with_reducible refine StC.drew ?_) | (with_reducible refine StC.alloc ?_))); first | done | fail)) O5 hg ha hn1); have q5 := C5.out.st.bn.t; have z5 := C5.out.st.bn.lt; clear O5 hg ha hn1) | (have chk_ := C3.out; clear chk_; refine step_appX encT rfl _ _ 22 36 24 rfl Try.underlying22 jT _ hinf.out.1 hinf.out.2.1 hinf.out.2.2.1 hinf.out.2.2.2 rfl u5 xs (w.heap.size + 1) ⟨w3.heap.size, 0, none⟩ 1 [nx] rfl (StB.own (gn := gn) (t := t) (nx := nx) (StC.st (v := .slice (some ⟨g4, 0, none⟩) (bel f nx n).length c4) (ys := bel f nx n) (by have S_ := C3.out; exact (by (repeat (first | (with_reducible assumption) | (with_reducible refine StC.drew ?_) | (with_reducible refine StC.alloc ?_))); first | done | fail)))) rfl (lieB (g := w3.heap.size) (E := 36) (cs := tcs nx) (by (repeat (first | (with_reducible assumption) | ((with_reducible refine Blk.new ?_); · first | omega | (simp; done) | (simp; omega)) | (with_reducible apply Blk.set4) | (with_reducible apply Blk.set3) | (with_reducible apply Blk.set2) | ((with_reducible refine Blk.put ?_ ?_); · first | omega | (simp; omega)) | (with_reducible refine Blk.old ?_) | (with_reducible refine Blk.drew ?_) | (with_reducible refine Blk.drewN ?_) | ((with_reducible refine Blk.below hb ?_ ?_); · first | omega | (simp; done) | (simp; omega)))); first | done | fail) rfl) (by have h1 := HL.out; have h2 := HL2.out; simp only [List.length_append, List.length_cons, List.length_nil]; (try unfold maxLen); omega) (by have h1 := HL.out; have h2 := HL2.out; simp only [List.length_append, List.length_cons, List.length_nil]; (try unfold maxLen); omega) (by have h1 := C3.out.st.bn.lt; have h2 := C3.out.st.gl; first | omega | (simp; omega)) ?_; intro v1 w5 O5 hg ha hn1; have C5 := Lib.hid (StC.app (gn := gn) (t := t) (nx := nx) (v := .slice (some ⟨g4, 0, none⟩) (bel f nx n).length c4) (ys := bel f nx n) (xs := xs) (u := u5) (by have S_ := C3.out; exact (by (repeat (first | (with_reducible assumption) | (with_reducible refine StC.drew ?_) | (with_reducible refine StC.alloc ?_))); first | done | fail)) O5 hg ha hn1); have q5 := C5.out.st.bn.t; have z5 := C5.out.st.bn.lt; clear O5 hg ha hn1) | (refine step_appX encT rfl _ _ 22 36 24 rfl Try.underlying22 jT _ hinf.out.1 hinf.out.2.1 hinf.out.2.2.1 hinf.out.2.2.2 rfl u5 xs (w.heap.size + 1) ⟨wa.heap.size, 0, none⟩ 1 [nx] rfl (StB.own (gn := gn) (t := t) (nx := nx) (by have S_ := S0.out; exact (by (repeat (first | (with_reducible assumption) | (with_reducible refine StB.drew ?_) | (with_reducible refine StB.drewN ?_) | (with_reducible refine StB.alloc ?_))); first | done | fail))) rfl (lieB (g := wa.heap.size) (E := 36) (cs := tcs nx) (by (repeat (first | (with_reducible assumption) | ((with_reducible refine Blk.new ?_); · first | omega | (simp; done) | (simp; omega)) | (with_reducible apply Blk.set4) | (with_reducible apply Blk.set3) | (with_reducible apply Blk.set2) | ((with_reducible refine Blk.put ?_ ?_); · first | omega | (simp; omega)) | (with_reducible refine Blk.old ?_) | (with_reducible refine Blk.drew ?_) | (with_reducible refine Blk.drewN ?_) | ((with_reducible refine Blk.below hb ?_ ?_); · first | omega | (simp; done) | (simp; omega)))); first | done | fail) rfl) (by have h1 := HL.out; have h2 := HL2.out; simp only [List.length_append, List.length_cons, List.length_nil]; (try unfold maxLen); omega) (by have h1 := HL.out; have h2 := HL2.out; simp only [List.length_append, List.length_cons, List.length_nil]; (try unfold maxLen); omega) (by have h1 := S0.out.bn.lt; have h2 := S0.out.gl; first | omega | (simp; omega)) ?_; intro v1 w2 O2 hg ha hn1; have S2 := Lib.hid (StB.app (gn := gn) (t := t) (nx := nx) (u := u5) (xs := xs) (by have S_ := S0.out; exact (by (repeat (first | (with_reducible assumption) | (with_reducible refine StB.drew ?_) | (with_reducible refine StB.drewN ?_) | (with_reducible refine StB.alloc ?_))); first | done | fail)) O2 hg ha hn1); have q2 := S2.out.bn.t; have z2 := S2.out.bn.lt; clear O2 hg ha hn1) | (have chk_ := S2.out; clear chk_; go_simp; go_at_call 46; refine (IH.out nx _ (by omega) HDN.out.1 HDN.out.2).mono ?_; rintro e w3 ⟨v4, rfl, O4, hn4, k4⟩; have C3 := Lib.hid (StC.of (gn := gn) (t := t) (nx := nx) (u := v1) (xs := xs ++ [nx]) (by have S_ := S2.out; exact (by (repeat (first | (with_reducible assumption) | (with_reducible refine StB.drew ?_) | (with_reducible refine StB.drewN ?_) | (with_reducible refine StB.alloc ?_))); first | done | fail)) k4 O4 hn4); have q3 := C3.out.st.bn.t; have z3 := C3.out.st.bn.lt; (try (have BK3 : Blk w3 wa.heap.size 36 (tcs nx) := Blk.below k4 (by simp) (Blk.new (by simp)))); clear k4 O4 hn4; obtain ⟨g4, c4, e4, -⟩ := C3.out.lie; subst e4; dsimp only) | (go_simp; go_at_call 46; refine (IH.out nx _ (by omega) HDN.out.1 HDN.out.2).mono ?_; rintro e w3 ⟨v4, rfl, O4, hn4, k4⟩; have C3 := Lib.hid (StC.of (gn := gn) (t := t) (nx := nx) (u := u5) (xs := xs) (by have S_ := S0.out; exact (by (repeat (first | (with_reducible assumption) | (with_reducible refine StB.drew ?_) | (with_reducible refine StB.drewN ?_) | (with_reducible refine StB.alloc ?_))); first | done | fail)) k4 O4 hn4); have q3 := C3.out.st.bn.t; have z3 := C3.out.st.bn.lt; (try (have BK3 : Blk w3 wa.heap.size 36 (tcs nx) := Blk.below k4 (by simp) (Blk.new (by simp)))); clear k4 O4 hn4; obtain ⟨g4, c4, e4, -⟩ := C3.out.lie; subst e4; dsimp only))
              all_goals
                have HO7 := Lib.hid (show OwnK encT 36 w7 (w.heap.size + 1) v5 (belK f t n (0 + 1)) by
                  rw [HPK.out, if_pos HT.out]
                  have := S7.out.own
                  rwa [List.append_assoc] at this)
                have hz7 : w.heap.size + 2 ≤ w7.heap.size := by have h1 := S7.out.bn.lt; have h2 := S7.out.gl; omega
                go_wp2
                refine ⟨⟨0 + 1, by omega, by go_num, by have O := HO7.out; exact (by repeat (first | (with_reducible assumption) | (with_reducible refine Own.drew ?_) | (with_reducible refine Own.drewN ?_) | (with_reducible refine Own.alloc ?_) | (with_reducible refine OwnK.drew ?_) | (with_reducible refine OwnK.drewN ?_) | (with_reducible refine OwnK.alloc ?_) | ((with_reducible refine OwnK.put ?_ ?_); · first | omega | (simp; done) | (simp; omega)) | ((with_reducible refine Own.below hb ?_)) | ((with_reducible refine OwnK.below hb ?_)))), S7.out.nn, by have Bx := S7.out.bt; exact (by repeat (first | (with_reducible assumption) | ((with_reducible refine Blk.new ?_); · first | omega | (simp; done) | (simp; omega)) | (with_reducible apply Blk.set4) | (with_reducible apply Blk.set3) | (with_reducible apply Blk.set2) | ((with_reducible refine Blk.put ?_ ?_); · first | omega | (simp; omega)) | (with_reducible refine Blk.old ?_) | (with_reducible refine Blk.drew ?_) | (with_reducible refine Blk.drewN ?_) | ((with_reducible refine Blk.below hb ?_ ?_); · first | omega | (simp; done) | (simp; omega)))), by have kk := S7.out.kw; exact (by repeat (first | (with_reducible exact Below.refl _ _) | (with_reducible assumption) | (with_reducible refine Below.drew ?_) | (with_reducible refine Below.drewN ?_) | ((with_reducible refine Below.al ?_ ?_); · first | omega | (simp; done) | (simp; omega)) | ((with_reducible refine Below.sc ?_ ?_); · first | omega | (simp; done) | (simp; omega)) | ((with_reducible refine Below.thru hb ?_ ?_); · first | omega | (simp; done) | (simp; omega)))), by first | exact hz7 | (simp; omega)⟩, ?_⟩
                first | (simp [intOf]; done) | (simp [intOf]; omega)
            · have HT := Lib.hid (show okS t nx k n = true by rw [HOK.out]; simp [hz1, hz2, hk1, hxy])
              have HDN := Lib.hid (HNX.out HT.out)
              subst hk1
              have q1 := S00.out.bt.t
              have q0 := S00.out.bn.t
              go_wp2_with fail
              refine forget (fun W_ => StB w w1.heap.size t nx W_ u5 xs) S00.out ?_
              rintro wa hS0
              have S0 := Lib.hid hS0
              have qa := hS0.bn.t
              have la := hS0.bn.lt
              clear hS0 q0 q1 S00
              generalize w1.heap.size = gn at *
              go_region_law (first | (have chk_ := C5.out; clear chk_; refine step_appX encT rfl _ _ 22 36 24 rfl Try.underlying22 jT _ hinf.out.1 hinf.out.2.1 hinf.out.2.2.1 hinf.out.2.2.2 rfl v1 (xs ++ [nx]) (w.heap.size + 1) ⟨g4, 0, none⟩ c4 (bel f nx n) rfl (StB.own (gn := gn) (t := t) (nx := nx) (StC.st (v := .slice (some ⟨g4, 0, none⟩) (bel f nx n).length c4) (ys := bel f nx n) (by have S_ := C5.out; exact (by (repeat (first | (with_reducible assumption) | (with_reducible refine StC.drew ?_) | (with_reducible refine StC.alloc ?_))); first | done | fail)))) rfl (by obtain ⟨g_, c_, e_, L_⟩ := C5.out.lie; cases e_; exact L_) (by have h1 := HL.out; have h2 := HL2.out; simp only [List.length_append, List.length_cons, List.length_nil]; (try unfold maxLen); omega) (by have h1 := HL.out; have h2 := HL2.out; simp only [List.length_append, List.length_cons, List.length_nil]; (try unfold maxLen); omega) (by have h1 := C5.out.st.bn.lt; have h2 := C5.out.st.gl; first | omega | (simp; omega)) ?_; intro v5 w7 O7 hg ha hn5; have S7 := Lib.hid (StB.app (gn := gn) (t := t) (nx := nx) (xs := xs ++ [nx]) (StC.st (v := .slice (some ⟨g4, 0, none⟩) (bel f nx n).length c4) (ys := bel f nx n) (by have S_ := C5.out; exact (by (repeat (first | (with_reducible assumption) | (with_reducible refine StC.drew ?_) | (with_reducible refine StC.alloc ?_))); first | done | fail))) O7 hg ha hn5); clear O7 hg ha hn5) | (have chk_ := S2.out; clear chk_; have chk_ := C3.out; clear chk_; refine step_appX encT rfl _ _ 22 36 24 rfl Try.underlying22 jT _ hinf.out.1 hinf.out.2.1 hinf.out.2.2.1 hinf.out.2.2.2 rfl v1 (xs ++ [nx]) (w.heap.size + 1) ⟨g4, 0, none⟩ c4 (bel f nx n) rfl (StB.own (gn := gn) (t := t) (nx := nx) (StC.st (v := .slice (some ⟨g4, 0, none⟩) (bel f nx n).length c4) (ys := bel f nx n) (by have S_ := C3.out; exact (by (repeat (first | (with_reducible assumption) | (with_reducible refine StC.drew ?_) | (with_reducible refine StC.alloc ?_))); first | done | fail)))) rfl (by obtain ⟨g_, c_, e_, L_⟩ := C3.out.lie; cases e_; exact L_) (by have h1 := HL.out; have h2 := HL2.out; simp only [List.length_append, List.length_cons, List.length_nil]; (try unfold maxLen); omega) (by have h1 := HL.out; have h2 := HL2.out; simp only [List.length_append, List.length_cons, List.length_nil]; (try unfold maxLen); omega) (by have h1 := C3.out.st.bn.lt; have h2 := C3.out.st.gl; first | omega | (simp; omega)) ?_; intro v5 w7 O7 hg ha hn5; have S7 := Lib.hid (StB.app (gn := gn) (t := t) (nx := nx) (xs := xs ++ [nx]) (StC.st (v := .slice (some ⟨g4, 0, none⟩) (bel f nx n).length c4) (ys := bel f nx n) (by have S_ := C3.out; exact (by (repeat (first | (with_reducible assumption) | (with_reducible refine StC.drew ?_) | (with_reducible refine StC.alloc ?_))); first | done | fail))) O7 hg ha hn5); clear O7 hg ha hn5) | (have chk_ := C3.out; clear chk_; refine step_appX encT rfl _ _ 22 36 24 rfl Try.underlying22 jT _ hinf.out.1 hinf.out.2.1 hinf.out.2.2.1 hinf.out.2.2.2 rfl u5 xs (w.heap.size + 1) ⟨wa.heap.size, 0, none⟩ 1 [nx] rfl (StB.own (gn := gn) (t := t) (nx := nx) (StC.st (v := .slice (some ⟨g4, 0, none⟩) (bel f nx n).length c4) (ys := bel f nx n) (by have S_ := C3.out; exact (by (repeat (first | (with_reducible assumption) | (with_reducible refine StC.drew ?_) | (with_reducible refine StC.alloc ?_))); first | done | fail)))) rfl (lieB (g := wa.heap.size) (E := 36) (cs := tcs nx) (by (repeat (first | (with_reducible assumption) | ((with_reducible refine Blk.new ?_); · first | omega | (simp; done) | (simp; omega)) | (with_reducible apply Blk.set4) | (with_reducible apply Blk.set3) | (with_reducible apply Blk.set2) | ((with_reducible refine Blk.put ?_ ?_); · first | omega | (simp; omega)) | (with_reducible refine Blk.old ?_) | (with_reducible refine Blk.drew ?_) | (with_reducible refine Blk.drewN ?_) | ((with_reducible refine Blk.below hb ?_ ?_); · first | omega | (simp; done) | (simp; omega)))); first | done | fail) rfl) (by have h1 := HL.out; have h2 := HL2.out; simp only [List.length_append, List.length_cons, List.length_nil]; (try unfold maxLen); omega) (by have h1 := HL.out; have h2 := HL2.out; simp only [List.length_append, List.length_cons, List.length_nil]; (try unfold maxLen); omega) (by have h1 := C3.out.st.bn.lt; have h2 := C3.out.st.gl; first | omega | (simp; omega)) ?_; intro v1 w5 O5 hg ha hn1; have C5 := Lib.hid (StC.app (gn := gn) (t := t) (nx := nx) (v := .slice (some ⟨g4, 0, none⟩) (bel f nx n).length c4) (ys := bel f nx n) (xs := xs) (u := u5) (by have S_ := C3.out; exact (by (repeat (first | (with_reducible assumption) | (with_reducible refine StC.drew ?_) | (with_reducible refine StC.alloc ?_))); first | done | fail)) O5 hg ha hn1); have q5 := C5.out.st.bn.t; have z5 := C5.out.st.bn.lt; clear O5 hg ha hn1) | (have chk_ := C3.out; clear chk_; refine step_appX encT rfl _ _ 22 36 24 rfl Try.underlying22 jT _ hinf.out.1 hinf.out.2.1 hinf.out.2.2.1 hinf.out.2.2.2 rfl u5 xs (w.heap.size + 1) ⟨w3.heap.size, 0, none⟩ 1 [nx] rfl (StB.own (gn := gn) (t := t) (nx := nx) (StC.st (v := .slice (some ⟨g4, 0, none⟩) (bel f nx n).length c4) (ys := bel f nx n) (by have S_ := C3.out; exact (by (repeat (first | (with_reducible assumption) | (with_reducible refine StC.drew ?_) | (with_reducible refine StC.alloc ?_))); first | done | fail)))) rfl (lieB (g := w3.heap.size) (E := 36) (cs := tcs nx) (by (repeat (first | (with_reducible assumption) | ((with_reducible refine Blk.new ?_); · first | omega | (simp; done) | (simp; omega)) | (with_reducible apply Blk.set4) | (with_reducible apply Blk.set3) | (with_reducible apply Blk.set2) | ((with_reducible refine Blk.put ?_ ?_); · first | omega | (simp; omega)) | (with_reducible refine Blk.old ?_) | (with_reducible refine Blk.drew ?_) | (with_reducible refine Blk.drewN ?_) | ((with_reducible refine Blk.below hb ?_ ?_); · first | omega | (simp; done) | (simp; omega)))); first | done | fail) rfl) (by have h1 := HL.out; have h2 := HL2.out; simp only [List.length_append, List.length_cons, List.length_nil]; (try unfold maxLen); omega) (by have h1 := HL.out; have h2 := HL2.out; simp only [List.length_append, List.length_cons, List.length_nil]; (try unfold maxLen); omega) (by have h1 := C3.out.st.bn.lt; have h2 := C3.out.st.gl; first | omega | (simp; omega)) ?_; intro v1 w5 O5 hg ha hn1; have C5 := Lib.hid (StC.app (gn := gn) (t := t) (nx := nx) (v := .slice (some ⟨g4, 0, none⟩) (bel f nx n).length c4) (ys := bel f nx n) (xs := xs) (u := u5) (by have S_ := C3.out; exact (by (repeat (first | (with_reducible assumption) | (with_reducible refine StC.drew ?_) | (with_reducible refine StC.alloc ?_))); first | done | fail)) O5 hg ha hn1); have q5 := C5.out.st.bn.t; have z5 := C5.out.st.bn.lt; clear O5 hg ha hn1) | (refine step_appX encT rfl _ _ 22 36 24 rfl Try.underlying22 jT _ hinf.out.1 hinf.out.2.1 hinf.out.2.2.1 hinf.out.2.2.2 rfl u5 xs (w.heap.size + 1) ⟨wa.heap.size, 0, none⟩ 1 [nx] rfl (StB.own (gn := gn) (t := t) (nx := nx) (by have S_ := S0.out; exact (by (repeat (first | (with_reducible assumption) | (with_reducible refine StB.drew ?_) | (with_reducible refine StB.drewN ?_) | (with_reducible refine StB.alloc ?_))); first | done | fail))) rfl (lieB (g := wa.heap.size) (E := 36) (cs := tcs nx) (by (repeat (first | (with_reducible assumption) | ((with_reducible refine Blk.new ?_); · first | omega | (simp; done) | (simp; omega)) | (with_reducible apply Blk.set4) | (with_reducible apply Blk.set3) | (with_reducible apply Blk.set2) | ((with_reducible refine Blk.put ?_ ?_); · first | omega | (simp; omega)) | (with_reducible refine Blk.old ?_) | (with_reducible refine Blk.drew ?_) | (with_reducible refine Blk.drewN ?_) | ((with_reducible refine Blk.below hb ?_ ?_); · first | omega | (simp; done) | (simp; omega)))); first | done | fail) rfl) (by have h1 := HL.out; have h2 := HL2.out; simp only [List.length_append, List.length_cons, List.length_nil]; (try unfold maxLen); omega) (by have h1 := HL.out; have h2 := HL2.out; simp only [List.length_append, List.length_cons, List.length_nil]; (try unfold maxLen); omega) (by have h1 := S0.out.bn.lt; have h2 := S0.out.gl; first | omega | (simp; omega)) ?_; intro v1 w2 O2 hg ha hn1; have S2 := Lib.hid (StB.app (gn := gn) (t := t) (nx := nx) (u := u5) (xs := xs) (by have S_ := S0.out; exact (by (repeat (first | (with_reducible assumption) | (with_reducible refine StB.drew ?_) | (with_reducible refine StB.drewN ?_) | (with_reducible refine StB.alloc ?_))); first | done | fail)) O2 hg ha hn1); have q2 := S2.out.bn.t; have z2 := S2.out.bn.lt; clear O2 hg ha hn1) | (have chk_ := S2.out; clear chk_; go_simp; go_at_call 46; refine (IH.out nx _ (by omega) HDN.out.1 HDN.out.2).mono ?_; rintro e w3 ⟨v4, rfl, O4, hn4, k4⟩; have C3 := Lib.hid (StC.of (gn := gn) (t := t) (nx := nx) (u := v1) (xs := xs ++ [nx]) (by have S_ := S2.out; exact (by (repeat (first | (with_reducible assumption) | (with_reducible refine StB.drew ?_) | (with_reducible refine StB.drewN ?_) | (with_reducible refine StB.alloc ?_))); first | done | fail)) k4 O4 hn4); have q3 := C3.out.st.bn.t; have z3 := C3.out.st.bn.lt; (try (have BK3 : Blk w3 wa.heap.size 36 (tcs nx) := Blk.below k4 (by simp) (Blk.new (by simp)))); clear k4 O4 hn4; obtain ⟨g4, c4, e4, -⟩ := C3.out.lie; subst e4; dsimp only) | (go_simp; go_at_call 46; refine (IH.out nx _ (by omega) HDN.out.1 HDN.out.2).mono ?_; rintro e w3 ⟨v4, rfl, O4, hn4, k4⟩; have C3 := Lib.hid (StC.of (gn := gn) (t := t) (nx := nx) (u := u5) (xs := xs) (by have S_ := S0.out; exact (by (repeat (first | (with_reducible assumption) | (with_reducible refine StB.drew ?_) | (with_reducible refine StB.drewN ?_) | (with_reducible refine StB.alloc ?_))); first | done | fail)) k4 O4 hn4); have q3 := C3.out.st.bn.t; have z3 := C3.out.st.bn.lt; (try (have BK3 : Blk w3 wa.heap.size 36 (tcs nx) := Blk.below k4 (by simp) (Blk.new (by simp)))); clear k4 O4 hn4; obtain ⟨g4, c4, e4, -⟩ := C3.out.lie; subst e4; dsimp only))
              all_goals
                have HO7 := Lib.hid (show OwnK encT 36 w7 (w.heap.size + 1) v5 (belK f t n (1 + 1)) by
                  rw [HPK.out, if_pos HT.out]
                  have := S7.out.own
                  rwa [List.append_assoc] at this)
                have hz7 : w.heap.size + 2 ≤ w7.heap.size := by have h1 := S7.out.bn.lt; have h2 := S7.out.gl; omega
                go_wp2
                refine ⟨⟨1 + 1, by omega, by go_num, by have O := HO7.out; exact (by repeat (first | (with_reducible assumption) | (with_reducible refine Own.drew ?_) | (with_reducible refine Own.drewN ?_) | (with_reducible refine Own.alloc ?_) | (with_reducible refine OwnK.drew ?_) | (with_reducible refine OwnK.drewN ?_) | (with_reducible refine OwnK.alloc ?_) | ((with_reducible refine OwnK.put ?_ ?_); · first | omega | (simp; done) | (simp; omega)) | ((with_reducible refine Own.below hb ?_)) | ((with_reducible refine OwnK.below hb ?_)))), S7.out.nn, by have Bx := S7.out.bt; exact (by repeat (first | (with_reducible assumption) | ((with_reducible refine Blk.new ?_); · first | omega | (simp; done) | (simp; omega)) | (with_reducible apply Blk.set4) | (with_reducible apply Blk.set3) | (with_reducible apply Blk.set2) | ((with_reducible refine Blk.put ?_ ?_); · first | omega | (simp; omega)) | (with_reducible refine Blk.old ?_) | (with_reducible refine Blk.drew ?_) | (with_reducible refine Blk.drewN ?_) | ((with_reducible refine Blk.below hb ?_ ?_); · first | omega | (simp; done) | (simp; omega)))), by have kk := S7.out.kw; exact (by repeat (first | (with_reducible exact Below.refl _ _) | (with_reducible assumption) | (with_reducible refine Below.drew ?_) | (with_reducible refine Below.drewN ?_) | ((with_reducible refine Below.al ?_ ?_); · first | omega | (simp; done) | (simp; omega)) | ((with_reducible refine Below.sc ?_ ?_); · first | omega | (simp; done) | (simp; omega)) | ((with_reducible refine Below.thru hb ?_ ?_); · first | omega | (simp; done) | (simp; omega)))), by first | exact hz7 | (simp; omega)⟩, ?_⟩
                first | (simp [intOf]; done) | (simp [intOf]; omega)
            · have HT := Lib.hid (show okS t nx k n = false by rw [HOK.out]; simp [hz1, hz2, hk1, hxy])
              have HO7 := Lib.hid (show belK f t n (k + 1) = xs by rw [HPK.out, HT.out]; simp)
              have q1 := S00.out.bt.t
              have q0 := S00.out.bn.t
              have l0 := S00.out.bn.lt
              have hz7 : w.heap.size + 2 ≤ (w1.alloc (.cells (tcs nx) 36)).heap.size := by simp; omega
              subst hk1
              have hne : (t.x != t.y) = false := by simp [hxy]
              clear hxy
              go_wp2
              first
                | (go_roundw
                   case rel => exact ⟨1 + 1, by omega, by go_num, by rw [HO7.out]; exact S00.out.own, S00.out.nn, S00.out.bt, S00.out.kw, hz7⟩
                   case measure => first | (simp [intOf]; done) | (simp [intOf]; omega))
                | (refine ⟨⟨1 + 1, by omega, by go_num, by rw [HO7.out]; exact S00.out.own, S00.out.nn, S00.out.bt, S00.out.kw, hz7⟩, ?_⟩
                   first | (simp [intOf]; done) | (simp [intOf]; omega))
          · have HT := Lib.hid (show okS t nx k n = false by rw [HOK.out]; simp [hz2])
            have HO7 := Lib.hid (show belK f t n (k + 1) = xs by rw [HPK.out, HT.out]; simp)
            have q1 := S00.out.bt.t
            have q0 := S00.out.bn.t
            have l0 := S00.out.bn.lt
            have hz7 : w.heap.size + 2 ≤ (w1.alloc (.cells (tcs nx) 36)).heap.size := by simp; omega
            skip
            go_wp2
            first
              | (go_roundw
                 case rel => exact ⟨k + 1, by omega, by go_num, by rw [HO7.out]; exact S00.out.own, S00.out.nn, S00.out.bt, S00.out.kw, hz7⟩
                 case measure => first | (simp [intOf]; done) | (simp [intOf]; omega))
              | (refine ⟨⟨k + 1, by omega, by go_num, by rw [HO7.out]; exact S00.out.own, S00.out.nn, S00.out.bt, S00.out.kw, hz7⟩, ?_⟩
                 first | (simp [intOf]; done) | (simp [intOf]; omega))
        · have HT := Lib.hid (show okS t nx k n = false by rw [HOK.out]; simp [hz1])
          have HO7 := Lib.hid (show belK f t n (k + 1) = xs by rw [HPK.out, HT.out]; simp)
          have q1 := S00.out.bt.t
          have q0 := S00.out.bn.t
          have l0 := S00.out.bn.lt
          have hz7 : w.heap.size + 2 ≤ (w1.alloc (.cells (tcs nx) 36)).heap.size := by simp; omega
          skip
          go_wp2
          first
            | (go_roundw
               case rel => exact ⟨k + 1, by omega, by go_num, by rw [HO7.out]; exact S00.out.own, S00.out.nn, S00.out.bt, S00.out.kw, hz7⟩
               case measure => first | (simp [intOf]; done) | (simp [intOf]; omega))
            | (refine ⟨⟨k + 1, by omega, by go_num, by rw [HO7.out]; exact S00.out.own, S00.out.nn, S00.out.bt, S00.out.kw, hz7⟩, ?_⟩
               first | (simp [intOf]; done) | (simp [intOf]; omega))
      · obtain rfl : k = 2 := by omega
        have H := Lib.hid (And.intro O (And.intro hnv kwr))
        clear O hnv kwr Bt
        go_wp2
        rw [← HGF.out]
        exact ⟨_, rfl, by rw [bel_two]; exact H.out.1.mono (by omega), H.out.2.1, H.out.2.2⟩

end Go.Proofs.Ytbmkpcenjjdflaa
