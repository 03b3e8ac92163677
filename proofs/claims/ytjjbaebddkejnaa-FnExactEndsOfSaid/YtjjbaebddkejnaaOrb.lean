/- The orbits of a permutation: the program's walk. -/
import Derived.Test.YtjjbaebddkejnaaNms
import Derived.Test.YtjjbaebddkejnaaLn
import Derived.Test.YtjjbaebddkejnaaShelfSort
import Derived.Shelf.SortM.SortNone
import Derived.Sort.OwnSortedInts
import Derived.Deep.OwnRows
namespace Go.Proofs.Ytjjbaebddkejnaa
open Go.RowKit Go.Sort
set_option linter.unusedSimpArgs false

/-- The library's sort over whole numbers of the call's own. -/
theorem sort_any (v : Value) (xs : List Int) (B : Nat) (w : World) (h : Own w B v xs) (hne : xs ≠ []) (hl : xs.length ≤ 1000000000000000000) :
    Calls Try.prog 73 #[v] w fun e w' => e = .returned (.tuple #[]) ∧ (Own w' B v (xs.mergeSort fun x y => decide (x ≤ y)) ∧ w.grownBy w' v.ownBlock) := by
  obtain ⟨h1, h2⟩ := h
  rcases h2 with ⟨rfl, h2⟩ | ⟨g, cap, cur, rfl, hg, hh, hn, hc, hs, ht⟩
  · exact absurd (List.eq_nil_of_length_eq_zero h2) hne
  · have e := AnyM.slices_Sort_int Try.sort64 g 0 cap xs w (holds_of_blockI hh (by rw [Nat.mul_one] at ht; exact ht)) (lt_of_block hh) (by omega)
    refine e.mono ?_
    rintro e w' ⟨rfl, n, os, rfl⟩
    refine ⟨rfl, ?_, grownBy_sortedI _⟩
    have hl' : (xs.mergeSort fun x y => decide (x ≤ y)).length = xs.length := List.length_mergeSort _
    have o := ownsRow_sortedI (os := os) (n := n) (ts := xs.mergeSort fun x y => decide (x ≤ y)) hl' hg hh hn hc hs
    unfold Own
    rw [hl']
    exact o
/-- Which places are met. -/
def mtV (ns : List Int) : Array Value := (ns.map fun x => Value.bool (decide (x ≠ -1))).toArray
theorem mtV_get {ns : List Int} {k : Nat} (hk : k < ns.length) : (mtV ns)[k]? = some (.bool (decide (ns.getD k 0 ≠ -1))) := by
  unfold mtV
  rw [getD_lt hk]
  simp [hk]
theorem mtV_set {ns : List Int} {k : Nat} {c : Int} (hc : 0 ≤ c) : (mtV ns).setIfInBounds k (.bool true) = mtV (ns.set k c) := by
  unfold mtV
  have e : decide (c ≠ -1) = true := decide_eq_true (by omega)
  rw [List.map_set, e, List.setIfInBounds_toArray]
theorem infoBool : (Try.prog.info? 4).map (fun i => (i.zero, i.size, i.bytes)) = some (some (.bool false), 1, 1) := by kernel_rfl
theorem mtV_new (n : Nat) : madeCells #[Value.bool false] n = mtV (List.replicate n (-1)) := by
  apply Array.ext
  · rw [size_madeCells]; simp [mtV]
  · intro j h1 h2
    simp [madeCells, mtV, Nat.mod_one]
/-- The orbits so far, and what is met. -/
structure OSt (w W : World) (m : Nat) (v : Value) (vs : List Sl) (css : List (List Nat)) (g2 : Nat) (ns : List Int) : Prop where
  O : OwnK encV 25 W w.heap.size v vs
  R : RowS W w.heap.size vs css
  B : Blk W g2 4 (mtV ns)
  K : Below w.heap.size w W
  hm : ∀ t ∈ vs, ∀ g, t.v.ownBlock = some g → g < m
  h1 : w.heap.size ≤ m ∧ m ≤ W.heap.size
  h2 : w.heap.size ≤ g2
theorem OSt.grown {w W W' : World} {m g2 : Nat} {v y : Value} {vs : List Sl} {css : List (List Nat)} {ns xs : List Int} (h : OSt w W m v vs css g2 ns) (hy : Own W m y xs) (hg : W.grownBy W' y.ownBlock) : OSt w W' m v vs css g2 ns :=
  ⟨OwnK.grownO hg hy (by decide) h.O, RowS.apart hg hy h.hm h.R, Blk.grownN hg (hy.toK.ne_blk h.B (by decide)) h.B, Below.grownO hg hy h.h1.1 (by have := h.h1; omega) h.K, h.hm, ⟨h.h1.1, by have := h.h1; have := hg.size; omega⟩, h.h2⟩
theorem OSt.below {w W W' : World} {m g2 : Nat} {v : Value} {vs : List Sl} {css : List (List Nat)} {ns : List Int} (h : OSt w W m v vs css g2 ns) (hb : Below W.heap.size W W') : OSt w W' m v vs css g2 ns :=
  ⟨h.O.below hb, h.R.below hb, h.B.below hb h.B.lt, h.K.trans (hb.mono h.K.size), h.hm, ⟨h.h1.1, by have := h.h1; have := hb.size; omega⟩, h.h2⟩
theorem OSt.alloc {w W : World} {m g2 : Nat} {v : Value} {vs : List Sl} {css : List (List Nat)} {ns : List Int} {o : Obj} (h : OSt w W m v vs css g2 ns) : OSt w (W.alloc o) m v vs css g2 ns := h.below ((Below.refl _ _).alloc (Nat.le_refl _) _)
theorem OSt.set {w W : World} {m g2 k : Nat} {v : Value} {vs : List Sl} {css : List (List Nat)} {ns : List Int} {c : Int} (h : OSt w W m v vs css g2 ns) (hc : 0 ≤ c) : OSt w (W.setCell ⟨g2, k, none⟩ (.bool true)) m v vs css g2 (ns.set k c) :=
  ⟨h.O.same fun g hg => Below.heap_setCell _ _ _ _ (fun e => h.O.ne_blk h.B (by decide) (by rw [hg]; exact congrArg some e)), RowS.put (RowS.ne_blk h.B (by decide) h.R) h.R, by rw [← mtV_set hc]; exact h.B.set, h.K.setCell h.h2 _, h.hm, ⟨h.h1.1, by have := h.h1; simp only [World.setCell, Array.size_modify]; omega⟩, h.h2⟩
theorem OSt.snoc {w W W' : World} {m g2 : Nat} {v v' : Value} {vs : List Sl} {css : List (List Nat)} {ns : List Int} {s : Sl} {zs : List Nat} (h : OSt w W m v vs css g2 ns) (hy : Own W m s.v (zs.map Int.ofNat)) (hg : W.grownBy W' v.ownBlock) (hO : OwnK encV 25 W' w.heap.size v' (vs ++ [s])) : OSt w W' W'.heap.size v' (vs ++ [s]) (css ++ [zs]) g2 ns := by
  have hR : RowS W' w.heap.size (vs ++ [s]) (css ++ [zs]) := RowS.grown hg h.O (by decide) (RowS.snoc (hy.mono h.h1.1) h.R fun t ht g hg e => by
    have h1 := h.hm t ht g hg
    have h2 := (hy.lt e).1
    omega)
  have hK : Below w.heap.size w W' := Below.grownK hg h.O (Nat.le_refl _) h.K.size h.K
  exact ⟨hO, hR, Blk.grownN hg (h.O.ne_blk h.B (by decide)) h.B, hK, fun t ht g hg => (hR.lt t ht g hg).2, ⟨hK.size, Nat.le_refl _⟩, h.h2⟩
theorem sort_nats (ys : List Nat) : ∃ zs : List Nat, ((ys.map Int.ofNat).mergeSort fun x y => decide (x ≤ y)) = zs.map Int.ofNat ∧ ∀ x, x ∈ zs ↔ x ∈ ys := by
  refine ⟨((ys.map Int.ofNat).mergeSort fun x y => decide (x ≤ y)).map Int.toNat, ?_, fun x => ?_⟩
  · rw [List.map_map]
    refine (List.map_id _).symm.trans (List.map_congr_left fun a ha => ?_)
    rw [List.mem_mergeSort, List.mem_map] at ha
    obtain ⟨b, -, rfl⟩ := ha
    rfl
  · simp only [List.mem_map, List.mem_mergeSort]
    constructor
    · rintro ⟨a, ⟨b, hb, rfl⟩, rfl⟩
      exact hb
    · intro h
      exact ⟨Int.ofNat x, ⟨x, h, rfl⟩, rfl⟩
/-- How long a slice is. -/
def slLen : Value → Nat
  | .slice _ n _ => n
  | _ => 0
/-- The orbit under way. -/
structure Orw (P : List Int) (N c : Nat) (RES ns : List Int) (k : Nat) (ys : List Nat) : Prop where
  len : ns.length = N
  res : ∃ r, wlk P c r k ns = RES ∧ unm ns ≤ r
  ok : NOk (c + 1) ns
  st : SetOf ys ns c
  sm : ys.length + unm ns ≤ N
  kn : k < N
  nil : ys = [] → ns.getD k 0 = -1
theorem Orw.start {P : List Int} {N c i : Nat} {ns : List Int} (h1 : ns.length = N) (h2 : NOk c ns) (h3 : i < N) (h4 : ns.getD i 0 = -1) : Orw P N c (wlk P c N i ns) ns i [] :=
  ⟨h1, ⟨N, rfl, by have := unm_le ns; omega⟩, h2.mono (by omega), SetOf.nil h2, by have := unm_le ns; simpa [h1] using this, h3, fun _ => h4⟩
theorem Orw.step {P : List Int} {N c k : Nat} {RES ns : List Int} {ys : List Nat} (h : Orw P N c RES ns k ys) (hk : ns.getD k 0 = -1) (hP : (P.getD k 0).toNat < N) : Orw P N c RES (ns.set k c) (P.getD k 0).toNat (ys ++ [k]) := by
  have hl : k < ns.length := by rw [h.len]; exact h.kn
  obtain ⟨r, h1, h2⟩ := h.res
  obtain ⟨r', rfl, e⟩ := wlk_next (P := P) (c := c) hl hk h2
  have hu := unm_set (c := (c : Int)) hl hk (by omega)
  refine ⟨by rw [List.length_set]; exact h.len, ⟨r', by rw [← e]; exact h1, by omega⟩, h.ok.set (by omega), h.st.snoc hl hk, by rw [List.length_append, List.length_singleton]; have := h.sm; omega, hP, fun e => absurd e (by simp)⟩
theorem Orw.done {P : List Int} {N c k : Nat} {RES ns : List Int} {ys : List Nat} (h : Orw P N c RES ns k ys) (hk : ns.getD k 0 ≠ -1) : ns = RES := by
  obtain ⟨r, h1, _⟩ := h.res
  rw [← h1, wlk_done hk]
theorem nats_open {w : World} {v : Value} {M : List Nat} (h : SlIn w .i64 v (M.map Int.ofNat)) :
    ∃ ao c, v = .slice ao M.length c ∧ (0 < M.length → ∃ a : Addr, ao = some a ∧ ∀ k, k < M.length → w.cell? (a.add k) = some (.int .i64 (M.getD k 0 : Nat))) := by
  obtain ⟨ao, c, rfl, ha⟩ := h.form
  refine ⟨ao, c, by rw [List.length_map], fun h0 => ?_⟩
  obtain ⟨a, rfl, hx⟩ := ha (by rw [List.length_map]; exact h0)
  refine ⟨a, rfl, fun k hk => ?_⟩
  rw [hx k (by rw [List.length_map]; exact hk), List.getElem_map, List.getD, List.getElem?_eq_getElem hk]
  rfl
/-- What orbits gives. -/
def GivesO (P : List Int) (N : Nat) (w : World) (e : Ending) (w' : World) : Prop := ∃ v vs css, e = .returned v ∧ OwnK encV 25 w' w.heap.size v vs ∧ RowS w' w.heap.size vs css ∧ OrbOf css (numL P N) ∧ css.length = numC P N ∧ Below w.heap.size w w'

set_option maxRecDepth 8000 in
set_option maxHeartbeats 4000000 in
theorem orbits_any (v : Value) (P : List Int) (N : Nat) (w : World) (h : SlIn w .i64 v P) (hN : P.length = N) (h0 : 1 ≤ N) (h72 : N ≤ 72) (hP : ∀ k, k < N → 0 ≤ P.getD k 0 ∧ P.getD k 0 < N) :
    Calls Try.prog 57 #[v] w (GivesO P N w) := by
  have hmk := run_make_row' (P := Try.prog) 88 4 (.bool false) 1 Try.underlying88 infoBool rfl .i64 .i64 N (by omega) (by omega)
  obtain ⟨ao, c, rfl, hx⟩ := h.form
  rw [hN]
  have HX0 := Lib.hid hx
  have HN := Lib.hid hN
  clear hx h hN
  go_enter Try.func57, Try.ntmps57
  go_wp2_with fail
  go_cut [3, 4] (fun s3 s4 wx => ∃ g1 g2 : Nat, s3 = .slice (some ⟨g1, 0, none⟩) 0 0 ∧ s4 = .slice (some ⟨g2, 0, none⟩) N N ∧ w.heap.size ≤ g1 ∧ w.heap.size ≤ g2 ∧ Blk wx g1 25 #[] ∧ Blk wx g2 4 (madeCells #[.bool false] N) ∧ Below w.heap.size w wx)
  case first =>
    rename_i hK
    go_region_held3 (fun _ => True) (trivial) (fail)
    all_goals go_wp2_with fail
    all_goals go_meet
    all_goals exact ⟨_, _, rfl, rfl, by simp, by simp, (by repeat (first | (with_reducible assumption) | ((with_reducible refine Blk.new ?_); · first | omega | (simp; done) | (simp; omega)) | (with_reducible apply Blk.set4) | (with_reducible apply Blk.set3) | (with_reducible apply Blk.set2) | ((with_reducible refine Blk.put ?_ ?_); · first | omega | (simp; omega)) | (with_reducible refine Blk.old ?_) | (with_reducible refine Blk.drew ?_) | (with_reducible refine Blk.drewN ?_) | ((with_reducible refine Blk.below hb ?_ ?_); · first | omega | (simp; done) | (simp; omega)))), (by repeat (first | (with_reducible assumption) | ((with_reducible refine Blk.new ?_); · first | omega | (simp; done) | (simp; omega)) | (with_reducible apply Blk.set4) | (with_reducible apply Blk.set3) | (with_reducible apply Blk.set2) | ((with_reducible refine Blk.put ?_ ?_); · first | omega | (simp; omega)) | (with_reducible refine Blk.old ?_) | (with_reducible refine Blk.drew ?_) | (with_reducible refine Blk.drewN ?_) | ((with_reducible refine Blk.below hb ?_ ?_); · first | omega | (simp; done) | (simp; omega)))), (by repeat (first | (with_reducible exact Below.refl _ _) | (with_reducible assumption) | (with_reducible refine Below.drew ?_) | (with_reducible refine Below.drewN ?_) | ((with_reducible refine Below.al ?_ ?_); · first | omega | (simp; done) | (simp; omega)) | ((with_reducible refine Below.sc ?_ ?_); · first | omega | (simp; done) | (simp; omega)) | ((with_reducible refine Below.thru hb ?_ ?_); · first | omega | (simp; done) | (simp; omega))))⟩
  case rest =>
    obtain ⟨g1, g2, rfl, rfl, hg1, hg2, B1, B2, hb⟩ := hcut
    rw [mtV_new] at B2
    have S0 : OSt w wc w.heap.size (.slice (some ⟨g1, 0, none⟩) 0 0) [] [] g2 (numTo P N 0).1 := ⟨OwnK.of_blk (xs := []) B1 hg1 rfl (by simp [maxLen]), trivial, B2, hb, fun t ht => (by cases ht), ⟨Nat.le_refl _, hb.size⟩, hg2⟩
    have HS0 := Lib.hid S0
    have HINF := Lib.hid (info_parts infoSl)
    have HINI := Lib.hid (info_parts infoI)
    have HO0 := Lib.hid (show OrbOf [] (numTo P N 0).1 ∧ ([] : List (List Nat)).length = (numTo P N 0).2 from ⟨fun j hj => absurd hj (by simp), rfl⟩)
    clear S0 B1 B2 hb
    go_wp2_with fail
    go_loopw [3, 14] (fun v ii wr => ∃ (i : Nat) (vs : List Sl) (css : List (List Nat)), i ≤ N ∧ ii = .int .i64 i ∧ Hid (OSt w wr wr.heap.size v vs css g2 (numTo P N i).1) ∧ Hid (OrbOf css (numTo P N i).1 ∧ css.length = (numTo P N i).2)) (fun _ ii _ => N - (intOf ii).toNat)
    case atStart =>
      have S0 := HS0.out
      exact ⟨0, [], [], Nat.zero_le _, rfl, Lib.hid ⟨S0.O, S0.R, S0.B, S0.K, fun t ht => (by cases ht), ⟨S0.K.size, Nat.le_refl _⟩, S0.h2⟩, HO0⟩
    case round =>
      clear HS0 HO0
      obtain ⟨i, vs, css, hi, rfl, HS, HC⟩ := hrel
      have hcnt := numTo_cnt P N i
      have HLN := Lib.hid (numTo_len P N i)
      have HOK := Lib.hid (numTo_ok P N i)
      obtain ⟨vo, vc, rfl⟩ := HS.out.O.len
      have kwr := HS.out.K
      have swr := kwr.size
      by_cases hlt : i < N
      · have c0 := HS.out.B.at (mtV_get (k := i) (by rw [HLN.out]; exact hlt))
        have f0 := HS.out.B.free i
        have i0 : (0 : Int) ≤ (i : Int) := by omega
        have i1 : (i : Int) < (N : Int) := by omega
        by_cases hm : (numTo P N i).1.getD i 0 = -1
        · have HX := Lib.hid (show numTo P N (i + 1) = (wlk P (numTo P N i).2 N i (numTo P N i).1, (numTo P N i).2 + 1) by rw [numTo, if_pos hm])
          rw [decide_eq_false (fun h => h hm)] at c0
          have HW := Lib.hid (Orw.start (P := P) HLN.out HOK.out hlt hm)
          generalize hq : numTo P N i = q at *
          obtain ⟨ns0, c⟩ := q
          clear hq hm
          simp only at c0 f0 hcnt HW HX HC
          generalize hRES : wlk P c N i ns0 = RES at *
          have HRES := Lib.hid hRES
          clear hRES
          go_wp2_with fail
          refine forget (fun W_ => Own W_ wr.heap.size (.slice (some ⟨wr.heap.size, 0, none⟩) 0 0) [] ∧ Hid (OSt w W_ wr.heap.size (.slice vo vs.length vc) vs css g2 ns0) ∧ Below w.heap.size w W_) ⟨Own.of_blk (xs := []) (by repeat (first | (with_reducible assumption) | ((with_reducible refine Blk.new ?_); · first | omega | (simp; done) | (simp; omega)) | (with_reducible apply Blk.set4) | (with_reducible apply Blk.set3) | (with_reducible apply Blk.set2) | ((with_reducible refine Blk.put ?_ ?_); · first | omega | (simp; omega)) | (with_reducible refine Blk.old ?_) | (with_reducible refine Blk.drew ?_) | (with_reducible refine Blk.drewN ?_) | ((with_reducible refine Blk.below hb ?_ ?_); · first | omega | (simp; done) | (simp; omega)))) (Nat.le_refl _) rfl (by simp [maxLen]), Lib.hid HS.out.alloc, (by repeat (first | (with_reducible exact Below.refl _ _) | (with_reducible assumption) | (with_reducible refine Below.drew ?_) | (with_reducible refine Below.drewN ?_) | ((with_reducible refine Below.al ?_ ?_); · first | omega | (simp; done) | (simp; omega)) | ((with_reducible refine Below.sc ?_ ?_); · first | omega | (simp; done) | (simp; omega)) | ((with_reducible refine Below.thru hb ?_ ?_); · first | omega | (simp; done) | (simp; omega))))⟩ ?_
          rintro w0 ⟨OY, HS1, kw0⟩
          clear HS c0 f0 kwr
          generalize wr.heap.size = m at *
          have HM := Lib.hid swr
          clear swr
          go_loopw [6, 7] (fun y kk wr => ∃ (k : Nat) (ys : List Nat) (ns : List Int), kk = .int .i64 k ∧ Hid (Own wr m y (ys.map Int.ofNat)) ∧ Hid (OSt w wr m (.slice vo vs.length vc) vs css g2 ns) ∧ Hid (Orw P N c RES ns k ys)) (fun y _ _ => N - slLen y)
          case atStart => exact ⟨i, [], ns0, rfl, Lib.hid OY, HS1, HW⟩
          case round =>
            clear OY HS1 HW kw0
            obtain ⟨k, ys, ns, rfl, HY, HS, HW⟩ := hrel
            have kwr := HS.out.K
            have swr := kwr.size
            have swm := HS.out.h1.2
            obtain ⟨yo, yc, rfl, -⟩ := nats_open HY.out.slIn
            have hk := HW.out.kn
            have c0 := HS.out.B.at (mtV_get (k := k) (by rw [HW.out.len]; exact hk))
            have f0 := HS.out.B.free k
            have i0 : (0 : Int) ≤ (k : Int) := by omega
            have i1 : (k : Int) < (N : Int) := by omega
            by_cases hm : ns.getD k 0 = -1
            · rw [decide_eq_false (fun h => h hm)] at c0
              have hp := hP k hk
              have HW2 := Lib.hid (HW.out.step hm (by omega))
              have hul := HW2.out.sm
              rw [List.length_append, List.length_singleton] at hul
              obtain ⟨oa, rfl, hoa⟩ := HX0.out (by rw [HN.out]; omega)
              have HP := Lib.hid (show ∀ W : World, Below w.heap.size w W → W.cell? (oa.add k) = some (.int .i64 (P.getD k 0)) from fun W hW => by
                have e := hoa k (by rw [HN.out]; exact hk)
                rw [getD_lt (by rw [HN.out]; exact hk), hW.cell (block_lt_of_cell e :)]
                exact e)
              have hpt : ((P.getD k 0).toNat : Int) = P.getD k 0 := by omega
              have HPT := Lib.hid hpt
              clear hoa hpt hm
              generalize P.getD k 0 = p at *
              obtain ⟨jI, hinf⟩ := HINI.out
              replace hinf := Lib.hid hinf
              go_wp2_with (at_builtin; refine wpList_app encI rfl _ _ 25 2 8 rfl Try.underlying25 jI _ hinf.out.1 hinf.out.2.1 hinf.out.2.2.1 hinf.out.2.2.2 rfl (.slice yo ys.length yc) (ys.map Int.ofNat) m wr.heap.size 1 #[.int .i64 (k : Int)] [(k : Int)] rfl ?o1 rfl ?b1 rfl ?l1 ?l2 (by first | omega | (simp; done) | (simp; omega)) ?_)
              case o1 =>
                have N1 : (Value.slice yo ys.length yc).ownBlock ≠ some g2 := HY.out.toK.ne_blk HS.out.B (by decide)
                exact (HY.out.put N1).alloc.toK
              case b1 => exact Blk.new (by simp [World.setCell])
              case l1 => (try simp only [List.length_map, List.length_cons, List.length_nil]); unfold maxLen; omega
              case l2 => (try simp only [List.length_map, List.length_cons, List.length_nil]); omega
              intro v' w6 O6 hg
              have N1 : (Value.slice yo ys.length yc).ownBlock ≠ some g2 := HY.out.toK.ne_blk HS.out.B (by decide)
              have O7 : Own w6 m v' ((ys ++ [k]).map Int.ofNat) := by rw [List.map_append]; exact OwnK.toOwn O6
              have S7 := (OSt.alloc (o := .cells #[.int .i64 (k : Int)] 2) (HS.out.set (k := k) (c := (c : Int)) (by omega))).grown ((HY.out.put N1).alloc) hg
              obtain ⟨yo', yc', rfl, -⟩ := nats_open O7.slIn
              have HO7 := Lib.hid O7
              have HS7 := Lib.hid S7
              have kw6 := S7.K
              have cp := HP.out w6 kw6
              clear hg O6 O7 S7 HY HS HW c0 f0 kwr
              go_wp2
              go_roundw
              case rel => exact ⟨p.toNat, ys ++ [k], ns.set k c, by rw [HPT.out], HO7, HS7, HW2⟩
              case measure => simp [slLen]; omega
            · have HD := Lib.hid (HW.out.done hm)
              have hne : ys.map Int.ofNat ≠ [] := fun e => hm (HW.out.nil (List.map_eq_nil_iff.1 e))
              have hul := HW.out.sm
              have HST := Lib.hid HW.out.st
              rw [decide_eq_true hm] at c0
              clear hm
              go_wp2_with fail
              refine (sort_any _ (ys.map Int.ofNat) m _ HY.out hne (by rw [List.length_map]; omega)).mono ?_
              rintro e w5 ⟨rfl, O5, hg5⟩
              obtain ⟨zs, hz, hzs⟩ := sort_nats ys
              rw [hz] at O5
              have S5 := HS.out.grown HY.out hg5
              rw [HD.out] at S5
              have HC2 := Lib.hid (OrbOf.snoc (P := P) (c := c) (r := N) (k := i) (ys := zs) HC.out.1 HC.out.2 (by rw [HRES.out, ← HD.out]; exact fun x => (hzs x).trans (HST.out x)))
              rw [HRES.out] at HC2
              have hk5 := S5.K
              have sz5 := hk5.size
              have s5m := S5.h1.2
              have HO5 := Lib.hid O5
              have HS5 := Lib.hid S5
              obtain ⟨jI, hinf⟩ := HINF.out
              replace hinf := Lib.hid hinf
              have hcl : vs.length ≤ i := by have h1 := S5.R.len; have h2 := HC.out.2; omega
              have HCC := Lib.hid HC.out.2
              clear hz hzs hg5 HY HS HW HST c0 f0 kwr O5 S5 hne hk5
              go_wp2_with (at_builtin; refine wpList_app encV rfl _ _ 38 25 24 rfl Try.underlying38 jI _ hinf.out.1 hinf.out.2.1 hinf.out.2.2.1 hinf.out.2.2.2 rfl (.slice vo vs.length vc) vs w.heap.size w5.heap.size 1 #[.slice yo ys.length yc] [⟨yo, ys.length, yc⟩] rfl ?o2 rfl ?b2 rfl ?l3 ?l4 (by first | omega | (simp; done) | (simp; omega)) ?_)
              case o2 => exact HS5.out.alloc.O
              case b2 => exact Blk.new (by simp)
              case l3 => simp only [List.length_cons, List.length_nil, maxLen]; omega
              case l4 => simp only [List.length_cons, List.length_nil]; omega
              intro v' w6 O6 hg
              have S6 := OSt.snoc (s := ⟨yo, ys.length, yc⟩) (HS5.out.alloc (o := .cells #[.slice yo ys.length yc] 25)) HO5.out.alloc hg O6
              have HS6 := Lib.hid S6
              have HL6 := Lib.hid (show (css ++ [zs]).length = c + 1 by rw [List.length_append, List.length_singleton]; have := HCC.out; omega)
              clear hg O6 S6 HS5 HO5 hcl HCC
              go_wp2
              go_roundw
              case rel => exact ⟨i + 1, vs ++ [⟨yo, ys.length, yc⟩], css ++ [zs], by omega, by go_num, by rw [HX.out]; exact HS6, by rw [HX.out]; exact Lib.hid ⟨HC2.out, HL6.out⟩⟩
              case measure => simp [intOf]; omega
        · have HX := Lib.hid (show numTo P N (i + 1) = numTo P N i by rw [numTo, if_neg hm])
          rw [decide_eq_true hm] at c0
          clear hm
          go_wp2
          go_roundw
          case rel => exact ⟨i + 1, vs, css, by omega, by go_num, by rw [HX.out]; exact HS, by rw [HX.out]; exact HC⟩
          case measure => simp [intOf]; omega
      · obtain rfl : i = N := by omega
        go_wp2
        refine bodyPost_ret (v := .slice vo vs.length vc) (by simp [results, Try.results57, go_sem]) rfl ?_
        exact ⟨_, vs, css, rfl, HS.out.O, HS.out.R, HC.out.1, HC.out.2, kwr⟩

end Go.Proofs.Ytjjbaebddkejnaa

/- Cusps: the reference's numbers of the orbits. -/
namespace Go.Proofs.Ytjjbaebddkejnaa
open Go.RowKit
set_option linter.unusedSimpArgs false

theorem OwnI.set {w : World} {B g j n cap : Nat} {xs : List Int} {x : Int} (h : Own w B (.slice (some ⟨g, 0, none⟩) n cap) xs) (hn : xs.length = n) : Own (w.setCell ⟨g, j, none⟩ (.int .i64 x)) B (.slice (some ⟨g, 0, none⟩) n cap) (xs.set j x) := by
  subst hn
  unfold Own at *
  have := (World.ownsRow.stored h j (.int .i64 x)).1
  rw [List.length_set, List.map_set]
  exact this
/-- The step to the next place of an orbit. -/
def tM : M := ⟨1, 1, 0, 1⟩
theorem mv_T {n : Nat} {x : Nat × Nat} : mv1 n tM x = idxP (lineL n) (nrmC n (x.1 : Int) ((x.1 : Int) + (x.2 : Int))) := by
  unfold mv1 tM
  simp only [Int.mul_one, Int.mul_zero, Int.add_zero]
/-- What a level's orbits need: each pair's next one is in the line. -/
structure Lvl (n : Nat) : Prop where
  n1 : 1 ≤ n ∧ n ≤ 60
  l72 : (lineL n).length ≤ 72
  l0 : 1 ≤ (lineL n).length
  pr : ∀ k (hk : k < (lineL n).length), isPrC n ((lineL n)[k].1 : Int) (((lineL n)[k].1 : Int) + ((lineL n)[k].2 : Int)) = true
  inL : ∀ k (hk : k < (lineL n).length), 0 ≤ mv1 n tM (lineL n)[k]
theorem idxP_lt {xs : List (Nat × Nat)} {p : Nat × Nat} (h : 0 ≤ idxP xs p) : idxP xs p < xs.length := by
  unfold idxP at h ⊢
  split at h
  · rename_i hm
    rw [if_pos hm]
    have := List.idxOf_lt_length_iff.2 hm
    omega
  · omega
theorem movL_getD {n : Nat} {m : M} {k : Nat} (hk : k < (lineL n).length) : (movL n m).getD k 0 = mv1 n m (lineL n)[k] := by
  unfold movL
  rw [getD_lt (by rw [List.length_map]; exact hk), List.getElem_map]
theorem movL_len (n : Nat) (m : M) : (movL n m).length = (lineL n).length := by unfold movL; rw [List.length_map]
theorem cell_later {W : World} {a : Addr} {v : Value} (h : W.cell? a = some v) (x : Later W) : x.w.cell? a = some v := by
  rw [x.h.cell (block_lt_of_cell h :)]
  exact h
theorem LineC.later {W : World} {m : Nat} {v : Value} {xs : List (Nat × Nat)} (h : LineC W m v xs) (hm : m ≤ W.heap.size) (x : Later W) : LineC x.w m v xs := h.below (x.h.mono hm)
theorem later_size {W : World} {m : Nat} (hm : m ≤ W.heap.size) (x : Later W) : m ≤ x.w.heap.size := Nat.le_trans hm x.h.size
theorem get_getD {ns : List Int} {k : Nat} (h : k < ns.length) : ns[k]? = some (ns.getD k 0) := by rw [getD_lt h, List.getElem?_eq_getElem h]
theorem Own.fr {w : World} {B g n c : Nat} {xs : List Int} (h : Own w B (.slice (some ⟨g, 0, none⟩) n c) xs) : (∀ i, w.frozen? ⟨g, i, none⟩ = false) ∧ B ≤ g ∧ g < w.heap.size := by
  rcases h.toK.form with ⟨h1, -⟩ | ⟨g2, cap, h1, h2, h3, -, -, h4⟩
  · cases h1
  · simp only [Value.slice.injEq, Option.some.injEq, Addr.mk.injEq] at h1
    obtain ⟨⟨rfl, -⟩, -⟩ := h1
    exact ⟨h4, h2, h3⟩
def GivesU (n : Nat) (w : World) (e : Ending) (w' : World) : Prop := ∃ v, e = .returned (.tuple #[v, .int .i64 (numC (movL n tM) (lineL n).length : Nat)]) ∧ Own w' w.heap.size v (numL (movL n tM) (lineL n).length) ∧ Below w.heap.size w w'

set_option maxRecDepth 8000 in
set_option maxHeartbeats 4000000 in
theorem l06Cusps_any (n : Nat) (v : Value) (mm : Nat) (w : World) (h : LineC w mm v (lineL n)) (hmm : mm ≤ w.heap.size) (HV : Lvl n) :
    Calls Try.prog 34 #[.int .i64 (n : Int), v] w (GivesU n w) := by
  have HLC := Lib.hid h
  have hn := HV.n1
  have hl := HV.l72
  have hl0 := HV.l0
  have HST := Lib.hid (show ∀ k (hk : k < (lineL n).length), ∀ w' : World, LineC w' mm v (lineL n) → mm ≤ w'.heap.size → Calls Try.prog 35 #[.int .i64 (n : Int), v, .int .i64 ((lineL n)[k].1 : Int), .int .i64 (((lineL n)[k].1 : Int) + ((lineL n)[k].2 : Int))] w' fun e w'' => e = .returned (.int .i64 ((movL n tM).getD k 0)) ∧ Below w'.heap.size w' w'' by
    intro k hk w' h1 h2
    have := l06Number_any n ((lineL n)[k].1 : Int) (((lineL n)[k].1 : Int) + ((lineL n)[k].2 : Int)) (lineL n) v mm w' h1 h2 (by omega) hn (HV.pr k hk)
    rwa [← mv_T, ← movL_getD hk] at this)
  have HP := Lib.hid (show ∀ k (hk : k < (lineL n).length), 0 ≤ (movL n tM).getD k 0 ∧ (movL n tM).getD k 0 < (lineL n).length by
    intro k hk
    have := HV.inL k hk
    rw [movL_getD hk]
    refine ⟨this, ?_⟩
    unfold mv1 at this ⊢
    exact idxP_lt this)
  have HLT := Lib.hid (show ∀ k (hk : k < (lineL n).length), (lineL n)[k].1 < 60 ∧ (lineL n)[k].2 < 60 from fun k hk => by have := line_lt hk; omega)
  unfold GivesU
  generalize movL n tM = P at *
  generalize lineL n = L at *
  obtain ⟨N, hNe⟩ : ∃ N, L.length = N := ⟨_, rfl⟩
  have HLN := Lib.hid hNe
  rw [hNe] at hl hl0 ⊢
  clear hNe HV h
  obtain ⟨GF, hGF⟩ : ∃ GF : Ending → World → Prop, (fun e w' => ∃ v, e = .returned (.tuple #[v, .int .i64 (numC P N : Nat)]) ∧ Own w' w.heap.size v (numL P N) ∧ Below w.heap.size w w') = GF := ⟨_, rfl⟩
  rw [hGF]
  have HGF := Lib.hid hGF
  clear hGF
  obtain ⟨ao, c, hv, -⟩ := HLC.out
  rw [HLN.out] at hv
  subst hv
  have HINI := Lib.hid (info_parts infoI)
  go_enter Try.func34, Try.ntmps34
  go_wp2_with fail
  refine forget (fun W_ => Own W_ w.heap.size (.slice (some ⟨w.heap.size, 0, none⟩) 0 0) [] ∧ Below w.heap.size w W_) ⟨Own.of_blk (xs := []) (by repeat (first | (with_reducible assumption) | ((with_reducible refine Blk.new ?_); · first | omega | (simp; done) | (simp; omega)) | (with_reducible apply Blk.set4) | (with_reducible apply Blk.set3) | (with_reducible apply Blk.set2) | ((with_reducible refine Blk.put ?_ ?_); · first | omega | (simp; omega)) | (with_reducible refine Blk.old ?_) | (with_reducible refine Blk.drew ?_) | (with_reducible refine Blk.drewN ?_) | ((with_reducible refine Blk.below hb ?_ ?_); · first | omega | (simp; done) | (simp; omega)))) (Nat.le_refl _) rfl (by simp [maxLen]), (by repeat (first | (with_reducible exact Below.refl _ _) | (with_reducible assumption) | (with_reducible refine Below.drew ?_) | (with_reducible refine Below.drewN ?_) | ((with_reducible refine Below.al ?_ ?_); · first | omega | (simp; done) | (simp; omega)) | ((with_reducible refine Below.sc ?_ ?_); · first | omega | (simp; done) | (simp; omega)) | ((with_reducible refine Below.thru hb ?_ ?_); · first | omega | (simp; done) | (simp; omega))))⟩ ?_
  rintro w0 ⟨O0, k0⟩
  go_loopw [6, 8] (fun v ii wr => ∃ i : Nat, i ≤ N ∧ ii = .int .i64 i ∧ Own wr w.heap.size v (List.replicate i (-1)) ∧ Below w.heap.size w wr) (fun _ ii _ => N - (intOf ii).toNat)
  case atStart => exact ⟨0, Nat.zero_le _, rfl, O0, k0⟩
  case round =>
    clear O0 k0
    obtain ⟨i, hi, rfl, O, kwr⟩ := hrel
    have HO := Lib.hid O
    obtain ⟨vo, vc, rfl, -⟩ := O.slIn.form
    rw [List.length_replicate] at *
    have swr := kwr.size
    by_cases hlt : i < N
    · obtain ⟨jI, hinf⟩ := HINI.out
      replace hinf := Lib.hid hinf
      clear O
      go_wp2_with (at_builtin; refine wpList_app encI rfl _ _ 25 2 8 rfl Try.underlying25 jI _ hinf.out.1 hinf.out.2.1 hinf.out.2.2.1 hinf.out.2.2.2 rfl (.slice vo i vc) (List.replicate i (-1)) w.heap.size wr.heap.size 1 #[.int .i64 (-1)] [(-1)] rfl ?o1 rfl ?b1 rfl ?l1 ?l2 (by first | omega | (simp; done) | (simp; omega)) ?_)
      case o1 => exact HO.out.alloc.toK
      case b1 => exact Blk.new (by simp)
      case l1 => (try simp only [List.length_replicate, List.length_cons, List.length_nil]); unfold maxLen; omega
      case l2 => (try simp only [List.length_replicate, List.length_cons, List.length_nil]); omega
      intro v' w6 O6 hg
      have k6 : Below w.heap.size w w6 := Below.grownO hg HO.out.alloc (Nat.le_refl _) (by simp; omega) (by repeat (first | (with_reducible exact Below.refl _ _) | (with_reducible assumption) | (with_reducible refine Below.drew ?_) | (with_reducible refine Below.drewN ?_) | ((with_reducible refine Below.al ?_ ?_); · first | omega | (simp; done) | (simp; omega)) | ((with_reducible refine Below.sc ?_ ?_); · first | omega | (simp; done) | (simp; omega)) | ((with_reducible refine Below.thru hb ?_ ?_); · first | omega | (simp; done) | (simp; omega))))
      have O7 : Own w6 w.heap.size v' (List.replicate (i + 1) (-1)) := by rw [List.replicate_succ']; exact OwnK.toOwn O6
      have HO7 := Lib.hid O7
      clear hg O6 O7
      go_wp2
      go_roundw
      case rel => exact ⟨i + 1, by omega, by go_num, HO7.out, k6⟩
      case measure => simp [intOf]; omega
    · obtain rfl : i = N := by omega
      obtain ⟨gb, rfl⟩ : ∃ gb, vo = some ⟨gb, 0, none⟩ := by
        rcases O.toK.form with ⟨h1, h2⟩ | ⟨g, cap, h1, -⟩
        · have := congrArg List.length h2
          rw [List.length_replicate] at this
          simp at this
          omega
        · simp only [Value.slice.injEq] at h1
          exact ⟨g, h1.1⟩
      have HO0 := Lib.hid (show Own wr w.heap.size (.slice (some ⟨gb, 0, none⟩) i vc) (numTo P i 0).1 from O)
      clear O HO
      go_wp2_with fail
      go_loopw [7, 9] (fun cc ii wr => ∃ k : Nat, k ≤ i ∧ ii = .int .i64 k ∧ cc = .int .i64 ((numTo P i k).2 : Nat) ∧ Hid (Own wr w.heap.size (.slice (some ⟨gb, 0, none⟩) i vc) (numTo P i k).1) ∧ Below w.heap.size w wr) (fun _ ii _ => i - (intOf ii).toNat)
      case atStart => exact ⟨0, Nat.zero_le _, rfl, rfl, HO0, kwr⟩
      case round =>
        clear HO0 kwr swr hlt
        obtain ⟨k0, hk0, rfl, rfl, HO, kwr⟩ := hrel
        have hcnt := numTo_cnt P i k0
        have HNL := Lib.hid (numTo_len P i k0)
        have HOK := Lib.hid (numTo_ok P i k0)
        have swr := kwr.size
        by_cases hlt : k0 < i
        · have c0 := HO.out.at (g := gb) rfl (get_getD (k := k0) (by rw [HNL.out]; exact hlt))
          have i0 : (0 : Int) ≤ (k0 : Int) := by omega
          have i1 : (k0 : Int) < (i : Int) := by omega
          by_cases hm : (numTo P i k0).1.getD k0 0 = -1
          · have HX := Lib.hid (show numTo P i (k0 + 1) = (wlk P (numTo P i k0).2 i k0 (numTo P i k0).1, (numTo P i k0).2 + 1) by rw [numTo, if_pos hm])
            have HW := Lib.hid (Orw.start (P := P) HNL.out HOK.out hlt hm)
            rw [hm] at c0
            generalize hq : numTo P i k0 = q at *
            obtain ⟨ns0, cc⟩ := q
            clear hq hm
            simp only at c0 hcnt HW HX HO
            generalize wlk P cc i k0 ns0 = RES at *
            go_wp2_with fail
            go_loopg [10] i (fun gk at_ wr => ∃ (k : Nat) (ys : List Nat) (ns : List Int), at_ = .int .i64 (k : Int) ∧ Hid (unm ns ≤ gk) ∧ Hid (Own wr w.heap.size (.slice (some ⟨gb, 0, none⟩) i vc) ns) ∧ Hid (Orw P i cc RES ns k ys) ∧ Below w.heap.size w wr)
            case atStart => exact ⟨k0, [], ns0, rfl, Lib.hid (by have := unm_le ns0; have := HNL.out; omega), HO, HW, kwr⟩
            case round =>
              clear HO HW kwr swr c0
              obtain ⟨k, ys, ns, rfl, HU, HO, HW, kwr⟩ := hrel
              have swr := kwr.size
              have hk := HW.out.kn
              have c0 := HO.out.at (g := gb) rfl (get_getD (k := k) (by rw [HW.out.len]; exact hk))
              have f0 := HO.out.fr.1 k
              have hgb := HO.out.fr.2
              have j0 : (0 : Int) ≤ (k : Int) := by omega
              have j1 : (k : Int) < (i : Int) := by omega
              by_cases hm : ns.getD k 0 = -1
              · rw [hm] at c0
                have hp := HP.out k (by rw [HLN.out]; exact hk)
                rw [HLN.out] at hp
                have HW2 := Lib.hid (HW.out.step hm (by omega))
                have HU2 := Lib.hid (show unm (ns.set k cc) + 1 = unm ns from unm_set (by rw [HW.out.len]; exact hk) hm (by omega))
                have hgk : gk ≠ 0 := by have := HU.out; have := HU2.out; omega
                have HPT := Lib.hid (show ((P.getD k 0).toNat : Int) = P.getD k 0 by omega)
                have HC1 := Lib.hid (HST.out k (by rw [HLN.out]; exact hk))
                have hx := HLT.out k (by rw [HLN.out]; exact hk)
                have HO2 := Lib.hid (OwnI.set (j := k) (x := (cc : Int)) HO.out HW.out.len)
                have kk2 : Below w.heap.size w (wr.setCell ⟨gb, k, none⟩ (.int .i64 (cc : Int))) := kwr.setCell hgb.1 _
                have HLW := Lib.hid (fun W (hW : Below w.heap.size w W) => HLC.out.below (hW.mono hmm))
                have hL := HLW.out _ kk2
                obtain ⟨ao2, c2, hv2, hcs⟩ := hL
                rw [HLN.out] at hv2
                simp only [Value.slice.injEq, true_and] at hv2
                obtain ⟨rfl, rfl⟩ := hv2
                obtain ⟨g, rfl, hg, hcs⟩ := hcs (by rw [HLN.out]; omega)
                obtain ⟨g2, cc2, hg2, d0, d1, d2⟩ := hcs k (by rw [HLN.out]; exact hk)
                clear hcs hm
                have hlk : k < L.length := by rw [HLN.out]; exact hk
                generalize L[k] = x at *
                obtain ⟨x1, x2⟩ := x
                simp only at d1 d2 hx HC1
                have hw2 : IntKind.i64.wrap ((x1 : Int) + (x2 : Int)) = (x1 : Int) + (x2 : Int) := by rw [IntKind.wrap_i64]; omega
                generalize P.getD k 0 = p at *
                go_wp2_with fail
                refine forget (fun W_ => Hid (Own W_ w.heap.size (.slice (some ⟨gb, 0, none⟩) i vc) (ns.set k cc)) ∧ W_.cell? ⟨g, k, none⟩ = some (.slice (some ⟨g2, 0, none⟩) 2 cc2) ∧ W_.cell? ⟨g2, 0, none⟩ = some (.int .i64 (x1 : Int)) ∧ W_.cell? ⟨g2, 1, none⟩ = some (.int .i64 (x2 : Int)) ∧ Below w.heap.size w W_) ⟨HO2, d0, d1, d2, kk2⟩ ?_
                clear d0 d1 d2 HO2 kk2 HO c0 f0 kwr
                rintro w3 ⟨HO3, d0, d1, d2, kw3⟩
                have sw3 := kw3.size
                have D0 := cell_later d0
                have D1 := cell_later d1
                have D2 := cell_later d2
                have HL3 := Lib.hid (LineC.later (HLW.out _ kw3) (by omega))
                have HZ := Lib.hid (later_size (W := w3) (m := mm) (by omega))
                clear d0 d1 d2
                refine wp_region_calm (by kernel_rfl) (by kernel_rfl) ?_
                repeat (go_big_quiet_step (first | (go_at_call 35; with_reducible exact Calls.calm ((HC1.out _ (HL3.out _) (HZ.out _))))))
                refine wpQuiet_nil ?_
                rintro w4 ⟨⟨_, hb⟩, rfl⟩
                have kq4 : Below w3.heap.size w3 w4 := (by repeat (first | (with_reducible exact Below.refl _ _) | (with_reducible assumption) | (with_reducible refine Below.drew ?_) | (with_reducible refine Below.drewN ?_) | ((with_reducible refine Below.al ?_ ?_); · first | omega | (simp; done) | (simp; omega)) | ((with_reducible refine Below.sc ?_ ?_); · first | omega | (simp; done) | (simp; omega)) | ((with_reducible refine Below.thru hb ?_ ?_); · first | omega | (simp; done) | (simp; omega))))
                have kw4 : Below w.heap.size w w4 := (by repeat (first | (with_reducible exact Below.refl _ _) | (with_reducible assumption) | (with_reducible refine Below.drew ?_) | (with_reducible refine Below.drewN ?_) | ((with_reducible refine Below.al ?_ ?_); · first | omega | (simp; done) | (simp; omega)) | ((with_reducible refine Below.sc ?_ ?_); · first | omega | (simp; done) | (simp; omega)) | ((with_reducible refine Below.thru hb ?_ ?_); · first | omega | (simp; done) | (simp; omega))))
                have sw4 := kw4.size
                clear hb
                have HO4 := Lib.hid (HO3.out.below kq4)
                clear D0 D1 D2 HO3 HL3 HZ
                go_wp2
                go_roundg (gk - 1)
                case rel => exact ⟨p.toNat, ys ++ [k], ns.set k cc, by rw [HPT.out], Lib.hid (by have := HU.out; have := HU2.out; omega), HO4, HW2, kw4⟩
                case measure => omega
              · have HD := Lib.hid (HW.out.done hm)
                have hx := HW.out.ok k (by rw [HW.out.len]; exact hk)
                have hx0 : 0 ≤ ns.getD k 0 := by omega
                clear hx hm
                generalize ns.getD k 0 = x at *
                go_wp2
                go_roundw
                case rel => exact ⟨k0 + 1, by omega, by go_num, by rw [HX.out]; rfl, by rw [HX.out, ← HD.out]; exact HO, kwr⟩
                case measure => simp [intOf]; omega
          · have HX := Lib.hid (show numTo P i (k0 + 1) = numTo P i k0 by rw [numTo, if_neg hm])
            have hx := HOK.out k0 (by rw [HNL.out]; exact hlt)
            have hx0 : 0 ≤ (numTo P i k0).1.getD k0 0 := by omega
            clear hx hm
            generalize (numTo P i k0).1.getD k0 0 = x at *
            go_wp2
            go_roundw
            case rel => exact ⟨k0 + 1, by omega, by go_num, by rw [HX.out], by rw [HX.out]; exact HO, kwr⟩
            case measure => simp [intOf]; omega
        · obtain rfl : k0 = i := by omega
          go_wp2
          rw [← HGF.out]
          exact ⟨_, rfl, HO.out, kwr⟩

end Go.Proofs.Ytjjbaebddkejnaa
