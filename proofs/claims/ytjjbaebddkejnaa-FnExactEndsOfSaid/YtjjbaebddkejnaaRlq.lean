/- The reference's relations. -/
import Derived.Test.YtjjbaebddkejnaaRls
namespace Go.Proofs.Ytjjbaebddkejnaa
open Go.RowKit
set_option linter.unusedSimpArgs false

/-- Slices that are rows of numbers, of the call's own. -/
def RowA (w : World) (B : Nat) (vs : List Sl) (css : List (List Nat)) : Prop := vs.length = css.length ∧ ∀ (j : Nat) (s : Sl) (c : List Nat), vs[j]? = some s → css[j]? = some c → Own w B s.v (c.map Int.ofNat)
theorem RowA.nil (w : World) (B : Nat) : RowA w B [] [] := ⟨rfl, fun j s c h => by simp at h⟩
theorem RowA.keep {w w' : World} {B : Nat} {vs : List Sl} {css : List (List Nat)} (hk : ∀ (s : Sl) (xs : List Int), Own w B s.v xs → Own w' B s.v xs) (h : RowA w B vs css) : RowA w' B vs css :=
  ⟨h.1, fun j s c h1 h2 => hk s _ (h.2 j s c h1 h2)⟩
theorem RowA.append {w : World} {B : Nat} {vs us : List Sl} {css bss : List (List Nat)} (h : RowA w B vs css) (g : RowA w B us bss) : RowA w B (vs ++ us) (css ++ bss) := by
  refine ⟨by rw [List.length_append, List.length_append, h.1, g.1], fun j s c h1 h2 => ?_⟩
  by_cases hj : j < vs.length
  · rw [List.getElem?_append_left hj] at h1
    rw [List.getElem?_append_left (by rw [← h.1]; exact hj)] at h2
    exact h.2 j s c h1 h2
  · rw [List.getElem?_append_right (by omega)] at h1
    rw [List.getElem?_append_right (by rw [← h.1]; omega), ← h.1] at h2
    exact g.2 _ s c h1 h2
theorem RowA.one {w : World} {B : Nat} {s : Sl} {c : List Nat} (h : Own w B s.v (c.map Int.ofNat)) : RowA w B [s] [c] := by
  refine ⟨rfl, fun j s' c' h1 h2 => ?_⟩
  match j, h1, h2 with
  | 0, h1, h2 =>
    simp only [List.getElem?_cons_zero, Option.some.injEq] at h1 h2
    subst h1 h2
    exact h
theorem Own.grownV {w w' : World} {B B' : Nat} {v : Value} {us : List Sl} {u : Value} {xs : List Int} (hg : w.grownBy w' v.ownBlock) (hv : OwnK encV 25 w B' v us) (O : Own w B u xs) : Own w' B u xs :=
  O.same fun g hgs => hg.block g (O.lt hgs).2 (fun e => OwnK.ne_own hv O (by decide) g e.symm hgs)
/-- Two lists of rows that grow apart. -/
structure Q2 (w0 w : World) (v1 v2 : Value) (vs1 vs2 : List Sl) (c1 c2 : List (List Nat)) : Prop where
  o1 : OwnK encV 25 w w0.heap.size v1 vs1
  o2 : OwnK encV 25 w w0.heap.size v2 vs2
  r1 : RowA w w0.heap.size vs1 c1
  r2 : RowA w w0.heap.size vs2 c2
  ne : ∀ g, v1.ownBlock = some g → v2.ownBlock ≠ some g
  k : Below w0.heap.size w0 w
theorem Q2.swap {w0 w : World} {v1 v2 : Value} {vs1 vs2 : List Sl} {c1 c2 : List (List Nat)} (h : Q2 w0 w v1 v2 vs1 vs2 c1 c2) : Q2 w0 w v2 v1 vs2 vs1 c2 c1 :=
  ⟨h.o2, h.o1, h.r2, h.r1, fun g h1 h2 => h.ne g h2 h1, h.k⟩
theorem Q2.below {w0 w w' : World} {v1 v2 : Value} {vs1 vs2 : List Sl} {c1 c2 : List (List Nat)} (h : Q2 w0 w v1 v2 vs1 vs2 c1 c2) (hb : Below w.heap.size w w') : Q2 w0 w' v1 v2 vs1 vs2 c1 c2 :=
  ⟨h.o1.below hb, h.o2.below hb, h.r1.keep fun _ _ O => O.below hb, h.r2.keep fun _ _ O => O.below hb, h.ne, h.k.trans (hb.mono h.k.size)⟩
theorem Q2.app1 {w0 w w' : World} {v1 v2 v1' : Value} {vs1 vs2 : List Sl} {c1 c2 : List (List Nat)} {s : Sl} {c : List Nat} (h : Q2 w0 w v1 v2 vs1 vs2 c1 c2) (hs : Own w w0.heap.size s.v (c.map Int.ofNat)) (hO : OwnK encV 25 w' w0.heap.size v1' (vs1 ++ [s])) (hg : w.grownBy w' v1.ownBlock) (ha : v1'.ownBlock = v1.ownBlock ∨ v1'.ownBlock = some w.heap.size) :
    Q2 w0 w' v1' v2 (vs1 ++ [s]) vs2 (c1 ++ [c]) c2 where
  o1 := hO
  o2 := h.o2.same fun g hg2 => hg.block g (h.o2.lt hg2).2 (fun e => h.ne g e.symm hg2)
  r1 := (h.r1.keep fun _ _ O => O.grownV hg h.o1).append (RowA.one (hs.grownV hg h.o1))
  r2 := h.r2.keep fun _ _ O => O.grownV hg h.o1
  ne := fun g h1 h2 => by
    rcases ha with e | e
    · exact h.ne g (e ▸ h1) h2
    · rw [e] at h1
      have := (h.o2.lt h2).2
      cases h1
      omega
  k := Below.grownK hg h.o1 (Nat.le_refl _) h.k.size h.k
theorem Q2.put {w0 w : World} {v1 v2 : Value} {vs1 vs2 : List Sl} {c1 c2 : List (List Nat)} {wr : World} (h : Q2 w0 wr v1 v2 vs1 vs2 c1 c2) (hb : Below wr.heap.size wr w) {g i : Nat} {u : Value} (hg : wr.heap.size ≤ g) : Below wr.heap.size wr (w.setCell ⟨g, i, none⟩ u) ∧ Q2 w0 (w.setCell ⟨g, i, none⟩ u) v1 v2 vs1 vs2 c1 c2 := by
  have h2 : Below wr.heap.size wr (w.setCell ⟨g, i, none⟩ u) := (by repeat (first | (with_reducible exact Below.refl _ _) | (with_reducible assumption) | (with_reducible refine Below.drew ?_) | (with_reducible refine Below.drewN ?_) | ((with_reducible refine Below.al ?_ ?_); · first | omega | (simp; done) | (simp; omega)) | ((with_reducible refine Below.sc ?_ ?_); · first | omega | (simp; done) | (simp; omega)) | ((with_reducible refine Below.thru hb ?_ ?_); · first | omega | (simp; done) | (simp; omega))))
  exact ⟨h2, h.below h2⟩

/-- out = append(out, news...), the new elements read where they lie. -/
theorem wpList_appR {α : Type} {P : Program} {ops : Array Oper} {rest : List Oper} {o : Oper} {a : Act} {w : World} {Q : Exit → Act → World → Prop} (e : Enc α) (hgd : o.guard = none) (s x : Operand) (T E : TypeId) (by_ : Nat)
    (ho : o.op = .call { callee := .builtin .append, args := #[s, x], argTypes := #[T, T] })
    (ht : P.underlying T = some (.slice E)) (i : TypeInfo) (z : Value) (hi : P.info? E = some i) (hz : i.zero = some z) (hsize : i.size = e.k) (hby : i.bytes = by_) (hzs : z.cells.size = e.k)
    (v : Value) (xs : List α) (B g c : Nat) (news : List α) (hs : a.eval s = v) (hown : OwnK e E w B v xs) (hx : a.eval x = .slice (some ⟨g, 0, none⟩) news.length c) (hb : ∀ j u, (news.flatMap e.enc)[j]? = some u → w.cell? ⟨g, j, none⟩ = some u)
    (h63 : xs.length + news.length ≤ maxLen) (hbytes : (xs.length + news.length) * by_ ≤ 140737488355328) (hbase : B ≤ w.heap.size)
    (h : ∀ v' w', OwnK e E w' B v' (xs ++ news) → w.grownBy w' v.ownBlock → wpList P ops Q rest (a.put o.dst v') w') : wpList P ops Q (o :: rest) a w :=
  wpList_append_own w hgd s x T ho B E i z e.k by_ ht hi hz hsize hby hzs e.pos v xs.length (xs.flatMap e.enc) hs hown ⟨g, 0, none⟩ news.length c (news.flatMap e.enc) hx (flat_len e news)
    (fun j u hu => by
      have hadd : (⟨g, 0, none⟩ : Addr).add j = ⟨g, j, none⟩ := by unfold Addr.add; split <;> simp_all
      rw [hadd]
      exact hb j u hu)
    (fun u hu => by obtain ⟨x, _, hu⟩ := List.mem_flatMap.1 hu; exact e.one x u hu)
    h63 hbytes hbase
    (fun v' w' h1 h2 _ => h v' w' (by unfold OwnK; rw [List.length_append, List.flatMap_append]; exact h1) h2)
theorem flatV_eq (vs : List Sl) : vs.flatMap encV.enc = vs.map Sl.v := by
  induction vs with
  | nil => rfl
  | cons a vs ih =>
    rw [List.flatMap_cons, ih]
    rfl
theorem OwnK.flatV {w : World} {B g : Nat} {v : Value} {vs : List Sl} (h : OwnK encV 25 w B v vs) (hg : v.ownBlock = some g) : ∀ j u, (vs.flatMap encV.enc)[j]? = some u → w.cell? ⟨g, j, none⟩ = some u := by
  intro j u hu
  rw [flatV_eq, List.getElem?_map] at hu
  obtain ⟨s, hs, rfl⟩ := Option.map_eq_some_iff.1 hu
  have := OwnK.at (j := j) (i := 0) h hg hs rfl
  rwa [show j * encV.k + 0 = j by show j * 1 + 0 = j; omega] at this
/-- Rows of numbers, in memory that the call made. -/
def GivesA (css : List (List Nat)) (w : World) (e : Ending) (w' : World) : Prop := ∃ v vs, e = .returned v ∧ OwnK encV 25 w' w.heap.size v vs ∧ RowA w' w.heap.size vs css ∧ Below w.heap.size w w'
set_option maxRecDepth 8000 in
set_option maxHeartbeats 4000000 in
theorem l08Relations_any (n : Nat) (lv : Value) (w : World) (hn : 1 ≤ n ∧ n ≤ 60) (hl0 : 1 ≤ (lineL n).length) (hl : (lineL n).length ≤ 72) (h : LineC w w.heap.size lv (lineL n)) :
    Calls Try.prog 24 #[.int .i64 (n : Int), lv] w (GivesA (relL n) w) := by
  obtain ⟨GF, hGF⟩ : ∃ GF, GivesA (relL n) w = GF := ⟨_, rfl⟩
  rw [hGF]
  have HGF := Lib.hid hGF
  have HLC := Lib.hid h
  have hN1 : ∀ k, k < (lineL n).length → ∀ w' : World, LineC w' w.heap.size lv (lineL n) → w.heap.size ≤ w'.heap.size → Calls Try.prog 35 #[.int .i64 (n : Int), lv, .int .i64 ((prA n k).2 : Int), .int .i64 (-((prA n k).1 : Int))] w' fun e w'' => e = .returned (.int .i64 (sI n k : Int)) ∧ Below w'.heap.size w' w'' := by
    intro k hk w' h1 h2
    have := l06Number_any n ((prA n k).2 : Int) (-((prA n k).1 : Int)) (lineL n) lv w.heap.size w' h1 h2 (by omega) hn (isPrC_s (prA_mem hk))
    rwa [idx_s hn hk] at this
  have hN2 : ∀ k, k < (lineL n).length → ∀ w' : World, LineC w' w.heap.size lv (lineL n) → w.heap.size ≤ w'.heap.size → Calls Try.prog 35 #[.int .i64 (n : Int), lv, .int .i64 (((prA n k).1 : Int) + (prA n k).2), .int .i64 (-((prA n k).1 : Int))] w' fun e w'' => e = .returned (.int .i64 (uI n k : Int)) ∧ Below w'.heap.size w' w'' := by
    intro k hk w' h1 h2
    have := l06Number_any n (((prA n k).1 : Int) + (prA n k).2) (-((prA n k).1 : Int)) (lineL n) lv w.heap.size w' h1 h2 (by omega) hn (isPrC_u (prA_mem hk))
    rwa [idx_u hn hk] at this
  have hN3 : ∀ k, k < (lineL n).length → ∀ w' : World, LineC w' w.heap.size lv (lineL n) → w.heap.size ≤ w'.heap.size → Calls Try.prog 35 #[.int .i64 (n : Int), lv, .int .i64 ((prA n k).2 : Int), .int .i64 (-((prA n k).1 : Int) - (prA n k).2)] w' fun e w'' => e = .returned (.int .i64 (vI n k : Int)) ∧ Below w'.heap.size w' w'' := by
    intro k hk w' h1 h2
    have := l06Number_any n ((prA n k).2 : Int) (-((prA n k).1 : Int) - (prA n k).2) (lineL n) lv w.heap.size w' h1 h2 (by omega) hn (isPrC_v (prA_mem hk))
    rwa [idx_v hn hk] at this
  have HN1 := Lib.hid hN1
  have HN2 := Lib.hid hN2
  have HN3 := Lib.hid hN3
  clear hN1 hN2 hN3 h hGF
  have HXL := Lib.hid (show ∀ k (hk : k < (lineL n).length), (lineL n)[k] = prA n k ∧ (prA n k).1 < 60 ∧ (prA n k).2 < 60 by
    intro k hk
    have := line_pair (prA_mem hk)
    exact ⟨(prA_get hk).symm, by omega, by omega⟩)
  have HSL := Lib.hid (show ∀ k, k < (lineL n).length → sI n k < (lineL n).length ∧ uI n k < (lineL n).length ∧ vI n k < (lineL n).length from fun k hk => ⟨sI_lt hn hk, uI_lt hn hk, vI_lt hn hk⟩)
  have HC := Lib.hid (show relL n = twoL n (lineL n).length ++ threeL n (lineL n).length from rfl)
  have HT := Lib.hid (show ∀ k, twoL n (k + 1) = twoL n k ++ [incs (lineL n).length [k, sI n k]] by intro k; rw [twoL_succ, two])
  have HU := Lib.hid (show ∀ k, threeL n (k + 1) = threeL n k ++ [incs (lineL n).length [k, uI n k, vI n k]] by intro k; rw [threeL_succ, three])
  have HTL := Lib.hid (show ∀ k, (twoL n k).length = k by intro k; simp [twoL])
  have HUL := Lib.hid (show ∀ k, (threeL n k).length = k by intro k; simp [threeL])
  have HT0 := Lib.hid (show twoL n 0 = [] from rfl)
  have HU0 := Lib.hid (show threeL n 0 = [] from rfl)
  rw [HC.out] at HGF
  generalize twoL n = TT at *
  generalize threeL n = UU at *
  generalize sI n = sF at *
  generalize uI n = uF at *
  generalize vI n = vF at *
  generalize prA n = pF at *
  clear HC
  generalize lineL n = L at *
  obtain ⟨lo, lc, rfl, -⟩ := HLC.out
  obtain ⟨N, hNe⟩ : ∃ N, L.length = N := ⟨_, rfl⟩
  have HLN := Lib.hid hNe
  have hN : N ≤ 72 := by omega
  have hN0 : 1 ≤ N := by omega
  clear hl hl0
  have HINF := Lib.hid (info_parts infoSl)
  have hmk := run_make_row' (P := Try.prog) 25 2 (.int .i64 0) 8 Try.underlying25 infoI rfl .i64 .i64 N (by omega) (by omega)
  rw [hNe] at HLC HGF HN1 HN2 HN3 HT HU HSL ⊢
  clear hNe
  go_enter Try.func24, Try.ntmps24
  go_wp2_with fail
  refine forget (fun W_ => Q2 w W_ (.slice (some ⟨w.heap.size, 0, none⟩) 0 0) (.slice (some ⟨w.heap.size + 1, 0, none⟩) 0 0) [] [] [] []) ?_ ?_
  · refine ⟨OwnK.of_blk (xs := []) (by repeat (first | (with_reducible assumption) | ((with_reducible refine Blk.new ?_); · first | omega | (simp; done) | (simp; omega)) | (with_reducible apply Blk.set4) | (with_reducible apply Blk.set3) | (with_reducible apply Blk.set2) | ((with_reducible refine Blk.put ?_ ?_); · first | omega | (simp; omega)) | (with_reducible refine Blk.old ?_) | (with_reducible refine Blk.drew ?_) | (with_reducible refine Blk.drewN ?_) | ((with_reducible refine Blk.below hb ?_ ?_); · first | omega | (simp; done) | (simp; omega)))) (Nat.le_refl _) rfl (by simp [maxLen]), OwnK.of_blk (xs := []) (by repeat (first | (with_reducible assumption) | ((with_reducible refine Blk.new ?_); · first | omega | (simp; done) | (simp; omega)) | (with_reducible apply Blk.set4) | (with_reducible apply Blk.set3) | (with_reducible apply Blk.set2) | ((with_reducible refine Blk.put ?_ ?_); · first | omega | (simp; omega)) | (with_reducible refine Blk.old ?_) | (with_reducible refine Blk.drew ?_) | (with_reducible refine Blk.drewN ?_) | ((with_reducible refine Blk.below hb ?_ ?_); · first | omega | (simp; done) | (simp; omega)))) (by omega) rfl (by simp [maxLen]), RowA.nil _ _, RowA.nil _ _, fun g h1 h2 => ?_, (by repeat (first | (with_reducible exact Below.refl _ _) | (with_reducible assumption) | (with_reducible refine Below.drew ?_) | (with_reducible refine Below.drewN ?_) | ((with_reducible refine Below.al ?_ ?_); · first | omega | (simp; done) | (simp; omega)) | ((with_reducible refine Below.sc ?_ ?_); · first | omega | (simp; done) | (simp; omega)) | ((with_reducible refine Below.thru hb ?_ ?_); · first | omega | (simp; done) | (simp; omega))))⟩
    simp only [Value.ownBlock, Option.some.injEq] at h1 h2
    omega
  intro w0 Q
  go_loopw [5, 6, 7] (fun v1 v2 i wr => ∃ (k : Nat) (vs1 vs2 : List Sl), k ≤ N ∧ i = .int .i64 k ∧ Q2 w wr v1 v2 vs1 vs2 (TT k) (UU k)) (fun _ _ i _ => N - (intOf i).toNat)
  case atStart => exact ⟨0, [], [], Nat.zero_le _, rfl, by rw [HT0.out, HU0.out]; exact Q⟩
  case round =>
    clear Q
    obtain ⟨k, vs1, vs2, hk, rfl, Q⟩ := hrel
    have hv1 := Q.r1.1
    have hv2 := Q.r2.1
    rw [HTL.out] at hv1
    rw [HUL.out] at hv2
    obtain ⟨o1, c1, rfl⟩ := Q.o1.len
    obtain ⟨o2, c2, rfl⟩ := Q.o2.len
    have swr := Q.k.size
    by_cases hlt : k < N
    · obtain ⟨ao, ac, hav, hcl⟩ := HLC.out.below Q.k
      rw [HLN.out] at hav
      cases hav
      obtain ⟨g, rfl, hg, hcs⟩ := hcl (by rw [HLN.out]; omega)
      obtain ⟨g2, cc2, hg2, d0, d1, d2⟩ := hcs k (by rw [HLN.out]; exact hlt)
      have hx := HXL.out k (by rw [HLN.out]; exact hlt)
      rw [hx.1] at d1 d2
      have hx1 := hx.2.1
      have hx2 := hx.2.2
      have hsl := HSL.out k hlt
      have M1 := Lib.hid (HN1.out k hlt)
      have M2 := Lib.hid (HN2.out k hlt)
      have M3 := Lib.hid (HN3.out k hlt)
      have HTk := Lib.hid (HT.out k)
      have HUk := Lib.hid (HU.out k)
      have HV1 := Lib.hid hv1
      have HV2 := Lib.hid hv2
      clear hcl hcs hx hv1 hv2
      generalize sF k = s at *
      generalize uF k = u at *
      generalize vF k = t at *
      generalize pF k = x at *
      obtain ⟨c, d⟩ := x
      simp only at d1 d2 M1 M2 M3 hx1 hx2
      have i0 : (0 : Int) ≤ (k : Int) := by omega
      have i1 : (k : Int) < (N : Int) := by omega
      have hw1 : IntKind.i64.wrap (-(c : Int)) = -(c : Int) := by rw [IntKind.wrap_i64]; omega
      have hw2 : IntKind.i64.wrap ((c : Int) + (d : Int)) = (c : Int) + (d : Int) := by rw [IntKind.wrap_i64]; omega
      have hw3 : IntKind.i64.wrap (-(c : Int) - (d : Int)) = -(c : Int) - (d : Int) := by rw [IntKind.wrap_i64]; omega
      have HQ := Lib.hid Q
      clear Q
      go_wp2_with fail
      go_quiet (fail)
      go_wp2_with fail
      go_cut [10, 11] (fun s10 s11 wx => ∃ ga gb : Nat, s10 = .slice (some ⟨ga, 0, none⟩) N N ∧ s11 = .slice (some ⟨gb, 0, none⟩) N N ∧ ga ≠ gb ∧ wr.heap.size ≤ ga ∧ wr.heap.size ≤ gb ∧ Blk wx ga 2 (madeCells #[.int .i64 0] N) ∧ Blk wx gb 2 (madeCells #[.int .i64 0] N) ∧ Below wr.heap.size wr wx)
      case first =>
        go_region_held3 (fun _ => True) (trivial) (fail)
        all_goals go_wp2_with fail
        all_goals go_meet
        all_goals first
          | exact ⟨wr.heap.size, wr.heap.size + 1, rfl, rfl, by omega, by omega, by omega, (by (repeat (first | (with_reducible assumption) | ((with_reducible refine Blk.new ?_); · first | omega | (simp; done) | (simp; omega)) | (with_reducible apply Blk.set4) | (with_reducible apply Blk.set3) | (with_reducible apply Blk.set2) | ((with_reducible refine Blk.put ?_ ?_); · first | omega | (simp; omega)) | (with_reducible refine Blk.old ?_) | (with_reducible refine Blk.drew ?_) | (with_reducible refine Blk.drewN ?_) | ((with_reducible refine Blk.below hb ?_ ?_); · first | omega | (simp; done) | (simp; omega)))); first | done | fail), (by (repeat (first | (with_reducible assumption) | ((with_reducible refine Blk.new ?_); · first | omega | (simp; done) | (simp; omega)) | (with_reducible apply Blk.set4) | (with_reducible apply Blk.set3) | (with_reducible apply Blk.set2) | ((with_reducible refine Blk.put ?_ ?_); · first | omega | (simp; omega)) | (with_reducible refine Blk.old ?_) | (with_reducible refine Blk.drew ?_) | (with_reducible refine Blk.drewN ?_) | ((with_reducible refine Blk.below hb ?_ ?_); · first | omega | (simp; done) | (simp; omega)))); first | done | fail), (by repeat (first | (with_reducible exact Below.refl _ _) | (with_reducible assumption) | (with_reducible refine Below.drew ?_) | (with_reducible refine Below.drewN ?_) | ((with_reducible refine Below.al ?_ ?_); · first | omega | (simp; done) | (simp; omega)) | ((with_reducible refine Below.sc ?_ ?_); · first | omega | (simp; done) | (simp; omega)) | ((with_reducible refine Below.thru hb ?_ ?_); · first | omega | (simp; done) | (simp; omega))))⟩
          | exact ⟨wr.heap.size + 1, wr.heap.size, rfl, rfl, by omega, by omega, by omega, (by (repeat (first | (with_reducible assumption) | ((with_reducible refine Blk.new ?_); · first | omega | (simp; done) | (simp; omega)) | (with_reducible apply Blk.set4) | (with_reducible apply Blk.set3) | (with_reducible apply Blk.set2) | ((with_reducible refine Blk.put ?_ ?_); · first | omega | (simp; omega)) | (with_reducible refine Blk.old ?_) | (with_reducible refine Blk.drew ?_) | (with_reducible refine Blk.drewN ?_) | ((with_reducible refine Blk.below hb ?_ ?_); · first | omega | (simp; done) | (simp; omega)))); first | done | fail), (by (repeat (first | (with_reducible assumption) | ((with_reducible refine Blk.new ?_); · first | omega | (simp; done) | (simp; omega)) | (with_reducible apply Blk.set4) | (with_reducible apply Blk.set3) | (with_reducible apply Blk.set2) | ((with_reducible refine Blk.put ?_ ?_); · first | omega | (simp; omega)) | (with_reducible refine Blk.old ?_) | (with_reducible refine Blk.drew ?_) | (with_reducible refine Blk.drewN ?_) | ((with_reducible refine Blk.below hb ?_ ?_); · first | omega | (simp; done) | (simp; omega)))); first | done | fail), (by repeat (first | (with_reducible exact Below.refl _ _) | (with_reducible assumption) | (with_reducible refine Below.drew ?_) | (with_reducible refine Below.drewN ?_) | ((with_reducible refine Below.al ?_ ?_); · first | omega | (simp; done) | (simp; omega)) | ((with_reducible refine Below.sc ?_ ?_); · first | omega | (simp; done) | (simp; omega)) | ((with_reducible refine Below.thru hb ?_ ?_); · first | omega | (simp; done) | (simp; omega))))⟩
      case rest =>
        obtain ⟨ga, gb, rfl, rfl, nab, mga, mgb, BA, BB, kc⟩ := hcut
        rw [made_ic] at BA BB
        have HA := Lib.hid (show Blk wc ga 2 (ic ((incs N []).map Int.ofNat)) by simpa [incs] using BA)
        have HB := Lib.hid (show Blk wc gb 2 (ic ((incs N []).map Int.ofNat)) by simpa [incs] using BB)
        have HK := Lib.hid kc
        clear BA BB kc
        have l1 : incs N [k] = inc (incs N []) k := rfl
        have l2 : incs N [k, s] = inc (incs N [k]) s := rfl
        have l3 : incs N [k, u] = inc (incs N [k]) u := rfl
        have l4 : incs N [k, u, t] = inc (incs N [k, u]) t := rfl
        have b0 := incs_le N [] k
        have b1 := incs_le N [k] s
        have b2 := incs_le N [k] u
        have b3 := incs_le N [k, u] t
        have e0 := incs_len N []
        have e1 := incs_len N [k]
        have e2 := incs_len N [k, s]
        have e3 := incs_len N [k, u]
        have e4 := incs_len N [k, u, t]
        simp only [List.length_cons, List.length_nil] at b0 b1 b2 b3
        generalize incs N [k, u, t] = R4 at *
        generalize incs N [k, u] = R3 at *
        generalize incs N [k, s] = R2 at *
        generalize incs N [k] = R1 at *
        generalize incs N [] = R0 at *
        have HL := Lib.hid (And.intro l1 (And.intro l2 (And.intro l3 l4)))
        have HE := Lib.hid (And.intro e0 (And.intro e1 (And.intro e2 (And.intro e3 e4))))
        clear l1 l2 l3 l4 e0 e1 e2 e3 e4
        have ca := HA.out.at (ic_nat (x := R0) (i := k) (by rw [HE.out.1]; exact hlt))
        have fa := HA.out.free k
        obtain ⟨y0, hy0⟩ : ∃ y, R0.getD k 0 = y := ⟨_, rfl⟩
        rw [hy0] at ca b0
        have HY0 := Lib.hid hy0
        clear hy0
        have i2 : (0 : Int) ≤ (s : Int) := by omega
        have i3 : (s : Int) < (N : Int) := by omega
        have i4 : (0 : Int) ≤ (u : Int) := by omega
        have i5 : (u : Int) < (N : Int) := by omega
        have i6 : (0 : Int) ≤ (t : Int) := by omega
        have i7 : (t : Int) < (N : Int) := by omega
        go_wp2_with fail
        have hkc := HK.out
        have skc := hkc.size
        have lga := HA.out.lt
        have lgb := HB.out.lt
        have hQk := HQ.out.k
        have LC := Lib.hid (fun (W : World) (kW : Below wr.heap.size wr W) => HLC.out.below (hQk.trans (kW.mono swr)))
        have K1 : Below wr.heap.size wr (wc.setCell ⟨ga, k, none⟩ (.int .i64 ((y0 : Int) + 1))) := (by repeat (first | (with_reducible exact Below.refl _ _) | (with_reducible assumption) | (with_reducible refine Below.drew ?_) | (with_reducible refine Below.drewN ?_) | ((with_reducible refine Below.al ?_ ?_); · first | omega | (simp; done) | (simp; omega)) | ((with_reducible refine Below.sc ?_ ?_); · first | omega | (simp; done) | (simp; omega)) | ((with_reducible refine Below.thru hb ?_ ?_); · first | omega | (simp; done) | (simp; omega))))
        have z1 := K1.size
        refine (M1.out _ (LC.out _ K1) (by omega)).mono ?_
        rintro e w2 ⟨rfl, hb2⟩
        have zz1 : (wc.setCell ⟨ga, k, none⟩ (.int .i64 ((y0 : Int) + 1))).heap.size = wc.heap.size := by simp [World.setCell]
        have A2 : Blk w2 ga 2 (ic (R1.map Int.ofNat)) := by
          rw [HL.out.1, ← ic_inc ((y0 : Int) + 1) (by rw [HY0.out]; rfl)]
          exact Blk.below hb2 (by omega) (Blk.set HA.out)
        have B2 : Blk w2 gb 2 (ic (R0.map Int.ofNat)) := Blk.below hb2 (by omega) (Blk.put (Ne.symm nab) HB.out)
        have K2 : Below wr.heap.size wr w2 := K1.trans (hb2.mono z1)
        have cs2 := A2.at (ic_nat (x := R1) (i := s) (by rw [HE.out.2.1]; omega))
        have ck2 := B2.at (ic_nat (x := R0) (i := k) (by rw [HE.out.1]; exact hlt))
        have fs2 := A2.free s
        have fk2 := B2.free k
        have lA2 := A2.lt
        have lB2 := B2.lt
        rw [HY0.out] at ck2
        obtain ⟨y1, hy1⟩ : ∃ y, R1.getD s 0 = y := ⟨_, rfl⟩
        rw [hy1] at cs2 b1
        have HY1 := Lib.hid hy1
        have H2 := Lib.hid (And.intro A2 (And.intro B2 K2))
        clear hy1 A2 B2 K2 K1 z1 zz1 hb2 ca fa hkc hQk
        go_wp2_with fail
        have hk2 := H2.out.2.2
        have sk2 := hk2.size
        have K3 : Below wr.heap.size wr ((w2.setCell ⟨ga, s, none⟩ (.int .i64 ((y1 : Int) + 1))).setCell ⟨gb, k, none⟩ (.int .i64 ((y0 : Int) + 1))) := (by repeat (first | (with_reducible exact Below.refl _ _) | (with_reducible assumption) | (with_reducible refine Below.drew ?_) | (with_reducible refine Below.drewN ?_) | ((with_reducible refine Below.al ?_ ?_); · first | omega | (simp; done) | (simp; omega)) | ((with_reducible refine Below.sc ?_ ?_); · first | omega | (simp; done) | (simp; omega)) | ((with_reducible refine Below.thru hb ?_ ?_); · first | omega | (simp; done) | (simp; omega))))
        have z3 := K3.size
        have zz3 : ((w2.setCell ⟨ga, s, none⟩ (.int .i64 ((y1 : Int) + 1))).setCell ⟨gb, k, none⟩ (.int .i64 ((y0 : Int) + 1))).heap.size = w2.heap.size := by simp [World.setCell]
        refine (M2.out _ (LC.out _ K3) (by omega)).mono ?_
        rintro e w4 ⟨rfl, hb4⟩
        have A4 : Blk w4 ga 2 (ic (R2.map Int.ofNat)) := by
          rw [HL.out.2.1, ← ic_inc ((y1 : Int) + 1) (by rw [HY1.out]; rfl)]
          exact Blk.below hb4 (by omega) (Blk.put nab (Blk.set H2.out.1))
        have B4 : Blk w4 gb 2 (ic (R1.map Int.ofNat)) := by
          rw [HL.out.1, ← ic_inc ((y0 : Int) + 1) (by rw [HY0.out]; rfl)]
          exact Blk.below hb4 (by omega) (Blk.set (Blk.put (Ne.symm nab) H2.out.2.1))
        have K4 : Below wr.heap.size wr w4 := K3.trans (hb4.mono z3)
        have cu4 := B4.at (ic_nat (x := R1) (i := u) (by rw [HE.out.2.1]; omega))
        have fu4 := B4.free u
        have lA4 := A4.lt
        have lB4 := B4.lt
        obtain ⟨y2, hy2⟩ : ∃ y, R1.getD u 0 = y := ⟨_, rfl⟩
        rw [hy2] at cu4 b2
        have HY2 := Lib.hid hy2
        have H4 := Lib.hid (And.intro A4 (And.intro B4 K4))
        clear hy2 A4 B4 K4 K3 z3 zz3 hb4 cs2 ck2 fs2 fk2 H2 hk2 sk2 lA2 lB2
        go_wp2_with fail
        have hk4 := H4.out.2.2
        have sk4 := hk4.size
        have K5 : Below wr.heap.size wr (w4.setCell ⟨gb, u, none⟩ (.int .i64 ((y2 : Int) + 1))) := (by repeat (first | (with_reducible exact Below.refl _ _) | (with_reducible assumption) | (with_reducible refine Below.drew ?_) | (with_reducible refine Below.drewN ?_) | ((with_reducible refine Below.al ?_ ?_); · first | omega | (simp; done) | (simp; omega)) | ((with_reducible refine Below.sc ?_ ?_); · first | omega | (simp; done) | (simp; omega)) | ((with_reducible refine Below.thru hb ?_ ?_); · first | omega | (simp; done) | (simp; omega))))
        have z5 := K5.size
        have zz5 : (w4.setCell ⟨gb, u, none⟩ (.int .i64 ((y2 : Int) + 1))).heap.size = w4.heap.size := by simp [World.setCell]
        refine (M3.out _ (LC.out _ K5) (by omega)).mono ?_
        rintro e w6 ⟨rfl, hb6⟩
        have A6 : Blk w6 ga 2 (ic (R2.map Int.ofNat)) := Blk.below hb6 (by omega) (Blk.put nab H4.out.1)
        have B6 : Blk w6 gb 2 (ic (R3.map Int.ofNat)) := by
          rw [HL.out.2.2.1, ← ic_inc ((y2 : Int) + 1) (by rw [HY2.out]; rfl)]
          exact Blk.below hb6 (by omega) (Blk.set H4.out.2.1)
        have K6 : Below wr.heap.size wr w6 := K5.trans (hb6.mono z5)
        have ct6 := B6.at (ic_nat (x := R3) (i := t) (by rw [HE.out.2.2.2.1]; omega))
        have ft6 := B6.free t
        have lA6 := A6.lt
        have lB6 := B6.lt
        obtain ⟨y3, hy3⟩ : ∃ y, R3.getD t 0 = y := ⟨_, rfl⟩
        rw [hy3] at ct6 b3
        have HY3 := Lib.hid hy3
        have H6 := Lib.hid (And.intro A6 (And.intro B6 K6))
        clear hy3 A6 B6 K6 K5 z5 zz5 hb6 cu4 fu4 H4 hk4 sk4 lA4 lB4
        have hk6 := H6.out.2.2
        have sk6 := hk6.size
        obtain ⟨W7, hW7⟩ : ∃ W, w6.setCell ⟨gb, t, none⟩ (.int .i64 ((y3 : Int) + 1)) = W := ⟨_, rfl⟩
        have HW7 := Lib.hid hW7
        have K7 : Below wr.heap.size wr W7 := by
          rw [← hW7]
          exact (by repeat (first | (with_reducible exact Below.refl _ _) | (with_reducible assumption) | (with_reducible refine Below.drew ?_) | (with_reducible refine Below.drewN ?_) | ((with_reducible refine Below.al ?_ ?_); · first | omega | (simp; done) | (simp; omega)) | ((with_reducible refine Below.sc ?_ ?_); · first | omega | (simp; done) | (simp; omega)) | ((with_reducible refine Below.thru hb ?_ ?_); · first | omega | (simp; done) | (simp; omega))))
        have z7 : W7.heap.size = w6.heap.size := by rw [← hW7]; simp [World.setCell]
        have A7 : Own W7 w.heap.size (.slice (some ⟨ga, 0, none⟩) N N) (R2.map Int.ofNat) := by
          have := Own.of_ic (w := W7) (g := ga) (B := w.heap.size) (xs := R2.map Int.ofNat) (by rw [← hW7]; exact Blk.put nab H6.out.1) (by omega) (by rw [List.length_map, HE.out.2.2.1]; unfold maxLen; omega)
          rwa [List.length_map, HE.out.2.2.1] at this
        have B7 : Own W7 w.heap.size (.slice (some ⟨gb, 0, none⟩) N N) (R4.map Int.ofNat) := by
          have := Own.of_ic (w := W7) (g := gb) (B := w.heap.size) (xs := R4.map Int.ofNat) (by rw [← hW7, HL.out.2.2.2, ← ic_inc ((y3 : Int) + 1) (by rw [HY3.out]; rfl)]; exact Blk.set H6.out.2.1) (by omega) (by rw [List.length_map, HE.out.2.2.2.2]; unfold maxLen; omega)
          rwa [List.length_map, HE.out.2.2.2.2] at this
        have Q7 := HQ.out.below K7
        have sz7 := Q7.k.size
        obtain ⟨jS, hinf⟩ := HINF.out
        replace hinf := Lib.hid hinf
        have H7 := Lib.hid (And.intro A7 (And.intro B7 Q7))
        clear A7 B7 Q7 K7 hk6 sk6 hW7
        go_wp2_with (at_builtin; refine wpList_app_at encV rfl _ _ 38 25 24 rfl Try.underlying38 jS _ hinf.out.1 hinf.out.2.1 hinf.out.2.2.1 hinf.out.2.2.2 rfl (.slice o1 vs1.length c1) vs1 w.heap.size w6.heap.size 1 #[.slice (some ⟨ga, 0, none⟩) N N] [⟨some ⟨ga, 0, none⟩, N, N⟩] rfl ?p1 rfl ?p2 rfl ?p3 ?p4 ?p5 ?_)
        case p1 => rw [HW7.out]; exact H7.out.2.2.o1.alloc
        case p2 => exact Blk.new (by simp [World.setCell])
        case p3 => (try simp only [List.length_cons, List.length_nil]); have := HV1.out; unfold maxLen; omega
        case p4 => (try simp only [List.length_cons, List.length_nil]); have := HV1.out; omega
        case p5 => rw [HW7.out]; simp; omega
        rw [HW7.out]
        intro v8 w8 O8 hg8 ha8
        have Q8 := Q2.app1 (s := ⟨some ⟨ga, 0, none⟩, N, N⟩) (c := R2) (H7.out.2.2.below ((Below.refl W7.heap.size W7).alloc (Nat.le_refl _) _)) (H7.out.1.below ((Below.refl W7.heap.size W7).alloc (Nat.le_refl _) _)) O8 hg8 (by rcases ha8 with e | e; exact .inl e; exact .inr (e.trans (by simp [z7])))
        have B8 : Own w8 w.heap.size (.slice (some ⟨gb, 0, none⟩) N N) (R4.map Int.ofNat) := Own.grownV hg8 (us := vs1) (B' := w.heap.size) H7.out.2.2.o1.alloc (H7.out.2.1.below ((Below.refl W7.heap.size W7).alloc (Nat.le_refl _) _))
        obtain ⟨o8, c8, rfl⟩ := O8.len
        have sz8 := Q8.k.size
        rw [show (vs1 ++ [(⟨some ⟨ga, 0, none⟩, N, N⟩ : Sl)]).length = vs1.length + 1 by simp] at Q8
        have H8 := Lib.hid (And.intro B8 Q8)
        clear B8 Q8 O8 hg8 ha8 H7 H6 HW7 HQ HA HB
        go_wp2_with (at_builtin; refine wpList_app_at encV rfl _ _ 38 25 24 rfl Try.underlying38 jS _ hinf.out.1 hinf.out.2.1 hinf.out.2.2.1 hinf.out.2.2.2 rfl (.slice o2 vs2.length c2) vs2 w.heap.size w8.heap.size 1 #[.slice (some ⟨gb, 0, none⟩) N N] [⟨some ⟨gb, 0, none⟩, N, N⟩] rfl ?q1 rfl ?q2 rfl ?q3 ?q4 ?q5 ?_)
        case q1 => exact H8.out.2.o2.alloc
        case q2 => exact Blk.new (by simp)
        case q3 => (try simp only [List.length_cons, List.length_nil]); have := HV2.out; unfold maxLen; omega
        case q4 => (try simp only [List.length_cons, List.length_nil]); have := HV2.out; omega
        case q5 => simp; omega
        intro v9 w9 O9 hg9 ha9
        have Q9 := Q2.app1 (s := ⟨some ⟨gb, 0, none⟩, N, N⟩) (c := R4) (H8.out.2.swap.below ((Below.refl w8.heap.size w8).alloc (Nat.le_refl _) _)) (H8.out.1.below ((Below.refl w8.heap.size w8).alloc (Nat.le_refl _) _)) O9 hg9 (by rcases ha9 with e | e; exact .inl e; exact .inr (e.trans (by simp)))
        clear O9 hg9 ha9 H8
        rw [← HTk.out, ← HUk.out] at Q9
        go_wp2
        go_roundw
        case rel => exact ⟨k + 1, _, _, by omega, by go_num, Q9.swap⟩
        case measure => first | (simp [intOf]; done) | (simp [intOf]; omega)
    · obtain rfl : N = k := by omega
      have HV1 := Lib.hid hv1
      have HV2 := Lib.hid hv2
      clear hv1 hv2 hlt
      rcases Q.o2.form with ⟨h1, h2⟩ | ⟨g, cap, h1, hg1, hg2, -⟩
      · exfalso
        have := HV2.out
        rw [h2] at this
        simp at this
        omega
      cases h1
      obtain ⟨jS, hinf⟩ := HINF.out
      replace hinf := Lib.hid hinf
      have HQ := Lib.hid Q
      clear Q
      go_wp2_with (at_builtin; refine wpList_appR encV rfl _ _ 38 25 24 rfl Try.underlying38 jS _ hinf.out.1 hinf.out.2.1 hinf.out.2.2.1 hinf.out.2.2.2 rfl (.slice o1 vs1.length c1) vs1 w.heap.size g _ vs2 rfl ?r1 rfl ?r2 ?r3 ?r4 ?r5 ?_)
      case r1 => exact HQ.out.o1
      case r2 => exact HQ.out.o2.flatV rfl
      case r3 => have a1 := HV1.out; have a2 := HV2.out; unfold maxLen; omega
      case r4 => have a1 := HV1.out; have a2 := HV2.out; omega
      case r5 => omega
      intro v8 w8 O8 hg8
      have R8 : RowA w8 w.heap.size (vs1 ++ vs2) (TT N ++ UU N) := (HQ.out.r1.append HQ.out.r2).keep fun _ _ O => Own.grownV hg8 HQ.out.o1 O
      have K8 : Below w.heap.size w w8 := Below.grownK hg8 HQ.out.o1 (Nat.le_refl _) HQ.out.k.size HQ.out.k
      obtain ⟨o8, c8, rfl⟩ := O8.len
      have H8 := Lib.hid (And.intro O8 (And.intro R8 K8))
      clear O8 R8 K8 hg8
      go_wp2
      rw [← HGF.out]
      exact ⟨_, _, rfl, H8.out.1, H8.out.2.1, H8.out.2.2⟩

end Go.Proofs.Ytjjbaebddkejnaa
