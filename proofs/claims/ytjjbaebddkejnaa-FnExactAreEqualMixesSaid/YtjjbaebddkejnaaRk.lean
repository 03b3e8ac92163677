/- The program's basisOf. -/
import Derived.Test.YtjjbaebddkejnaaBp
import Derived.Test.YtjjbaebddkejnaaRls
import Derived.Test.YtjjbaebddkejnaaSrk
import Derived.Test.YtjjbaebddkejnaaInv
namespace Go.Proofs.Ytjjbaebddkejnaa
open Go.RowKit Go.Maps
set_option linter.unusedSimpArgs false

theorem RowsAt.put {w : World} {B g i : Nat} {F : TypeId} {cs : Array Value} {u : Value} (hb : Blk w g F cs) (hF : 2 ≠ F) {S : List (Nat × Value)} {T : List (Nat × List Int)} (h : RowsAt w B S T) : RowsAt (w.setCell ⟨g, i, none⟩ u) B S T := by
  induction S generalizing T with
  | nil => cases T with
    | nil => trivial
    | cons t T => exact h.elim
  | cons s S ih => cases T with
    | nil => exact h.elim
    | cons t T => exact ⟨h.1, Own.put (h.2.1.toK.ne_blk hb hF) h.2.1, ih h.2.2⟩
def GivesB (p : Int) (N : Nat) (rows : List (List Int)) (w : World) : Ending → World → Prop := fun e w' =>
  ∃ mb n S T, e = .returned (.agg #[.int .i64 p, .map (some mb)]) ∧ BasW p N rows w' w.heap.size mb n S T ∧ n ≤ 1000 ∧ w.heap.size ≤ mb ∧ Below w.heap.size w w'

set_option maxRecDepth 8000 in
set_option maxHeartbeats 2000000 in
theorem basisOf_any (n : Nat) (p : Int) (w : World) (hn : 1 ≤ n ∧ n ≤ 60) (hl : (lineL n).length ≤ 72) (hp : PrimeP p) :
    Calls Try.prog 27 #[.int .i64 (n : Int), .int .i64 p] w (GivesB p (lineL n).length (rowsI (relL n)) w) := by
  have HRL := Lib.hid (fun w' => relations_any n w' hn hl)
  have HRW := Lib.hid (show ∀ r ∈ relL n, r.length = (lineL n).length from fun r => relL_row)
  have HLE := Lib.hid (relL_len n)
  generalize relL n = css at *
  generalize (lineL n).length = N at *
  have HP := Lib.hid hp
  clear hn hp
  obtain ⟨GF, hGF⟩ : ∃ GF, GivesB p N (rowsI css) w = GF := ⟨_, rfl⟩
  rw [hGF]
  have HGF := Lib.hid hGF
  clear hGF
  have hmm := @run_makeMap Try.prog
  go_enter Try.func27, Try.ntmps27
  go_wp2_with fail
  obtain ⟨W, hW⟩ : ∃ W, ((w.alloc (Obj.cells #[Value.int IntKind.i64 0, Value.map none] 45)).alloc (Obj.map #[] 0)).alloc (Obj.cells #[Value.int IntKind.i64 p, Value.map (some (w.heap.size + 1))] 45) = W := ⟨_, rfl⟩
  have sW : W.heap.size = w.heap.size + 3 := by rw [← hW]; simp
  have HW := Lib.hid (show MapB W (w.heap.size + 1) 0 [] ∧ Blk W w.heap.size 45 #[.int .i64 0, .map none] ∧ Blk W (w.heap.size + 1 + 1) 45 #[.int .i64 p, .map (some (w.heap.size + 1))] ∧ Below w.heap.size w W by
    rw [← hW]
    refine ⟨?_, (by repeat (first | (with_reducible assumption) | ((with_reducible refine Blk.new ?_); · first | omega | (simp; done) | (simp; omega)) | (with_reducible apply Blk.set4) | (with_reducible apply Blk.set3) | (with_reducible apply Blk.set2) | ((with_reducible refine Blk.put ?_ ?_); · first | omega | (simp; omega)) | (with_reducible refine Blk.old ?_) | (with_reducible refine Blk.drew ?_) | (with_reducible refine Blk.drewN ?_) | ((with_reducible refine Blk.below hb ?_ ?_); · first | omega | (simp; done) | (simp; omega)))), (by repeat (first | (with_reducible assumption) | ((with_reducible refine Blk.new ?_); · first | omega | (simp; done) | (simp; omega)) | (with_reducible apply Blk.set4) | (with_reducible apply Blk.set3) | (with_reducible apply Blk.set2) | ((with_reducible refine Blk.put ?_ ?_); · first | omega | (simp; omega)) | (with_reducible refine Blk.old ?_) | (with_reducible refine Blk.drew ?_) | (with_reducible refine Blk.drewN ?_) | ((with_reducible refine Blk.below hb ?_ ?_); · first | omega | (simp; done) | (simp; omega)))), (by repeat (first | (with_reducible exact Below.refl _ _) | (with_reducible assumption) | (with_reducible refine Below.drew ?_) | (with_reducible refine Below.drewN ?_) | ((with_reducible refine Below.al ?_ ?_); · first | omega | (simp; done) | (simp; omega)) | ((with_reducible refine Below.sc ?_ ?_); · first | omega | (simp; done) | (simp; omega)) | ((with_reducible refine Below.thru hb ?_ ?_); · first | omega | (simp; done) | (simp; omega))))⟩
    have := (World.ownsMap_made (w.alloc (Obj.cells #[Value.int IntKind.i64 0, Value.map none] 45)) Try.prog 3 heldR).alloc (Obj.cells #[Value.int IntKind.i64 p, Value.map (some (w.heap.size + 1))] 45)
    have e : (w.alloc (Obj.cells #[Value.int IntKind.i64 0, Value.map none] 45)).heap.size = w.heap.size + 1 := by simp
    rw [e] at this
    exact this)
  rw [hW]
  refine (HRL.out W).mono ?_
  rintro e w1 ⟨v, vs, rfl, O, R, k1⟩
  have HM := Lib.hid (HW.out.1.below k1)
  have kw1 : Below w.heap.size w w1 := HW.out.2.2.2.trans (k1.mono (by omega))
  have B1 : Blk w1 w.heap.size 45 #[.int .i64 0, .map none] := HW.out.2.1.below k1 HW.out.2.1.lt
  have B2 : Blk w1 (w.heap.size + 1 + 1) 45 #[.int .i64 p, .map (some (w.heap.size + 1))] := HW.out.2.2.1.below k1 HW.out.2.2.1.lt
  have s1 := k1.size
  have hvl := R.len
  obtain ⟨vo, vc, rfl⟩ := O.len
  rw [hvl] at O ⊢
  have b1 := B1.p2
  have b2 := B2.p2
  have f1 := B1.free 0
  have f2 := B1.free 1
  have H := Lib.hid (And.intro O (And.intro R (And.intro B1 (And.intro B2 kw1))))
  clear O R B1 B2 kw1 k1 hW HW
  go_wp2_with fail
  have HVL := Lib.hid hvl
  clear hvl b1 b2 f1 f2
  have HP0 := Lib.hid (show BasW p N (rowsI (css.take 0)) w1 w.heap.size (w.heap.size + 1) 0 [] [] from ⟨HM.out, trivial, Red.nil⟩)
  clear HM
  refine forget (fun W_ => W_ = w1) rfl ?_
  rintro w0 hw0
  have HW0 := Lib.hid hw0
  clear hw0
  go_loopw [14] (fun i wr => ∃ (k : Nat) (S : List (Nat × Value)) (T : List (Nat × List Int)), k ≤ css.length ∧ i = .int .i64 k ∧ Hid (BasW p N (rowsI (css.take k)) wr w.heap.size (w.heap.size + 1) k S T) ∧ OwnK encV 25 wr W.heap.size (.slice vo css.length vc) vs ∧ RowS wr W.heap.size vs css ∧ Blk wr w.heap.size 45 #[.int .i64 0, .map none] ∧ Blk wr (w.heap.size + 1 + 1) 45 #[.int .i64 p, .map (some (w.heap.size + 1))] ∧ Below w.heap.size w wr ∧ W.heap.size ≤ wr.heap.size) (fun i _ => css.length - (intOf i).toNat)
  case atStart =>
    have e := HW0.out
    subst e
    exact ⟨0, [], [], Nat.zero_le _, rfl, HP0, H.out.1, H.out.2.1, H.out.2.2.1, H.out.2.2.2.1, H.out.2.2.2.2, s1⟩
  case round =>
    clear H s1 HP0 HW0
    obtain ⟨k, S, T, hk, rfl, hB, O, R, B1, B2, kwr, swr⟩ := hrel
    by_cases hlt : k < css.length
    · rcases O.form with ⟨h1, h2⟩ | ⟨gx, cx, h1, hgx, hgx2, -⟩
      · have := HVL.out
        rw [h2] at this
        simp at this
        omega
      rw [HVL.out] at h1
      cases h1
      have hkv : k < vs.length := by rw [HVL.out]; exact hlt
      have cX : wr.cell? ⟨gx, k, none⟩ = some vs[k].v := by
        have := O.at (j := k) (i := 0) (x := vs[k]) (u := vs[k].v) rfl (List.getElem?_eq_getElem hkv) rfl
        simpa only [encV, Nat.mul_one, Nat.add_zero] using this
      have hX := R.at k hkv hlt
      have HXL := Lib.hid (show (css[k].map Int.ofNat).length = N by rw [List.length_map]; exact HRW.out css[k] (List.getElem_mem hlt))
      have HTK := Lib.hid (show rowsI (css.take (k + 1)) = rowsI (css.take k) ++ [css[k].map Int.ofNat] by rw [List.take_succ_eq_append_getElem hlt, rowsI, rowsI, List.map_append]; rfl)
      generalize css[k].map Int.ofNat = x at *
      generalize vs[k] = s at *
      have HX := Lib.hid hX
      have i0 : (0 : Int) ≤ (k : Int) := by omega
      have i1 : (k : Int) < (css.length : Int) := by omega
      have hcl : css.length ≤ 144 := by have := HLE.out; omega
      have b1 := B1.p2
      have b2 := B2.p2
      have H := Lib.hid (And.intro O (And.intro R (And.intro B1 (And.intro B2 kwr))))
      clear O R B1 B2 kwr hX
      go_wp2_with fail
      refine (put_any p N wr (rowsI (css.take k)) S T x s.v (w.heap.size + 1) k w.heap.size HP.out (by omega) HXL.out HX.out.slIn hB.out (by omega) (by omega)).mono ?_
      rintro e w2 ⟨rfl, hB2, k2, K2⟩
      obtain ⟨S2, T2, hBW⟩ := hB2
      rw [← HTK.out] at hBW
      have HBW := Lib.hid hBW
      have s2 := k2.size
      have O2 : OwnK encV 25 w2 W.heap.size (.slice (some ⟨gx, 0, none⟩) css.length vc) vs := H.out.1.same fun g hg => K2 g (H.out.1.lt hg).2 (by have := (H.out.1.lt hg).1; omega)
      have R2 : RowS w2 W.heap.size vs css := H.out.2.1.same fun t ht g hg => K2 g (H.out.2.1.lt t ht g hg).2 (by have := (H.out.2.1.lt t ht g hg).1; omega)
      have B12 : Blk w2 w.heap.size 45 #[.int .i64 0, .map none] := (K2 _ H.out.2.2.1.lt (by omega)).trans H.out.2.2.1
      have B22 : Blk w2 (w.heap.size + 1 + 1) 45 #[.int .i64 p, .map (some (w.heap.size + 1))] := (K2 _ H.out.2.2.2.1.lt (by omega)).trans H.out.2.2.2.1
      have kw2 : Below w.heap.size w w2 := H.out.2.2.2.2.trans k2
      have H2 := Lib.hid (And.intro O2 (And.intro R2 (And.intro B12 (And.intro B22 kw2))))
      clear O2 R2 B12 B22 kw2 hBW H k2 K2 b1 b2 cX
      go_wp2
      go_roundw
      case rel => exact ⟨k + 1, S2, T2, by omega, by go_num, HBW, H2.out.1, H2.out.2.1, H2.out.2.2.1, H2.out.2.2.2.1, H2.out.2.2.2.2, by omega⟩
      case measure => first | (simp [intOf]; done) | (simp [intOf]; omega)
    · obtain rfl : css.length = k := by omega
      have HTK := Lib.hid (show css.take css.length = css from List.take_length)
      rw [HTK.out] at hB
      have b1 := B1.p2
      have b2 := B2.p2
      have f1 := B1.free 0
      have f2 := B1.free 1
      have lB := B1.lt
      have hcl : css.length ≤ 144 := by have := HLE.out; omega
      clear O R
      go_wp2
      refine ret_at (v := .agg #[.int .i64 p, .map (some (w.heap.size + 1))]) (fun w' => Blk w' (w.heap.size) 45 (#[.int .i64 p, .map (some (w.heap.size + 1))])) (by repeat (first | (with_reducible assumption) | ((with_reducible refine Blk.new ?_); · first | omega | (simp; done) | (simp; omega)) | (with_reducible apply Blk.set4) | (with_reducible apply Blk.set3) | (with_reducible apply Blk.set2) | ((with_reducible refine Blk.put ?_ ?_); · first | omega | (simp; omega)) | (with_reducible refine Blk.old ?_) | (with_reducible refine Blk.drew ?_) | (with_reducible refine Blk.drewN ?_) | ((with_reducible refine Blk.below hb ?_ ?_); · first | omega | (simp; done) | (simp; omega)))) (fun w' hB => by have q := hB.p2; simp [results, Try.results27, go_sem, q]) rfl ?_
      rw [← HGF.out]
      refine ⟨w.heap.size + 1, css.length, S, T, rfl, ⟨?_, ?_, hB.out.red⟩, by omega, by omega, (by repeat (first | (with_reducible exact Below.refl _ _) | (with_reducible assumption) | (with_reducible refine Below.drew ?_) | (with_reducible refine Below.drewN ?_) | ((with_reducible refine Below.al ?_ ?_); · first | omega | (simp; done) | (simp; omega)) | ((with_reducible refine Below.sc ?_ ?_); · first | omega | (simp; done) | (simp; omega)) | ((with_reducible refine Below.thru hb ?_ ?_); · first | omega | (simp; done) | (simp; omega))))⟩
      · exact (hB.out.map.setCell (by simp) _).setCell (by simp) _
      · exact RowsAt.put (F := 45) (Blk.set B1) (by decide) (RowsAt.put B1 (by decide) hB.out.at_)

end Go.Proofs.Ytjjbaebddkejnaa

/- The program's RankOf. -/
namespace Go.Proofs.Ytjjbaebddkejnaa
open Go.RowKit Go.Maps
set_option linter.unusedSimpArgs false

theorem wpList_mlen (w : World) {ops : Array Oper} {rest : List Oper} {o : Oper} {a : Act} {Q : Exit → Act → World → Prop} (hg : o.guard = none) (m : Operand) (hop : o.op = Op.call { callee := Callee.builtin Builtin.len, args := #[m], argTypes := #[43] })
    (p : Int) (N : Nat) (rows : List (List Int)) (B mb n : Nat) (S : List (Nat × Value)) (T : List (Nat × List Int)) (hm : a.eval m = .map (some mb)) (hB : BasW p N rows w B mb n S T)
    (hK : wpList Try.prog ops Q rest (a.put o.dst (.int .i64 (T.length : Int))) w) : wpList Try.prog ops Q (o :: rest) a w := by
  refine wpList_len_own w hg m 43 hop 3 25 Try.underlying43 heldR mb n (mapD S) hm hB.map ?_
  have e : Maps.size (mapD S) = T.length := by
    rw [mapD_size S (by rw [hB.at_.keys]; exact hB.red.dif)]
    simpa using congrArg List.length hB.at_.keys
  rw [e]
  exact hK

set_option maxRecDepth 8000 in
set_option maxHeartbeats 1000000 in
theorem RankOf_any (n p : Int) (w : World) : Calls Try.prog 9 #[.int .i64 n, .int .i64 p] w (GivesRk n p w) := by
  obtain ⟨GF, hGF⟩ : ∃ GF, GivesRk n p w = GF := ⟨_, rfl⟩
  rw [hGF]
  have HGF := Lib.hid hGF
  have HLV := Lib.hid (fun g c w' h => levelCode_any g c n p w' h)
  have HZ := Lib.hid (fun h => rk_zero (n := n) (p := p) h)
  clear hGF
  go_enter Try.func9, Try.ntmps9
  go_wp2_with fail
  refine (HLV.out _ _ _ (Blk.new rfl)).mono ?_
  rintro e w1 ⟨rfl, k1⟩
  have kw1 : Below w.heap.size w w1 := ((Below.refl w.heap.size w).alloc (Nat.le_refl _) _).trans (k1.mono (by simp))
  have s1 := kw1.size
  clear k1
  by_cases h0 : rkCode n p = 0
  · obtain ⟨hp, hn, hl⟩ := HZ.out h0
    obtain ⟨m, rfl⟩ := Int.eq_ofNat_of_zero_le (by omega : 0 ≤ n)
    rw [Int.toNat_natCast] at hl
    have HBO := Lib.hid (fun w' => basisOf_any m p w' (by omega) hl hp)
    have HC := Lib.hid h0
    have HZ2 := Lib.hid (HZ.out h0).2.2
    rw [h0]
    clear h0 hn hl HZ
    go_wp2_with fail
    refine (HBO.out w1).mono ?_
    rintro e w2 ⟨mb, k, S, T, rfl, hB, hk, hmb, k2⟩
    have HB := Lib.hid hB
    have hle := hB.red.le
    have hll : (lineL m).length ≤ 72 := by have h := HZ2.out; rwa [Int.toNat_natCast] at h
    have HLE := Lib.hid (show T.length ≤ 72 by omega)
    clear hB hle hll
    have hfd : ∀ (a b : Value) (w : World), (Instr.field 45 (.agg #[a, b]) 1).run Try.prog w = .ok b w := fun _ _ _ => rfl
    go_wp2_with (first | (at_len; refine wpList_mlen _ rfl _ rfl p _ _ _ mb k S T rfl HB.out ?_) | fail)
    rw [← HGF.out]
    exact ⟨kw1.trans (k2.mono s1), .inr ⟨HC.out, T, by have h := HB.out.red; rw [Int.toNat_natCast]; exact h, rfl⟩⟩
  · go_wp2
    rw [← HGF.out]
    exact ⟨kw1, .inl ⟨h0, rfl⟩⟩

end Go.Proofs.Ytjjbaebddkejnaa
