/- The ends of a mix: the program's walk. -/
import Derived.Test.YtjjbaebddkejnaaCpf
import Derived.Test.YtjjbaebddkejnaaTail
import Derived.Test.YtjjbaebddkejnaaSum
import Derived.Test.YtjjbaebddkejnaaFrc
import Derived.Deep.OwnRows
namespace Go.Proofs.Ytjjbaebddkejnaa
open Go.RowKit
set_option linter.unusedSimpArgs false

theorem indexFunc0_any (w : World) :
    Calls Try.prog 68 #[.slice none 0 0, .func (.func 45) #[] #[]] w fun e w' => e = .returned (.int .i64 (-1)) ∧ Below w.heap.size w w' := by
  go_enter Try.func68, Try.ntmps68
  go_wp2_with fail
  refine wp_loop_rounds 1 ?_
  rw [rounds_succ]
  go_wp2
  go_ret
  exact ⟨rfl, (by repeat (first | (with_reducible exact Below.refl _ _) | (with_reducible assumption) | (with_reducible refine Below.drew ?_) | (with_reducible refine Below.drewN ?_) | ((with_reducible refine Below.al ?_ ?_); · first | omega | (simp; done) | (simp; omega)) | ((with_reducible refine Below.sc ?_ ?_); · first | omega | (simp; done) | (simp; omega)) | ((with_reducible refine Below.thru hb ?_ ?_); · first | omega | (simp; done) | (simp; omega)) | ((with_reducible refine Below.thru hb4 ?_ ?_); · first | omega | (simp; done) | (simp; omega)) | ((with_reducible refine Below.thru hb5 ?_ ?_); · first | omega | (simp; done) | (simp; omega))))⟩
theorem containsFunc0_any (w : World) :
    Calls Try.prog 44 #[.slice none 0 0, .func (.func 45) #[] #[]] w fun e w' => e = .returned (.bool false) ∧ Below w.heap.size w w' := by
  go_enter Try.func44, Try.ntmps44
  go_wp2_with fail
  refine (indexFunc0_any _).mono ?_
  rintro e w1 ⟨rfl, k1⟩
  go_wp2
  go_ret
  exact ⟨rfl, (by repeat (first | (with_reducible exact Below.refl _ _) | (with_reducible assumption) | (with_reducible refine Below.drew ?_) | (with_reducible refine Below.drewN ?_) | ((with_reducible refine Below.al ?_ ?_); · first | omega | (simp; done) | (simp; omega)) | ((with_reducible refine Below.sc ?_ ?_); · first | omega | (simp; done) | (simp; omega)) | ((with_reducible refine Below.thru hb ?_ ?_); · first | omega | (simp; done) | (simp; omega)) | ((with_reducible refine Below.thru hb4 ?_ ?_); · first | omega | (simp; done) | (simp; omega)) | ((with_reducible refine Below.thru hb5 ?_ ?_); · first | omega | (simp; done) | (simp; omega))))⟩
set_option maxRecDepth 8000 in
set_option maxHeartbeats 2000000 in
theorem levelCode0_any (n : Int) (w : World) :
    Calls Try.prog 26 #[.int .i64 n, .slice none 0 0] w fun e w' => e = .returned (.int .i64 (lvCode n)) ∧ Below w.heap.size w w' := by
  have hmf : ∀ (fn : Fn) (first cap : Array Value) (w : World), (Instr.makeFunc fn first cap).run Try.prog w = .ok (.func fn first cap) w := fun _ _ _ _ => rfl
  have HCF := Lib.hid containsFunc0_any
  obtain ⟨r, hr⟩ : ∃ r, lvCode n = r := ⟨_, rfl⟩
  rw [hr]
  have HR := Lib.hid hr
  clear hr
  go_enter Try.func26, Try.ntmps26
  go_wp2_with fail
  refine (isLevel_any _ _).mono ?_
  rintro e w1 ⟨rfl, rfl⟩
  cases hq : inB n 1 60 with
  | false =>
    have h2 : ¬ (1 ≤ n ∧ n ≤ 60) := fun h => by rw [inB_mk h] at hq; cases hq
    have HE := Lib.hid (show r = 2 by rw [← HR.out]; unfold lvCode; rw [if_neg h2])
    clear hq h2
    go_wp2
    go_ret
    exact ⟨by rw [HE.out]; rfl, (by repeat (first | (with_reducible exact Below.refl _ _) | (with_reducible assumption) | (with_reducible refine Below.drew ?_) | (with_reducible refine Below.drewN ?_) | ((with_reducible refine Below.al ?_ ?_); · first | omega | (simp; done) | (simp; omega)) | ((with_reducible refine Below.sc ?_ ?_); · first | omega | (simp; done) | (simp; omega)) | ((with_reducible refine Below.thru hb ?_ ?_); · first | omega | (simp; done) | (simp; omega)) | ((with_reducible refine Below.thru hb4 ?_ ?_); · first | omega | (simp; done) | (simp; omega)) | ((with_reducible refine Below.thru hb5 ?_ ?_); · first | omega | (simp; done) | (simp; omega))))⟩
  | true =>
    have h2 : 1 ≤ n ∧ n ≤ 60 := by simpa [inB] using hq
    obtain ⟨m, rfl⟩ := Int.eq_ofNat_of_zero_le (by omega : 0 ≤ n)
    have hm : 1 ≤ m ∧ m ≤ 60 := by omega
    have HLL := Lib.hid (fun w' : World => line_any m w' hm)
    have HE := Lib.hid (show r = if 72 < (lineL m).length then 3 else 0 by rw [← HR.out]; unfold lvCode; rw [if_pos h2, Int.toNat_natCast])
    clear hq h2
    generalize lineL m = LL at *
    go_wp2_with fail
    refine (HCF.out _).mono ?_
    rintro e w2 ⟨rfl, k2⟩
    have s2 := k2.size
    go_wp2_with fail
    refine (HLL.out _).mono ?_
    rintro e w3 ⟨v, rfl, O3, k3⟩
    have k4 : Below w.heap.size w w3 := k2.trans (k3.mono s2)
    obtain ⟨vo, vc, rfl⟩ := O3.len
    clear O3 k2 k3
    by_cases hl : 72 < LL.length
    · rw [if_pos hl] at HE
      go_wp2
      go_ret
      exact ⟨by rw [HE.out]; rfl, k4⟩
    · rw [if_neg hl] at HE
      go_wp2
      go_ret
      exact ⟨by rw [HE.out]; rfl, k4⟩
/-- The numbers of the cusps that a mix's symbols lead to and come from, and its ends. -/
def hereF (n k : Nat) : Int := (numL (movL n tM) (lineL n).length).getD k 0
def thereF (n k : Nat) : Int := (numL (movL n tM) (lineL n).length).getD (sQ n (lineL n) ((lineL n).getD k (0, 0))) 0
def endL (n : Nat) (x : List Int) : List Int := endTo (hereF n) (thereF n) x (numC (movL n tM) (lineL n).length) (lineL n).length
def endR (n : Int) (x : List Int) : List Int := if sumC n [x] = 0 then endL n.toNat x else []
def GivesEn (n : Int) (x : List Int) (w : World) (e : Ending) (w' : World) : Prop := ∃ v, e = .returned (.tuple #[v, .int .i64 (sumC n [x])]) ∧ Own w' w.heap.size v (endR n x) ∧ Below w.heap.size w w'
theorem addAt_get (out : List Int) (c a : Int) (j : Nat) : (addAt out c a).getD j 0 = out.getD j 0 ∨ (addAt out c a).getD j 0 = out.getD j 0 + a := by
  unfold addAt
  by_cases hj : j < out.length
  · rw [set_getD hj]
    split
    · rename_i e; rw [e]; exact .inr rfl
    · exact .inl rfl
  · left
    rw [List.getD_eq_getElem?_getD, List.getElem?_eq_none (by rw [List.length_set]; omega), List.getD_eq_getElem?_getD, List.getElem?_eq_none (by omega)]
theorem okX_ent {N : Nat} {x : List Int} (h : okX N x = true) : x.length = N ∧ ∀ k, k < N → -1000000 ≤ x.getD k 0 ∧ x.getD k 0 ≤ 1000000 := by
  unfold okX at h
  rw [Bool.and_eq_true] at h
  have hl : x.length = N := by simpa using h.1
  refine ⟨hl, fun k hk => ?_⟩
  rw [getD_lt (by omega)]
  have := List.all_eq_true.1 h.2 _ (List.getElem_mem (show k < x.length by omega))
  exact of_decide_eq_true this
theorem made_zero (n : Nat) : (madeCells #[Value.int .i64 0] n).toList = (List.replicate n (0 : Int)).map (Value.int .i64) := by
  apply List.ext_getElem
  · simp [size_madeCells]
  · intro j h1 h2
    simp [madeCells, Nat.mod_one]
/-- What one symbol of a mix needs. -/
def SymF (n : Nat) (C k : Nat) (x : Nat × Nat) : Prop := ∃ (a b c d p1 p2 : Int) (h t : Nat), h < C ∧ t < C ∧ hereF n k = (h : Int) ∧ thereF n k = (t : Int) ∧
  (∀ w : World, Calls Try.prog 37 #[.int .i64 (n : Int), .agg #[.int .i64 (x.1 : Int), .int .i64 (x.2 : Int)]] w fun e w' => e = .returned (.agg #[.int .i64 a, .int .i64 b, .int .i64 c, .int .i64 d]) ∧ Below w.heap.size w w') ∧
  (∀ w : World, Calls Try.prog 38 #[.int .i64 a, .int .i64 c] w fun e w' => e = .returned (.tuple #[.agg #[.int .i64 p1, .int .i64 c], .int .i64 0]) ∧ Below w.heap.size w w') ∧
  (∀ w : World, Calls Try.prog 38 #[.int .i64 b, .int .i64 d] w fun e w' => e = .returned (.tuple #[.agg #[.int .i64 p2, .int .i64 d], .int .i64 0]) ∧ Below w.heap.size w w') ∧
  (∀ w : World, Calls Try.prog 39 #[.int .i64 (n : Int), .agg #[.int .i64 p1, .int .i64 c]] w fun e w' => e = .returned (.tuple #[.int .i64 (h : Int), .int .i64 0]) ∧ Below w.heap.size w w') ∧
  (∀ w : World, Calls Try.prog 39 #[.int .i64 (n : Int), .agg #[.int .i64 p2, .int .i64 d]] w fun e w' => e = .returned (.tuple #[.int .i64 (t : Int), .int .i64 0]) ∧ Below w.heap.size w w')
theorem sym_of {n k : Nat} {q : Nat × Nat} {j1 j2 : Nat} (HV : Lvl n) (hk : k < (lineL n).length) (F : EndF n k q j1 j2 (lineL n)[k]) : SymF n (numC (movL n tM) (lineL n).length) k (lineL n)[k] := by
  have hx := line_lt hk
  have hn := HV.n1
  have b1 := F.b1
  have b2 := F.b2
  have e1 := numL_bd (movL n tM) hk
  have e2 := numL_bd (movL n tM) F.s
  obtain ⟨h, hh⟩ := Int.eq_ofNat_of_zero_le e1.1
  obtain ⟨t, ht⟩ := Int.eq_ofNat_of_zero_le e2.1
  have hT : thereF n k = (t : Int) := by
    unfold thereF
    rw [show (lineL n).getD k (0, 0) = (lineL n)[k] by rw [List.getD_eq_getElem?_getD, List.getElem?_eq_getElem hk]; rfl]
    exact ht
  refine ⟨(q.1 : Int), bQ (lineL n)[k].1 q, ((lineL n)[k].1 : Int), (q.2 : Int), nfQ (q.1 : Int) (lineL n)[k].1, nfQ (bQ (lineL n)[k].1 q) q.2, h, t, by omega, by omega, hh, hT, fun w => ?_, fun w => ?_, fun w => ?_, fun w => ?_, fun w => ?_⟩
  · exact cosetMatrix_any n _ _ q F.cos hn hx.1 hx.2 w
  · exact fraction_any _ _ F.g1 (by omega) (by omega) w
  · exact fraction_any _ _ F.g2 F.bb (by omega) w
  · have := cuspOf_any n _ _ j1 F.c1 HV F.f1.2 (by omega) F.f1.1 w
    rwa [F.n1, hh] at this
  · have := cuspOf_any n _ _ j2 F.c2 HV F.f2.2 (by omega) F.f2.1 w
    rwa [F.n2, ht] at this
set_option maxRecDepth 8000 in
set_option maxHeartbeats 4000000 in
theorem EndsOf_any (n : Int) (v : Value) (x : List Int) (w : World) (hv : SlIn w .i64 v x) : Calls Try.prog 19 #[.int .i64 n, v] w (GivesEn n x w) := by
  obtain ⟨GF, hGF⟩ : ∃ GF, GivesEn n x w = GF := ⟨_, rfl⟩
  rw [hGF]
  have HGF := Lib.hid hGF
  have HLV := Lib.hid (fun w' => levelCode0_any n w')
  have HV := Lib.hid hv
  obtain ⟨xo, xc, rfl, hxc⟩ := hv.form
  have HXC := Lib.hid hxc
  clear hGF hv hxc
  go_enter Try.func19, Try.ntmps19
  go_wp2_with fail
  refine (HLV.out _).mono ?_
  rintro e w1 ⟨rfl, k1⟩
  have s1 := k1.size
  by_cases h0 : lvCode n = 0
  · obtain ⟨hn, hl⟩ := lv_zero h0
    obtain ⟨m, rfl⟩ := Int.eq_ofNat_of_zero_le (by omega : 0 ≤ n)
    rw [Int.toNat_natCast] at hl
    have hm : 1 ≤ m ∧ m ≤ 60 := by omega
    obtain ⟨HVL, HEF⟩ := lev_ok hm hl (line_pos hm.1)
    have HMX := Lib.hid (fun w' h => isMix_any m (.slice xo x.length xc) x w' hm (by omega) h)
    have HC := Lib.hid (show sumC (m : Int) [x] = if okX (lineL m).length x = true then 0 else 2 by
      unfold sumC
      rw [if_pos h0, Int.toNat_natCast]
      simp)
    have HCU := Lib.hid (fun w' => cusps_any m w' HVL)
    have HLN := Lib.hid (fun w' => line_any m w' hm)
    rw [h0]
    go_wp2_with fail
    refine (HMX.out _ (SlIn.below k1 HV.out)).mono ?_
    rintro e w2 ⟨rfl, k2⟩
    have kw2 : Below w.heap.size w w2 := k1.trans (k2.mono s1)
    have s2 := k2.size
    clear k2
    obtain ⟨b, hb⟩ : ∃ b, okX (lineL m).length x = b := ⟨_, rfl⟩
    rw [hb]
    have HB := Lib.hid hb
    clear hb
    cases b with
    | false =>
      go_wp2
      rw [← HGF.out]
      exact ⟨_, by rw [HC.out, HB.out]; rfl, by unfold endR; rw [HC.out, HB.out]; exact Own.nil _ _, kw2⟩
    | true =>
      have HXE := Lib.hid (okX_ent HB.out)
      have HSY := Lib.hid (show ∀ k (hk : k < (lineL m).length), SymF m (numC (movL m tM) (lineL m).length) k (lineL m)[k] from fun k hk => by
        obtain ⟨q, j1, j2, F⟩ := HEF k hk
        exact sym_of HVL hk F)
      have HR := Lib.hid (show endR (m : Int) x = endTo (hereF m) (thereF m) x (numC (movL m tM) (lineL m).length) (lineL m).length by
        unfold endR
        rw [HC.out, HB.out, Int.toNat_natCast]
        rfl)
      have HC0 := Lib.hid (show sumC (m : Int) [x] = 0 by rw [HC.out, HB.out]; rfl)
      have hC72 : numC (movL m tM) (lineL m).length ≤ 72 := Nat.le_trans (numTo_cnt _ _ _) hl
      obtain ⟨FH, hFH⟩ : ∃ f, hereF m = f := ⟨_, rfl⟩
      obtain ⟨FT, hFT⟩ : ∃ f, thereF m = f := ⟨_, rfl⟩
      rw [hFH, hFT] at HR
      have HFH := Lib.hid hFH
      have HFT := Lib.hid hFT
      clear hFH hFT
      generalize movL m tM = P at *
      generalize lineL m = L at *
      obtain ⟨N, hN⟩ : ∃ N, L.length = N := ⟨_, rfl⟩
      have HN := Lib.hid hN
      obtain ⟨C, hCe⟩ : ∃ C, numC P L.length = C := ⟨_, rfl⟩
      rw [hCe] at HR HSY hC72
      rw [hN] at HR HXE hl
      have HCE := Lib.hid hCe
      clear hCe hN HVL HEF HC HB
      have hix0 : ∀ w : World, (Instr.index 54 (.agg #[.int .i64 1, .int .i64 (-1)]) (.int .i64 0)).run Try.prog w = .ok (.int .i64 1) w := fun _ => by kernel_rfl
      have hix1 : ∀ w : World, (Instr.index 54 (.agg #[.int .i64 1, .int .i64 (-1)]) (.int .i64 1)).run Try.prog w = .ok (.int .i64 (-1)) w := fun _ => by kernel_rfl
      have hmk := run_make_row' (P := Try.prog) 25 2 (.int .i64 0) 8 Try.underlying25 infoI rfl .i64 .i64 C (by omega) (by omega)
      go_wp2_with fail
      refine (HCU.out _).mono ?_
      rintro e w3 ⟨v3, vs, css, rfl, O3, R3, ho, hc, hb3⟩
      have kw3 : Below w.heap.size w w3 := kw2.trans (hb3.mono (by omega))
      have s3 := kw3.size
      have hvl : vs.length = C := by rw [R3.len, hc, HCE.out]
      obtain ⟨co, cc, rfl⟩ := O3.len
      rw [hvl]
      clear O3 R3 ho hc hb3 hvl
      go_wp2_with fail
      refine (HLN.out _).mono ?_
      rintro e w5 ⟨v5, rfl, O5, hb⟩
      obtain ⟨lo, lc, rfl⟩ := O5.len
      rw [HN.out]
      have OP1 : OwnP w5 (w3.heap.size + 1) (.slice lo N lc) L := by
        have := OwnK.mono (B' := w3.heap.size + 1) (by simp) O5
        rwa [HN.out] at this
      have OO1 : Own w5 w.heap.size (.slice (some ⟨w3.heap.size, 0, none⟩) C C) (endTo FH FT x C 0) := by
        have := Own.below hb (Own.of_blk (B := w.heap.size) (xs := List.replicate C 0) (Blk.new rfl) (by omega) (made_zero C) (by rw [List.length_replicate]; unfold maxLen; omega))
        rwa [List.length_replicate] at this
      have kw5 : Below w.heap.size w w5 := (by repeat (first | (with_reducible exact Below.refl _ _) | (with_reducible assumption) | (with_reducible refine Below.drew ?_) | (with_reducible refine Below.drewN ?_) | ((with_reducible refine Below.al ?_ ?_); · first | omega | (simp; done) | (simp; omega)) | ((with_reducible refine Below.sc ?_ ?_); · first | omega | (simp; done) | (simp; omega)) | ((with_reducible refine Below.thru hb ?_ ?_); · first | omega | (simp; done) | (simp; omega)) | ((with_reducible refine Below.thru hb4 ?_ ?_); · first | omega | (simp; done) | (simp; omega)) | ((with_reducible refine Below.thru hb5 ?_ ?_); · first | omega | (simp; done) | (simp; omega))))
      have H1 := Lib.hid (And.intro OP1 OO1)
      clear hb O5 OP1 OO1 HCU HLN hmk HLV HMX
      generalize w3.heap.size = g0 at *
      go_wp2_with fail
      go_loopw [33] (fun ii wr => ∃ k : Nat, k ≤ N ∧ ii = .int .i64 k ∧ Hid (OwnP wr (g0 + 1) (.slice lo N lc) L ∧ Own wr w.heap.size (.slice (some ⟨g0, 0, none⟩) C C) (endTo FH FT x C k)) ∧ Below w.heap.size w wr) (fun ii _ => N - (intOf ii).toNat)
      case atStart => exact ⟨0, Nat.zero_le _, rfl, H1, kw5⟩
      case round =>
        clear H1 kw5
        obtain ⟨k, hk, rfl, H1, kwr⟩ := hrel
        have swr := kwr.size
        by_cases hlt : k < N
        · obtain ⟨a, b, c, d, p1, p2, h, t, hh, ht, eh, et, HM1, HF1, HF2, HK1, HK2⟩ := HSY.out k (by rw [HN.out]; exact hlt)
          obtain ⟨g, cap, hvg, hg1, hg2⟩ : ∃ g cap, Value.slice lo N lc = .slice (some ⟨g, 0, none⟩) N cap ∧ g0 + 1 ≤ g ∧ g < wr.heap.size := by
            rcases H1.out.1.form with ⟨h1, h2⟩ | ⟨g, cap, h1, h2, h3, -⟩
            · have := HN.out
              rw [h2] at this
              simp at this
              omega
            · exact ⟨g, cap, by rw [h1, HN.out], h2, h3⟩
          simp only [Value.slice.injEq, true_and] at hvg
          obtain ⟨rfl, rfl⟩ := hvg
          obtain ⟨c1, c2⟩ := OwnP.at2 H1.out.1 (show k < L.length by rw [HN.out]; exact hlt)
          have i0 : (0 : Int) ≤ (k : Int) := by omega
          have i1 : (k : Int) < (N : Int) := by omega
          have HM := Lib.hid HM1
          have HG1 := Lib.hid HF1
          have HG2 := Lib.hid HF2
          have HU1 := Lib.hid HK1
          have HU2 := Lib.hid HK2
          rw [HFH.out] at eh
          rw [HFT.out] at et
          have HEH := Lib.hid eh
          have HET := Lib.hid et
          clear HM1 HF1 HF2 HK1 HK2 eh et
          generalize L[k]'(by rw [HN.out]; exact hlt) = xx at *
          obtain ⟨x1, x2⟩ := xx
          simp only at c1 c2 HM
          go_wp2_with fail
          refine (HM.out _).mono ?_
          rintro e w6 ⟨rfl, hb⟩
          have kk : Below wr.heap.size wr w6 := (by repeat (first | (with_reducible exact Below.refl _ _) | (with_reducible assumption) | (with_reducible refine Below.drew ?_) | (with_reducible refine Below.drewN ?_) | ((with_reducible refine Below.al ?_ ?_); · first | omega | (simp; done) | (simp; omega)) | ((with_reducible refine Below.sc ?_ ?_); · first | omega | (simp; done) | (simp; omega)) | ((with_reducible refine Below.thru hb ?_ ?_); · first | omega | (simp; done) | (simp; omega)) | ((with_reducible refine Below.thru hb4 ?_ ?_); · first | omega | (simp; done) | (simp; omega)) | ((with_reducible refine Below.thru hb5 ?_ ?_); · first | omega | (simp; done) | (simp; omega))))
          have s6 := kk.size
          clear hb c1 c2
          go_wp2_with fail
          refine forget (fun W_ => Blk W_ w6.heap.size 57 #[.int .i64 a, .int .i64 b, .int .i64 c, .int .i64 d] ∧ Below wr.heap.size wr W_) ⟨Blk.new rfl, (by repeat (first | (with_reducible exact Below.refl _ _) | (with_reducible assumption) | (with_reducible refine Below.drew ?_) | (with_reducible refine Below.drewN ?_) | ((with_reducible refine Below.al ?_ ?_); · first | omega | (simp; done) | (simp; omega)) | ((with_reducible refine Below.sc ?_ ?_); · first | omega | (simp; done) | (simp; omega)) | ((with_reducible refine Below.thru hb ?_ ?_); · first | omega | (simp; done) | (simp; omega)) | ((with_reducible refine Below.thru hb4 ?_ ?_); · first | omega | (simp; done) | (simp; omega)) | ((with_reducible refine Below.thru hb5 ?_ ?_); · first | omega | (simp; done) | (simp; omega))))⟩ ?_
          rintro W0 ⟨MW0, kr0⟩
          have kW0 : Below w.heap.size w W0 := kwr.trans (kr0.mono swr)
          have SW0 := Lib.hid (show OwnP W0 (g0 + 1) (.slice (some ⟨g, 0, none⟩) N lc) L ∧ Own W0 w.heap.size (.slice (some ⟨g0, 0, none⟩) C C) (endTo FH FT x C k) from ⟨H1.out.1.below kr0, H1.out.2.below kr0⟩)
          have gmr : wr.heap.size ≤ w6.heap.size := s6
          have r0 : (0 : Int) ≤ (h : Int) := by omega
          have r1 : (h : Int) < (C : Int) := by omega
          have t0 : (0 : Int) ≤ (t : Int) := by omega
          have t1 : (t : Int) < (C : Int) := by omega
          have xi1 : (k : Int) < (x.length : Int) := by rw [HXE.out.1]; exact i1
          obtain ⟨xa, rfl, hxa⟩ := HXC.out (by omega)
          have hxk := hxa k (by omega)
          rw [show x[k]'(by omega) = x.getD k 0 from (getD_lt (by omega)).symm] at hxk
          have hxb := HXE.out.2 k hlt
          obtain ⟨xk, hxke⟩ : ∃ z, x.getD k 0 = z := ⟨_, rfl⟩
          rw [hxke] at hxk hxb
          have HXK := Lib.hid hxke
          clear hxa hxke
          obtain ⟨y1, hy1⟩ : ∃ z, (endTo FH FT x C k).getD h 0 = z := ⟨_, rfl⟩
          have HY1 := Lib.hid (show (endTo FH FT x C k)[h]? = some y1 by rw [← hy1]; exact get_getD (by rw [endTo_len]; exact hh))
          have hb1 := endTo_bd (H := FH) (T := FT) (x := x) (n := C) (k := k) (fun j hj => HXE.out.2 j (by omega)) h
          rw [hy1] at hb1
          clear hy1
          generalize w6.heap.size = gm at *
          obtain ⟨s1, hs1⟩ : ∃ z, y1 + xk = z := ⟨_, rfl⟩
          have HE1 := Lib.hid (show (endTo FH FT x C k).set h s1 = addAt (endTo FH FT x C k) (FH k) (x.getD k 0) by
            unfold addAt
            rw [HEH.out, HXK.out, Int.toNat_natCast, ← hs1]
            congr 2
            rw [List.getD_eq_getElem?_getD, HY1.out]
            rfl)
          obtain ⟨y2, hy2⟩ : ∃ z, ((endTo FH FT x C k).set h s1).getD t 0 = z := ⟨_, rfl⟩
          have HY2 := Lib.hid (show ((endTo FH FT x C k).set h s1)[t]? = some y2 by rw [← hy2]; exact get_getD (by rw [List.length_set, endTo_len]; exact ht))
          have hb2 : -200000000 ≤ y2 ∧ y2 ≤ 200000000 := by
            have h3 := endTo_bd (H := FH) (T := FT) (x := x) (n := C) (k := k) (fun j hj => HXE.out.2 j (by omega)) t
            rw [HE1.out] at hy2
            rcases addAt_get (endTo FH FT x C k) (FH k) (x.getD k 0) t with h4 | h4
            · rw [h4] at hy2; omega
            · rw [h4, HXK.out] at hy2; omega
          obtain ⟨s2, hs2⟩ : ∃ z, y2 + -xk = z := ⟨_, rfl⟩
          have HE2 := Lib.hid (show ((endTo FH FT x C k).set h s1).set t s2 = endTo FH FT x C (k + 1) by
            rw [endTo, ← HE1.out, addAt, HET.out, HXK.out, Int.toNat_natCast, hy2, hs2])
          have hq1 : IntKind.i64.wrap xk = xk := by rw [IntKind.wrap_i64]; omega
          have hq2 : IntKind.i64.wrap (-xk) = -xk := by rw [IntKind.wrap_i64]; omega
          have hq3 : IntKind.i64.wrap (y1 + xk) = s1 := by rw [IntKind.wrap_i64]; omega
          have hq4 : IntKind.i64.wrap (y2 + -xk) = s2 := by rw [IntKind.wrap_i64]; omega
          have hq5 : IntKind.i64.wrap (1 * xk) = xk := by rw [IntKind.wrap_i64]; omega
          have hq6 : IntKind.i64.wrap (-1 * xk) = -xk := by rw [IntKind.wrap_i64]; omega
          clear hs1 hs2 hy2 hb1 hb2 hxb
          have hwa : IntKind.i64.wrap 2 = 2 := by decide
          have hwb : IntKind.i64.wrap 3 = 3 := by decide
          have hwc : IntKind.i64.wrap (2 + 0) = 2 := by decide
          have hwd : IntKind.i64.wrap (2 + 1) = 3 := by decide
          --ROUND
          refine wp_loop_rounds 3 ?_
          rw [rounds_succ]
          go_wp2_with fail
          have ma0 := MW0.at (i := 0) rfl
          have ma1 := MW0.at (i := 2) rfl
          have lMa := MW0.lt
          go_cut [13] (fun s13 wx => ∃ g13 : Nat, Blk wx g13 59 #[.int .i64 p1, .int .i64 c] ∧ s13 = .pointer (some ⟨g13, 0, none⟩) ∧ Below W0.heap.size W0 wx)
          case first =>
            go_region_held3 (fun w' => w'.cell? ⟨gm, 0, none⟩ = some (.int .i64 a) ∧ w'.cell? ⟨gm, 2, none⟩ = some (.int .i64 c)) (first | go_keep | exact ⟨e0, e1⟩ | (refine ⟨?_, ?_⟩ <;> ((repeat rw [cell_put (by omega)]); first | exact e0 | exact e1))) (first | (go_at_call 38; refine (HG1.out _).mono ?_; rintro e wz ⟨rfl, hb4⟩; have hbc4 := bcell hb4; have hbs4 := hb4.size; (try simp at hbs4); have G0 : Blk wz gm 57 #[.int .i64 a, .int .i64 b, .int .i64 c, .int .i64 d] := (by repeat (first | (with_reducible assumption) | ((with_reducible refine Blk.new ?_); · first | omega | (simp; done) | (simp; omega)) | (with_reducible apply Blk.set4) | (with_reducible apply Blk.set3) | (with_reducible apply Blk.set2) | ((with_reducible refine Blk.put ?_ ?_); · first | omega | (simp; omega)) | (with_reducible refine Blk.old ?_) | (with_reducible refine Blk.drew ?_) | (with_reducible refine Blk.drewN ?_) | ((with_reducible refine Blk.below hb ?_ ?_); · first | omega | (simp; done) | (simp; omega)) | ((with_reducible refine Blk.below hb4 ?_ ?_); · first | omega | (simp; done) | (simp; omega)) | ((with_reducible refine Blk.below hb5 ?_ ?_); · first | omega | (simp; done) | (simp; omega)))); have m0 := G0.lt; have e0 := G0.at (i := 0) rfl; have e1 := G0.at (i := 2) rfl))
            all_goals go_wp2_with fail
            all_goals go_meet
            all_goals first | exact ⟨_, Blk.new rfl, rfl, (by repeat (first | (with_reducible exact Below.refl _ _) | (with_reducible assumption) | (with_reducible refine Below.drew ?_) | (with_reducible refine Below.drewN ?_) | ((with_reducible refine Below.al ?_ ?_); · first | omega | (simp; done) | (simp; omega)) | ((with_reducible refine Below.sc ?_ ?_); · first | omega | (simp; done) | (simp; omega)) | ((with_reducible refine Below.thru hb ?_ ?_); · first | omega | (simp; done) | (simp; omega)) | ((with_reducible refine Below.thru hb4 ?_ ?_); · first | omega | (simp; done) | (simp; omega)) | ((with_reducible refine Below.thru hb5 ?_ ?_); · first | omega | (simp; done) | (simp; omega))))⟩ | exact ⟨_, Blk.set2 (by repeat (first | (with_reducible assumption) | ((with_reducible refine Blk.new ?_); · first | omega | (simp; done) | (simp; omega)) | (with_reducible apply Blk.set4) | (with_reducible apply Blk.set3) | (with_reducible apply Blk.set2) | ((with_reducible refine Blk.put ?_ ?_); · first | omega | (simp; omega)) | (with_reducible refine Blk.old ?_) | (with_reducible refine Blk.drew ?_) | (with_reducible refine Blk.drewN ?_) | ((with_reducible refine Blk.below hb ?_ ?_); · first | omega | (simp; done) | (simp; omega)) | ((with_reducible refine Blk.below hb4 ?_ ?_); · first | omega | (simp; done) | (simp; omega)) | ((with_reducible refine Blk.below hb5 ?_ ?_); · first | omega | (simp; done) | (simp; omega)))), rfl, (by repeat (first | (with_reducible exact Below.refl _ _) | (with_reducible assumption) | (with_reducible refine Below.drew ?_) | (with_reducible refine Below.drewN ?_) | ((with_reducible refine Below.al ?_ ?_); · first | omega | (simp; done) | (simp; omega)) | ((with_reducible refine Below.sc ?_ ?_); · first | omega | (simp; done) | (simp; omega)) | ((with_reducible refine Below.thru hb ?_ ?_); · first | omega | (simp; done) | (simp; omega)) | ((with_reducible refine Below.thru hb4 ?_ ?_); · first | omega | (simp; done) | (simp; omega)) | ((with_reducible refine Below.thru hb5 ?_ ?_); · first | omega | (simp; done) | (simp; omega))))⟩
          case rest =>
          obtain ⟨g13, Fa, rfl, hb⟩ := hcut
          have fa0 := Fa.at (i := 0) rfl
          have fa1 := Fa.at (i := 1) rfl
          go_wp2_with fail
          refine (HU1.out _).mono ?_
          rintro e w9a ⟨rfl, hb4⟩
          have kca : Below W0.heap.size W0 w9a := hb.trans (hb4.mono hb.size)
          have kda : Below w.heap.size w w9a := kW0.trans (kca.mono kW0.size)
          have sda := kda.size
          have Za := Lib.hid (show OwnP w9a (g0 + 1) (.slice (some ⟨g, 0, none⟩) N lc) L ∧ Own w9a w.heap.size (.slice (some ⟨g0, 0, none⟩) C C) (endTo FH FT x C k) ∧ Blk w9a gm 57 #[.int .i64 a, .int .i64 b, .int .i64 c, .int .i64 d] from ⟨SW0.out.1.below kca, SW0.out.2.below kca, MW0.below kca lMa⟩)
          clear hb hb4 fa0 fa1 Fa ma0 ma1
          have ya0 : w9a.cell? ⟨g0, h, none⟩ = some (.int .i64 y1) := Za.out.2.1.at rfl HY1.out
          have ya1 := Za.out.2.1.fr.1 h
          have xa0 : w9a.cell? (xa.add k) = some (.int .i64 xk) := (kda.cell (block_lt_of_cell hxk :)).trans hxk
          go_wp2_with fail
          have Ya := cell_later ya0
          have Xa := cell_later xa0
          refine wp_region_calm_tail 12 (by kernel_rfl) (by kernel_rfl) ?_; simp only [List.take_succ_cons, List.take_zero, List.drop_succ_cons, List.drop_zero]
          repeat (go_big_quiet_step (fail))
          refine wpQuiet_nil ?_
          rintro w8a ⟨⟨_, hb⟩, rfl⟩
          have kqa : Below w9a.heap.size w9a w8a := (by repeat (first | (with_reducible exact Below.refl _ _) | (with_reducible assumption) | (with_reducible refine Below.drew ?_) | (with_reducible refine Below.drewN ?_) | ((with_reducible refine Below.al ?_ ?_); · first | omega | (simp; done) | (simp; omega)) | ((with_reducible refine Below.sc ?_ ?_); · first | omega | (simp; done) | (simp; omega)) | ((with_reducible refine Below.thru hb ?_ ?_); · first | omega | (simp; done) | (simp; omega)) | ((with_reducible refine Below.thru hb4 ?_ ?_); · first | omega | (simp; done) | (simp; omega)) | ((with_reducible refine Below.thru hb5 ?_ ?_); · first | omega | (simp; done) | (simp; omega))))
          have kw8a : Below w.heap.size w w8a := (by repeat (first | (with_reducible exact Below.refl _ _) | (with_reducible assumption) | (with_reducible refine Below.drew ?_) | (with_reducible refine Below.drewN ?_) | ((with_reducible refine Below.al ?_ ?_); · first | omega | (simp; done) | (simp; omega)) | ((with_reducible refine Below.sc ?_ ?_); · first | omega | (simp; done) | (simp; omega)) | ((with_reducible refine Below.thru hb ?_ ?_); · first | omega | (simp; done) | (simp; omega)) | ((with_reducible refine Below.thru hb4 ?_ ?_); · first | omega | (simp; done) | (simp; omega)) | ((with_reducible refine Below.thru hb5 ?_ ?_); · first | omega | (simp; done) | (simp; omega))))
          have sw8a := kw8a.size
          clear hb
          clear Ya Xa
          have Va := Lib.hid (show OwnP w8a (g0 + 1) (.slice (some ⟨g, 0, none⟩) N lc) L ∧ Own w8a w.heap.size (.slice (some ⟨g0, 0, none⟩) C C) (endTo FH FT x C k) ∧ Blk w8a gm 57 #[.int .i64 a, .int .i64 b, .int .i64 c, .int .i64 d] from ⟨Za.out.1.below kqa, Za.out.2.1.below kqa, Za.out.2.2.below kqa Za.out.2.2.lt⟩)
          clear ya0 ya1 xa0 kqa Za
          have ya0 : w8a.cell? ⟨g0, h, none⟩ = some (.int .i64 y1) := Va.out.2.1.at rfl HY1.out
          have ya1 := Va.out.2.1.fr.1 h
          go_wp2_with fail
          rw [rounds_succ]
          refine forget (fun W_ => (OwnP W_ (g0 + 1) (.slice (some ⟨g, 0, none⟩) N lc) L ∧ Own W_ w.heap.size (.slice (some ⟨g0, 0, none⟩) C C) ((endTo FH FT x C k).set h s1) ∧ Blk W_ gm 57 #[.int .i64 a, .int .i64 b, .int .i64 c, .int .i64 d]) ∧ Below w.heap.size w W_) ⟨⟨OwnK.put (by omega) Va.out.1, OwnI.set Va.out.2.1 (endTo_len _ _ _ _ _), Blk.put (by omega) Va.out.2.2⟩, (by repeat (first | (with_reducible exact Below.refl _ _) | (with_reducible assumption) | (with_reducible refine Below.drew ?_) | (with_reducible refine Below.drewN ?_) | ((with_reducible refine Below.al ?_ ?_); · first | omega | (simp; done) | (simp; omega)) | ((with_reducible refine Below.sc ?_ ?_); · first | omega | (simp; done) | (simp; omega)) | ((with_reducible refine Below.thru hb ?_ ?_); · first | omega | (simp; done) | (simp; omega)) | ((with_reducible refine Below.thru hb4 ?_ ?_); · first | omega | (simp; done) | (simp; omega)) | ((with_reducible refine Below.thru hb5 ?_ ?_); · first | omega | (simp; done) | (simp; omega))))⟩ ?_
          rintro W1 ⟨hSW1, kW1⟩
          have SW1 := Lib.hid (And.intro hSW1.1 hSW1.2.1)
          have MW1 := hSW1.2.2
          clear hSW1 ya0 ya1 Va kw8a sw8a kca kda sda lMa
          go_wp2_with fail
          have mb0 := MW1.at (i := 1) rfl
          have mb1 := MW1.at (i := 3) rfl
          have lMb := MW1.lt
          go_cut [13] (fun s13 wx => ∃ g13 : Nat, Blk wx g13 59 #[.int .i64 p2, .int .i64 d] ∧ s13 = .pointer (some ⟨g13, 0, none⟩) ∧ Below W1.heap.size W1 wx)
          case first =>
            go_region_held3 (fun w' => w'.cell? ⟨gm, 1, none⟩ = some (.int .i64 b) ∧ w'.cell? ⟨gm, 3, none⟩ = some (.int .i64 d)) (first | go_keep | exact ⟨e0, e1⟩ | (refine ⟨?_, ?_⟩ <;> ((repeat rw [cell_put (by omega)]); first | exact e0 | exact e1))) (first | (go_at_call 38; refine (HG2.out _).mono ?_; rintro e wz ⟨rfl, hb4⟩; have hbc4 := bcell hb4; have hbs4 := hb4.size; (try simp at hbs4); have G0 : Blk wz gm 57 #[.int .i64 a, .int .i64 b, .int .i64 c, .int .i64 d] := (by repeat (first | (with_reducible assumption) | ((with_reducible refine Blk.new ?_); · first | omega | (simp; done) | (simp; omega)) | (with_reducible apply Blk.set4) | (with_reducible apply Blk.set3) | (with_reducible apply Blk.set2) | ((with_reducible refine Blk.put ?_ ?_); · first | omega | (simp; omega)) | (with_reducible refine Blk.old ?_) | (with_reducible refine Blk.drew ?_) | (with_reducible refine Blk.drewN ?_) | ((with_reducible refine Blk.below hb ?_ ?_); · first | omega | (simp; done) | (simp; omega)) | ((with_reducible refine Blk.below hb4 ?_ ?_); · first | omega | (simp; done) | (simp; omega)) | ((with_reducible refine Blk.below hb5 ?_ ?_); · first | omega | (simp; done) | (simp; omega)))); have m0 := G0.lt; have e0 := G0.at (i := 1) rfl; have e1 := G0.at (i := 3) rfl))
            all_goals go_wp2_with fail
            all_goals go_meet
            all_goals first | exact ⟨_, Blk.new rfl, rfl, (by repeat (first | (with_reducible exact Below.refl _ _) | (with_reducible assumption) | (with_reducible refine Below.drew ?_) | (with_reducible refine Below.drewN ?_) | ((with_reducible refine Below.al ?_ ?_); · first | omega | (simp; done) | (simp; omega)) | ((with_reducible refine Below.sc ?_ ?_); · first | omega | (simp; done) | (simp; omega)) | ((with_reducible refine Below.thru hb ?_ ?_); · first | omega | (simp; done) | (simp; omega)) | ((with_reducible refine Below.thru hb4 ?_ ?_); · first | omega | (simp; done) | (simp; omega)) | ((with_reducible refine Below.thru hb5 ?_ ?_); · first | omega | (simp; done) | (simp; omega))))⟩ | exact ⟨_, Blk.set2 (by repeat (first | (with_reducible assumption) | ((with_reducible refine Blk.new ?_); · first | omega | (simp; done) | (simp; omega)) | (with_reducible apply Blk.set4) | (with_reducible apply Blk.set3) | (with_reducible apply Blk.set2) | ((with_reducible refine Blk.put ?_ ?_); · first | omega | (simp; omega)) | (with_reducible refine Blk.old ?_) | (with_reducible refine Blk.drew ?_) | (with_reducible refine Blk.drewN ?_) | ((with_reducible refine Blk.below hb ?_ ?_); · first | omega | (simp; done) | (simp; omega)) | ((with_reducible refine Blk.below hb4 ?_ ?_); · first | omega | (simp; done) | (simp; omega)) | ((with_reducible refine Blk.below hb5 ?_ ?_); · first | omega | (simp; done) | (simp; omega)))), rfl, (by repeat (first | (with_reducible exact Below.refl _ _) | (with_reducible assumption) | (with_reducible refine Below.drew ?_) | (with_reducible refine Below.drewN ?_) | ((with_reducible refine Below.al ?_ ?_); · first | omega | (simp; done) | (simp; omega)) | ((with_reducible refine Below.sc ?_ ?_); · first | omega | (simp; done) | (simp; omega)) | ((with_reducible refine Below.thru hb ?_ ?_); · first | omega | (simp; done) | (simp; omega)) | ((with_reducible refine Below.thru hb4 ?_ ?_); · first | omega | (simp; done) | (simp; omega)) | ((with_reducible refine Below.thru hb5 ?_ ?_); · first | omega | (simp; done) | (simp; omega))))⟩
          case rest =>
          obtain ⟨g13, Fb, rfl, hb⟩ := hcut
          have fb0 := Fb.at (i := 0) rfl
          have fb1 := Fb.at (i := 1) rfl
          go_wp2_with fail
          refine (HU2.out _).mono ?_
          rintro e w9b ⟨rfl, hb4⟩
          have kcb : Below W1.heap.size W1 w9b := hb.trans (hb4.mono hb.size)
          have kdb : Below w.heap.size w w9b := kW1.trans (kcb.mono kW1.size)
          have sdb := kdb.size
          have Zb := Lib.hid (show OwnP w9b (g0 + 1) (.slice (some ⟨g, 0, none⟩) N lc) L ∧ Own w9b w.heap.size (.slice (some ⟨g0, 0, none⟩) C C) ((endTo FH FT x C k).set h s1) ∧ Blk w9b gm 57 #[.int .i64 a, .int .i64 b, .int .i64 c, .int .i64 d] from ⟨SW1.out.1.below kcb, SW1.out.2.below kcb, MW1.below kcb lMb⟩)
          clear hb hb4 fb0 fb1 Fb mb0 mb1
          have yb0 : w9b.cell? ⟨g0, t, none⟩ = some (.int .i64 y2) := Zb.out.2.1.at rfl HY2.out
          have yb1 := Zb.out.2.1.fr.1 t
          have xb0 : w9b.cell? (xa.add k) = some (.int .i64 xk) := (kdb.cell (block_lt_of_cell hxk :)).trans hxk
          go_wp2_with fail
          have Yb := cell_later yb0
          have Xb := cell_later xb0
          refine wp_region_calm_tail 12 (by kernel_rfl) (by kernel_rfl) ?_; simp only [List.take_succ_cons, List.take_zero, List.drop_succ_cons, List.drop_zero]
          repeat (go_big_quiet_step (fail))
          refine wpQuiet_nil ?_
          rintro w8b ⟨⟨_, hb⟩, rfl⟩
          have kqb : Below w9b.heap.size w9b w8b := (by repeat (first | (with_reducible exact Below.refl _ _) | (with_reducible assumption) | (with_reducible refine Below.drew ?_) | (with_reducible refine Below.drewN ?_) | ((with_reducible refine Below.al ?_ ?_); · first | omega | (simp; done) | (simp; omega)) | ((with_reducible refine Below.sc ?_ ?_); · first | omega | (simp; done) | (simp; omega)) | ((with_reducible refine Below.thru hb ?_ ?_); · first | omega | (simp; done) | (simp; omega)) | ((with_reducible refine Below.thru hb4 ?_ ?_); · first | omega | (simp; done) | (simp; omega)) | ((with_reducible refine Below.thru hb5 ?_ ?_); · first | omega | (simp; done) | (simp; omega))))
          have kw8b : Below w.heap.size w w8b := (by repeat (first | (with_reducible exact Below.refl _ _) | (with_reducible assumption) | (with_reducible refine Below.drew ?_) | (with_reducible refine Below.drewN ?_) | ((with_reducible refine Below.al ?_ ?_); · first | omega | (simp; done) | (simp; omega)) | ((with_reducible refine Below.sc ?_ ?_); · first | omega | (simp; done) | (simp; omega)) | ((with_reducible refine Below.thru hb ?_ ?_); · first | omega | (simp; done) | (simp; omega)) | ((with_reducible refine Below.thru hb4 ?_ ?_); · first | omega | (simp; done) | (simp; omega)) | ((with_reducible refine Below.thru hb5 ?_ ?_); · first | omega | (simp; done) | (simp; omega))))
          have sw8b := kw8b.size
          clear hb
          clear Yb Xb
          have Vb := Lib.hid (show OwnP w8b (g0 + 1) (.slice (some ⟨g, 0, none⟩) N lc) L ∧ Own w8b w.heap.size (.slice (some ⟨g0, 0, none⟩) C C) ((endTo FH FT x C k).set h s1) ∧ Blk w8b gm 57 #[.int .i64 a, .int .i64 b, .int .i64 c, .int .i64 d] from ⟨Zb.out.1.below kqb, Zb.out.2.1.below kqb, Zb.out.2.2.below kqb Zb.out.2.2.lt⟩)
          clear yb0 yb1 xb0 kqb Zb
          have yb0 : w8b.cell? ⟨g0, t, none⟩ = some (.int .i64 y2) := Vb.out.2.1.at rfl HY2.out
          have yb1 := Vb.out.2.1.fr.1 t
          go_wp2_with fail
          rw [rounds_succ]
          refine forget (fun W_ => (OwnP W_ (g0 + 1) (.slice (some ⟨g, 0, none⟩) N lc) L ∧ Own W_ w.heap.size (.slice (some ⟨g0, 0, none⟩) C C) (((endTo FH FT x C k).set h s1).set t s2) ∧ Blk W_ gm 57 #[.int .i64 a, .int .i64 b, .int .i64 c, .int .i64 d]) ∧ Below w.heap.size w W_) ⟨⟨OwnK.put (by omega) Vb.out.1, OwnI.set Vb.out.2.1 (by rw [List.length_set, endTo_len]), Blk.put (by omega) Vb.out.2.2⟩, (by repeat (first | (with_reducible exact Below.refl _ _) | (with_reducible assumption) | (with_reducible refine Below.drew ?_) | (with_reducible refine Below.drewN ?_) | ((with_reducible refine Below.al ?_ ?_); · first | omega | (simp; done) | (simp; omega)) | ((with_reducible refine Below.sc ?_ ?_); · first | omega | (simp; done) | (simp; omega)) | ((with_reducible refine Below.thru hb ?_ ?_); · first | omega | (simp; done) | (simp; omega)) | ((with_reducible refine Below.thru hb4 ?_ ?_); · first | omega | (simp; done) | (simp; omega)) | ((with_reducible refine Below.thru hb5 ?_ ?_); · first | omega | (simp; done) | (simp; omega))))⟩ ?_
          rintro W2 ⟨hSW2, kW2⟩
          have SW2 := Lib.hid (And.intro hSW2.1 hSW2.2.1)
          have MW2 := hSW2.2.2
          clear hSW2 yb0 yb1 Vb kw8b sw8b kcb kdb sdb lMb
          go_wp2_with fail
          go_roundw
          case rel => exact ⟨k + 1, by omega, by go_num, Lib.hid ⟨SW2.out.1, by rw [← HE2.out]; exact SW2.out.2⟩, kW2⟩
          case measure => first | (simp [intOf]; done) | (simp [intOf]; omega)
          --ENDROUND
        · obtain rfl : k = N := by omega
          go_wp2
          rw [← HGF.out]
          exact ⟨_, by rw [HC0.out]; rfl, by rw [HR.out]; exact H1.out.2, kwr⟩
  · have H0 := Lib.hid h0
    have HC := Lib.hid (show sumC n [x] = lvCode n by unfold sumC; rw [if_neg h0])
    go_wp2
    rw [← HGF.out]
    exact ⟨_, by rw [HC.out]; rfl, by unfold endR; rw [HC.out, if_neg H0.out]; exact Own.nil _ _, k1⟩

end Go.Proofs.Ytjjbaebddkejnaa
