/- The different forms of an action: the program's walk. -/
import Derived.Test.YtamkbgodenkboaaConj1
namespace Go.Proofs.Ytamkbgodenkboaa
open Go.RowKit

set_option maxRecDepth 8000 in
set_option maxHeartbeats 1000000 in
theorem indexFunc_any (x y v : Value) (vs : List (Sl × Sl)) (cs : List Act) (F : Act) (B : Nat) (w : World) (h : OwnF w B v vs cs) (hf : SlIn w .i64 x F.S ∧ SlIn w .i64 y F.T) (hl : cs.length ≤ 72) :
    Calls Try.prog 131 #[v, .func (.func 76) #[.agg #[x, y]] #[]] w fun e w' => ∃ r : Int, e = .returned (.int .i64 r) ∧ decide (0 ≤ r) = cs.any (sameB F) ∧ (-1 ≤ r ∧ r ≤ 72) ∧ Below w.heap.size w w' := by
  obtain ⟨vo, vc, hv⟩ := h.1.len
  rw [h.2.len] at hv
  subst hv
  have HO := Lib.hid h
  have HF := Lib.hid hf
  clear h hf
  go_enter Try.func131, Try.ntmps131
  go_wp2
  go_loopw [8] (fun i wr => ∃ j : Nat, j ≤ cs.length ∧ i = .int .i64 j ∧ Hid ((cs.take j).any (sameB F) = false) ∧ Below w.heap.size w wr) (fun i _ => cs.length - (intOf i).toNat)
  case atStart => exact ⟨0, Nat.zero_le _, rfl, Lib.hid rfl, (by repeat (first | (with_reducible exact Below.refl _ _) | (with_reducible assumption) | (with_reducible refine Below.drew ?_) | (with_reducible refine Below.drewN ?_) | ((with_reducible refine Below.al ?_ ?_); · first | omega | (simp; done) | (simp; omega)) | ((with_reducible refine Below.sc ?_ ?_); · first | omega | (simp; done) | (simp; omega)) | ((with_reducible refine Below.thru hb ?_ ?_); · first | omega | (simp; done) | (simp; omega))))⟩
  case round =>
    obtain ⟨j, hj, rfl, hp, kwr⟩ := hrel
    have swr := kwr.size
    by_cases hjl : j < cs.length
    · have HT := Lib.hid (any_take (sameB F) cs j hjl)
      have HT2 := Lib.hid (any_true (sameB F) cs (j + 1))
      obtain ⟨g, c, sl, e1, c1, c2, OS, OT⟩ := (HO.out.below kwr).row hjl
      cases e1
      have HS := Lib.hid (And.intro OS.slIn OT.slIn)
      have i0 : (0 : Int) ≤ (j : Int) := by omega
      have i1 : (j : Int) < (cs.length : Int) := by omega
      clear OS OT
      generalize cs[j] = G at *
      go_wp2_with fail
      refine (same_any x y _ _ F G _ (SlIn2.below HF.out kwr) HS.out).mono ?_
      rintro e w2 ⟨rfl, hb⟩
      have kw2 : Below w.heap.size w w2 := (by repeat (first | (with_reducible exact Below.refl _ _) | (with_reducible assumption) | (with_reducible refine Below.drew ?_) | (with_reducible refine Below.drewN ?_) | ((with_reducible refine Below.al ?_ ?_); · first | omega | (simp; done) | (simp; omega)) | ((with_reducible refine Below.sc ?_ ?_); · first | omega | (simp; done) | (simp; omega)) | ((with_reducible refine Below.thru hb ?_ ?_); · first | omega | (simp; done) | (simp; omega))))
      clear hb
      cases hq : sameB F G with
      | true =>
        have HE := Lib.hid (HT2.out (by rw [HT.out, hq, Bool.or_true]))
        clear hq
        go_wp2
        go_ret
        exact ⟨(j : Int), rfl, by rw [HE.out]; exact decide_eq_true (by omega), by omega, kw2⟩
      | false =>
        have HE := Lib.hid (show (cs.take (j + 1)).any (sameB F) = false by rw [HT.out, hq, hp.out]; rfl)
        clear hq
        go_wp2
        go_roundw
        case rel => exact ⟨j + 1, by omega, by go_num, HE, kw2⟩
        case measure => simp [intOf]; omega
    · obtain rfl : j = cs.length := by omega
      have HE := Lib.hid (show cs.any (sameB F) = false by have := hp.out; rwa [List.take_length] at this)
      go_wp2
      go_ret
      exact ⟨-1, rfl, by rw [HE.out]; rfl, by omega, kwr⟩
set_option maxRecDepth 8000 in
set_option maxHeartbeats 1000000 in
theorem containsFunc_any (x y v : Value) (vs : List (Sl × Sl)) (cs : List Act) (F : Act) (B : Nat) (w : World) (h : OwnF w B v vs cs) (hf : SlIn w .i64 x F.S ∧ SlIn w .i64 y F.T) (hl : cs.length ≤ 72) :
    Calls Try.prog 91 #[v, .func (.func 76) #[.agg #[x, y]] #[]] w fun e w' => e = .returned (.bool (cs.any (sameB F))) ∧ Below w.heap.size w w' := by
  have HO := Lib.hid h
  have HF := Lib.hid hf
  clear h hf
  go_enter Try.func91, Try.ntmps91
  go_wp2_with fail
  refine (indexFunc_any x y v vs cs F B _ (HO.out.below (by repeat (first | (with_reducible exact Below.refl _ _) | (with_reducible assumption) | (with_reducible refine Below.drew ?_) | (with_reducible refine Below.drewN ?_) | ((with_reducible refine Below.al ?_ ?_); · first | omega | (simp; done) | (simp; omega)) | ((with_reducible refine Below.sc ?_ ?_); · first | omega | (simp; done) | (simp; omega)) | ((with_reducible refine Below.thru hb ?_ ?_); · first | omega | (simp; done) | (simp; omega))))) (SlIn2.below HF.out (by repeat (first | (with_reducible exact Below.refl _ _) | (with_reducible assumption) | (with_reducible refine Below.drew ?_) | (with_reducible refine Below.drewN ?_) | ((with_reducible refine Below.al ?_ ?_); · first | omega | (simp; done) | (simp; omega)) | ((with_reducible refine Below.sc ?_ ?_); · first | omega | (simp; done) | (simp; omega)) | ((with_reducible refine Below.thru hb ?_ ?_); · first | omega | (simp; done) | (simp; omega))))) hl).mono ?_
  rintro e w1 ⟨r, rfl, hr, hr1, hb⟩
  have kw1 : Below w.heap.size w w1 := (by repeat (first | (with_reducible exact Below.refl _ _) | (with_reducible assumption) | (with_reducible refine Below.drew ?_) | (with_reducible refine Below.drewN ?_) | ((with_reducible refine Below.al ?_ ?_); · first | omega | (simp; done) | (simp; omega)) | ((with_reducible refine Below.sc ?_ ?_); · first | omega | (simp; done) | (simp; omega)) | ((with_reducible refine Below.thru hb ?_ ?_); · first | omega | (simp; done) | (simp; omega))))
  have HR := Lib.hid hr
  clear hb hr
  go_wp2
  go_ret
  exact ⟨ret_bool HR.out, kw1⟩

set_option maxRecDepth 8000 in
set_option maxHeartbeats 1000000 in
theorem CountConjugates_any (s t : Value) (S T : List Int) (w : World) (h : SlIn w .i64 s S ∧ SlIn w .i64 t T) (hl : S.length ≤ 1048576 ∧ T.length ≤ 1048576) :
    Calls Try.prog 39 #[.agg #[s, t]] w fun e w' => e = .returned (.tuple #[.int .i64 (conj2 S T).1, .int .i64 (conj2 S T).2]) ∧ Below w.heap.size w w' := by
  have HI := Lib.hid h
  have HL := Lib.hid hl
  obtain ⟨sa, sc, hsa, -⟩ := h.1.form
  obtain ⟨ta, tc, hta, -⟩ := h.2.form
  subst hsa hta
  clear h hl
  cases hq : isA S T with
  | false =>
    have HF := Lib.hid (show conj2 S T = (0, 1) by unfold conj2; rw [hq]; rfl)
    go_enter Try.func39, Try.ntmps39
    go_wp2_with fail
    refine (IsAction_any _ _ S T _ (SlIn2.below HI.out (by repeat (first | (with_reducible exact Below.refl _ _) | (with_reducible assumption) | (with_reducible refine Below.drew ?_) | (with_reducible refine Below.drewN ?_) | ((with_reducible refine Below.al ?_ ?_); · first | omega | (simp; done) | (simp; omega)) | ((with_reducible refine Below.sc ?_ ?_); · first | omega | (simp; done) | (simp; omega)) | ((with_reducible refine Below.thru hb ?_ ?_); · first | omega | (simp; done) | (simp; omega))))) HL.out).mono ?_
    rw [hq]
    clear hq
    rintro e w1 ⟨rfl, hb⟩
    have kw1 : Below w.heap.size w w1 := (by repeat (first | (with_reducible exact Below.refl _ _) | (with_reducible assumption) | (with_reducible refine Below.drew ?_) | (with_reducible refine Below.drewN ?_) | ((with_reducible refine Below.al ?_ ?_); · first | omega | (simp; done) | (simp; omega)) | ((with_reducible refine Below.sc ?_ ?_); · first | omega | (simp; done) | (simp; omega)) | ((with_reducible refine Below.thru hb ?_ ?_); · first | omega | (simp; done) | (simp; omega))))
    clear hb
    go_wp2
    go_ret2
    exact ⟨by rw [HF.out]; rfl, kw1⟩
  | true =>
    have HP := Lib.hid (isA_spec hq)
    have HF := Lib.hid (show conj2 S T = (((conjL S T S.length S.length).length : Int), 0) by unfold conj2; rw [hq]; rfl)
    have HINF := Lib.hid (info_parts infoAct)
    have h72 := HP.out.1
    generalize hn : S.length = n at *
    have HN := Lib.hid hn
    clear hn
    go_enter Try.func39, Try.ntmps39
    go_wp2_with fail
    refine (IsAction_any _ _ S T _ (SlIn2.below HI.out (by repeat (first | (with_reducible exact Below.refl _ _) | (with_reducible assumption) | (with_reducible refine Below.drew ?_) | (with_reducible refine Below.drewN ?_) | ((with_reducible refine Below.al ?_ ?_); · first | omega | (simp; done) | (simp; omega)) | ((with_reducible refine Below.sc ?_ ?_); · first | omega | (simp; done) | (simp; omega)) | ((with_reducible refine Below.thru hb ?_ ?_); · first | omega | (simp; done) | (simp; omega))))) (by have := HL.out; have := HN.out; omega)).mono ?_
    rw [hq]
    clear hq
    rintro e w1 ⟨rfl, hb⟩
    have B1 : Blk w1 w.heap.size 27 #[.slice sa n sc, .slice ta T.length tc] := (by repeat (first | (with_reducible assumption) | ((with_reducible refine Blk.new ?_); · first | omega | (simp; done) | (simp; omega)) | (with_reducible apply Blk.set4) | (with_reducible apply Blk.set3) | (with_reducible apply Blk.set2) | ((with_reducible refine Blk.put ?_ ?_); · first | omega | (simp; omega)) | (with_reducible refine Blk.old ?_) | (with_reducible refine Blk.drew ?_) | (with_reducible refine Blk.drewN ?_) | ((with_reducible refine Blk.below hb ?_ ?_); · first | omega | (simp; done) | (simp; omega))))
    have kw1 : Below w.heap.size w w1 := (by repeat (first | (with_reducible exact Below.refl _ _) | (with_reducible assumption) | (with_reducible refine Below.drew ?_) | (with_reducible refine Below.drewN ?_) | ((with_reducible refine Below.al ?_ ?_); · first | omega | (simp; done) | (simp; omega)) | ((with_reducible refine Below.sc ?_ ?_); · first | omega | (simp; done) | (simp; omega)) | ((with_reducible refine Below.thru hb ?_ ?_); · first | omega | (simp; done) | (simp; omega))))
    have b1 := B1.p2
    have sw1 := kw1.size
    have lB1 := B1.lt
    clear hb
    go_wp2_with fail
    refine forget (fun W_ => OwnF W_ (w.heap.size + 1) (.slice (some ⟨w1.heap.size, 0, none⟩) 0 0) [] (conjL S T n 0) ∧ Blk W_ w.heap.size 27 #[.slice sa n sc, .slice ta T.length tc] ∧ Below w.heap.size w W_) ⟨⟨OwnK.of_blk (xs := []) (Blk.new (by simp)) (by omega) rfl (by simp [maxLen]), trivial⟩, (by repeat (first | (with_reducible assumption) | ((with_reducible refine Blk.new ?_); · first | omega | (simp; done) | (simp; omega)) | (with_reducible apply Blk.set4) | (with_reducible apply Blk.set3) | (with_reducible apply Blk.set2) | ((with_reducible refine Blk.put ?_ ?_); · first | omega | (simp; omega)) | (with_reducible refine Blk.old ?_) | (with_reducible refine Blk.drew ?_) | (with_reducible refine Blk.drewN ?_) | ((with_reducible refine Blk.below hb ?_ ?_); · first | omega | (simp; done) | (simp; omega)))), (by repeat (first | (with_reducible exact Below.refl _ _) | (with_reducible assumption) | (with_reducible refine Below.drew ?_) | (with_reducible refine Below.drewN ?_) | ((with_reducible refine Below.al ?_ ?_); · first | omega | (simp; done) | (simp; omega)) | ((with_reducible refine Below.sc ?_ ?_); · first | omega | (simp; done) | (simp; omega)) | ((with_reducible refine Below.thru hb ?_ ?_); · first | omega | (simp; done) | (simp; omega))))⟩ ?_
    rintro w2 ⟨O2, B2, kw2⟩
    clear B1 kw1 b1 sw1 lB1
    go_loopw [4, 14] (fun v i wr => ∃ (k : Nat) (vs : List (Sl × Sl)), k ≤ n ∧ i = .int .i64 k ∧ OwnF wr (w.heap.size + 1) v vs (conjL S T n k) ∧ Blk wr w.heap.size 27 #[.slice sa n sc, .slice ta T.length tc] ∧ Below w.heap.size w wr) (fun _ i _ => n - (intOf i).toNat)
    case atStart => exact ⟨0, [], Nat.zero_le _, rfl, O2, B2, kw2⟩
    case round =>
      clear O2 B2 kw2
      obtain ⟨k, vs, hk, rfl, O, B, kwr⟩ := hrel
      have HCL := Lib.hid (conjL_len S T n k)
      have HX := Lib.hid (show conjL S T n (k + 1) = if (conjL S T n k).any (sameB (formOf S T k n)) then conjL S T n k else conjL S T n k ++ [formOf S T k n] from rfl)
      obtain ⟨vo, vc, hv⟩ := O.1.len
      rw [O.2.len] at hv
      subst hv
      generalize hcs : conjL S T n k = cs at *
      replace hcs := Lib.hid hcs
      have hcl := HCL.out.1
      have b0 := B.p2
      have lB := B.lt
      have swr := kwr.size
      by_cases hlt : k < n
      · have H := Lib.hid (And.intro O (And.intro B kwr))
        clear O B kwr
        go_wp2_with fail
        refine (form_any _ _ S T n k _ (SlIn2.below HI.out H.out.2.2) HP.out.2.1 HP.out.2.2.1 hlt h72.2).mono ?_
        rintro e w3 ⟨fs, ft, rfl, OF, hb⟩
        obtain ⟨xa, xc, hx, -⟩ := OF.1.slIn.form
        obtain ⟨ya, yc, hy, -⟩ := OF.2.1.slIn.form
        rw [(formOf_len S T k n).1] at hx
        rw [(formOf_len S T k n).2] at hy
        subst hx hy
        have HFL := Lib.hid (formOf_len S T k n)
        have z3 := hb.size
        have HO := Lib.hid (show Own w3 (w.heap.size + 1) (.slice xa n xc) (formOf S T k n).S ∧ Own w3 (w.heap.size + 1) (.slice ya n yc) (formOf S T k n).T from ⟨OF.1.mono (by omega), OF.2.1.mono (by omega)⟩)
        have H3 := Lib.hid (And.intro (H.out.1.below hb) (And.intro (show Blk w3 w.heap.size 27 #[.slice sa n sc, .slice ta T.length tc] by have B := H.out.2.1; exact (by repeat (first | (with_reducible assumption) | ((with_reducible refine Blk.new ?_); · first | omega | (simp; done) | (simp; omega)) | (with_reducible apply Blk.set4) | (with_reducible apply Blk.set3) | (with_reducible apply Blk.set2) | ((with_reducible refine Blk.put ?_ ?_); · first | omega | (simp; omega)) | (with_reducible refine Blk.old ?_) | (with_reducible refine Blk.drew ?_) | (with_reducible refine Blk.drewN ?_) | ((with_reducible refine Blk.below hb ?_ ?_); · first | omega | (simp; done) | (simp; omega))))) (show Below w.heap.size w w3 by have kk := H.out.2.2; exact (by repeat (first | (with_reducible exact Below.refl _ _) | (with_reducible assumption) | (with_reducible refine Below.drew ?_) | (with_reducible refine Below.drewN ?_) | ((with_reducible refine Below.al ?_ ?_); · first | omega | (simp; done) | (simp; omega)) | ((with_reducible refine Below.sc ?_ ?_); · first | omega | (simp; done) | (simp; omega)) | ((with_reducible refine Below.thru hb ?_ ?_); · first | omega | (simp; done) | (simp; omega)))))))
        clear hb H OF b0
        generalize formOf S T k n = F at *
        go_wp2_with fail
        refine (containsFunc_any (.slice xa n xc) (.slice ya n yc) _ vs cs F (w.heap.size + 1) _ (H3.out.1.below (by repeat (first | (with_reducible exact Below.refl _ _) | (with_reducible assumption) | (with_reducible refine Below.drew ?_) | (with_reducible refine Below.drewN ?_) | ((with_reducible refine Below.al ?_ ?_); · first | omega | (simp; done) | (simp; omega)) | ((with_reducible refine Below.sc ?_ ?_); · first | omega | (simp; done) | (simp; omega)) | ((with_reducible refine Below.thru hb ?_ ?_); · first | omega | (simp; done) | (simp; omega))))) ⟨HO.out.1.slIn.below (by repeat (first | (with_reducible exact Below.refl _ _) | (with_reducible assumption) | (with_reducible refine Below.drew ?_) | (with_reducible refine Below.drewN ?_) | ((with_reducible refine Below.al ?_ ?_); · first | omega | (simp; done) | (simp; omega)) | ((with_reducible refine Below.sc ?_ ?_); · first | omega | (simp; done) | (simp; omega)) | ((with_reducible refine Below.thru hb ?_ ?_); · first | omega | (simp; done) | (simp; omega)))), HO.out.2.slIn.below (by repeat (first | (with_reducible exact Below.refl _ _) | (with_reducible assumption) | (with_reducible refine Below.drew ?_) | (with_reducible refine Below.drewN ?_) | ((with_reducible refine Below.al ?_ ?_); · first | omega | (simp; done) | (simp; omega)) | ((with_reducible refine Below.sc ?_ ?_); · first | omega | (simp; done) | (simp; omega)) | ((with_reducible refine Below.thru hb ?_ ?_); · first | omega | (simp; done) | (simp; omega))))⟩ (by omega)).mono ?_
        rintro e w4 ⟨rfl, hb⟩
        have z4 := hb.size
        try simp at z4
        have lB3 := H3.out.2.1.lt
        have sw3 := H3.out.2.2.size
        have O5 := (H3.out.1.below (w' := w3.alloc (.cells #[.slice xa n xc, .slice ya n yc] 27)) (by repeat (first | (with_reducible exact Below.refl _ _) | (with_reducible assumption) | (with_reducible refine Below.drew ?_) | (with_reducible refine Below.drewN ?_) | ((with_reducible refine Below.al ?_ ?_); · first | omega | (simp; done) | (simp; omega)) | ((with_reducible refine Below.sc ?_ ?_); · first | omega | (simp; done) | (simp; omega)) | ((with_reducible refine Below.thru hb ?_ ?_); · first | omega | (simp; done) | (simp; omega))))).below hb
        have F5 := Lib.hid (show Own w4 (w.heap.size + 1) (.slice xa n xc) F.S ∧ Own w4 (w.heap.size + 1) (.slice ya n yc) F.T from ⟨(HO.out.1.alloc (o := .cells #[.slice xa n xc, .slice ya n yc] 27)).below hb, (HO.out.2.alloc (o := .cells #[.slice xa n xc, .slice ya n yc] 27)).below hb⟩)
        have B5 : Blk w4 w.heap.size 27 #[.slice sa n sc, .slice ta T.length tc] := by have B := H3.out.2.1; exact (by repeat (first | (with_reducible assumption) | ((with_reducible refine Blk.new ?_); · first | omega | (simp; done) | (simp; omega)) | (with_reducible apply Blk.set4) | (with_reducible apply Blk.set3) | (with_reducible apply Blk.set2) | ((with_reducible refine Blk.put ?_ ?_); · first | omega | (simp; omega)) | (with_reducible refine Blk.old ?_) | (with_reducible refine Blk.drew ?_) | (with_reducible refine Blk.drewN ?_) | ((with_reducible refine Blk.below hb ?_ ?_); · first | omega | (simp; done) | (simp; omega))))
        have X5 : Blk w4 w3.heap.size 27 #[.slice xa n xc, .slice ya n yc] := (by repeat (first | (with_reducible assumption) | ((with_reducible refine Blk.new ?_); · first | omega | (simp; done) | (simp; omega)) | (with_reducible apply Blk.set4) | (with_reducible apply Blk.set3) | (with_reducible apply Blk.set2) | ((with_reducible refine Blk.put ?_ ?_); · first | omega | (simp; omega)) | (with_reducible refine Blk.old ?_) | (with_reducible refine Blk.drew ?_) | (with_reducible refine Blk.drewN ?_) | ((with_reducible refine Blk.below hb ?_ ?_); · first | omega | (simp; done) | (simp; omega))))
        have k5 : Below w.heap.size w w4 := by have kk := H3.out.2.2; exact (by repeat (first | (with_reducible exact Below.refl _ _) | (with_reducible assumption) | (with_reducible refine Below.drew ?_) | (with_reducible refine Below.drewN ?_) | ((with_reducible refine Below.al ?_ ?_); · first | omega | (simp; done) | (simp; omega)) | ((with_reducible refine Below.sc ?_ ?_); · first | omega | (simp; done) | (simp; omega)) | ((with_reducible refine Below.thru hb ?_ ?_); · first | omega | (simp; done) | (simp; omega))))
        have x5 := X5.p2
        have lX5 := X5.lt
        clear hb H3 HO
        cases hbb : cs.any (sameB F) with
        | true =>
          have HE := Lib.hid hbb
          have K := Lib.hid (And.intro O5 (And.intro B5 k5))
          clear hbb O5 B5 k5 X5
          go_wp2
          go_roundw
          case rel => exact ⟨k + 1, vs, by omega, by go_num, by rw [HX.out, HE.out, if_pos rfl]; exact K.out.1, K.out.2.1, K.out.2.2⟩
          case measure => simp [intOf]; omega
        | false =>
          have HE := Lib.hid hbb
          have hvl := O5.2.len
          have O6 := O5.1
          rw [← hvl] at O6
          have K := Lib.hid (And.intro O6 (And.intro O5.2 (And.intro B5 k5)))
          have HVL := Lib.hid hvl
          have hvb : vs.length ≤ k := by omega
          clear hbb O5 B5 k5 O6 hvl
          obtain ⟨jI, hinf⟩ := HINF.out
          replace hinf := Lib.hid hinf
          go_wp2_with (at_builtin; refine wpList_app encA rfl _ _ 103 27 48 rfl Try.underlying103 jI _ hinf.out.1 hinf.out.2.1 hinf.out.2.2.1 hinf.out.2.2.2 rfl (.slice vo cs.length vc) vs (w.heap.size + 1) w4.heap.size 1 #[.slice xa n xc, .slice ya n yc] [(⟨xa, n, xc⟩, ⟨ya, n, yc⟩)] rfl ?o1 rfl ?b1 rfl ?l1 ?l2 (by first | omega | (simp; done) | (simp; omega)) ?_)
          case o1 =>
            have O1 := K.out.1
            rw [HVL.out] at O1
            exact (by repeat (first | (with_reducible assumption) | (with_reducible refine Own.drew ?_) | (with_reducible refine Own.drewN ?_) | (with_reducible refine Own.alloc ?_) | (with_reducible refine OwnK.drew ?_) | (with_reducible refine OwnK.drewN ?_) | (with_reducible refine OwnK.alloc ?_) | ((with_reducible refine OwnK.put ?_ ?_); · first | omega | (simp; done) | (simp; omega)) | ((with_reducible refine Own.below hb ?_)) | ((with_reducible refine OwnK.below hb ?_))))
          case b1 => exact Blk.new (by simp)
          case l1 => (try simp only [List.length_cons, List.length_nil]); unfold maxLen; omega
          case l2 => (try simp only [List.length_cons, List.length_nil]); omega
          intro v' w7 O7 hg
          have O1 := K.out.1
          have kk := K.out.2.2.2
          have ss := kk.size
          rw [← HVL.out] at hg
          have B7 : Blk w7 w.heap.size 27 #[.slice sa n sc, .slice ta T.length tc] := Blk.grownK hg (e := encA) (E := 27) (B := w.heap.size + 1) (xs := vs) (by repeat (first | (with_reducible assumption) | (with_reducible refine Own.drew ?_) | (with_reducible refine Own.drewN ?_) | (with_reducible refine Own.alloc ?_) | (with_reducible refine OwnK.drew ?_) | (with_reducible refine OwnK.drewN ?_) | (with_reducible refine OwnK.alloc ?_) | ((with_reducible refine OwnK.put ?_ ?_); · first | omega | (simp; done) | (simp; omega)) | ((with_reducible refine Own.below hb ?_)) | ((with_reducible refine OwnK.below hb ?_)))) (by omega) (Blk.old K.out.2.2.1)
          have kw7 : Below w.heap.size w w7 := Below.grownK hg (e := encA) (E := 27) (B := w.heap.size + 1) (xs := vs) (by repeat (first | (with_reducible assumption) | (with_reducible refine Own.drew ?_) | (with_reducible refine Own.drewN ?_) | (with_reducible refine Own.alloc ?_) | (with_reducible refine OwnK.drew ?_) | (with_reducible refine OwnK.drewN ?_) | (with_reducible refine OwnK.alloc ?_) | ((with_reducible refine OwnK.put ?_ ?_); · first | omega | (simp; done) | (simp; omega)) | ((with_reducible refine Own.below hb ?_)) | ((with_reducible refine OwnK.below hb ?_)))) (by omega) (by simp; omega) (by repeat (first | (with_reducible exact Below.refl _ _) | (with_reducible assumption) | (with_reducible refine Below.drew ?_) | (with_reducible refine Below.drewN ?_) | ((with_reducible refine Below.al ?_ ?_); · first | omega | (simp; done) | (simp; omega)) | ((with_reducible refine Below.sc ?_ ?_); · first | omega | (simp; done) | (simp; omega)) | ((with_reducible refine Below.thru hb ?_ ?_); · first | omega | (simp; done) | (simp; omega))))
          have R7 : Fms w7 (w.heap.size + 1) (vs ++ [(⟨xa, n, xc⟩, ⟨ya, n, yc⟩)]) (cs ++ [F]) :=
            Fms.grown hg (e := encA) (E := 27) (B' := w.heap.size + 1) (xs := vs) (by repeat (first | (with_reducible assumption) | (with_reducible refine Own.drew ?_) | (with_reducible refine Own.drewN ?_) | (with_reducible refine Own.alloc ?_) | (with_reducible refine OwnK.drew ?_) | (with_reducible refine OwnK.drewN ?_) | (with_reducible refine OwnK.alloc ?_) | ((with_reducible refine OwnK.put ?_ ?_); · first | omega | (simp; done) | (simp; omega)) | ((with_reducible refine Own.below hb ?_)) | ((with_reducible refine OwnK.below hb ?_)))) (by decide) (Fms.below ((Below.refl _ _).alloc (Nat.le_refl _) _) (Fms.snoc (s := (⟨xa, n, xc⟩, ⟨ya, n, yc⟩)) F5.out K.out.2.1))
          clear hg O1 kk K
          go_wp2
          go_roundw
          case rel => exact ⟨k + 1, vs ++ [(⟨xa, n, xc⟩, ⟨ya, n, yc⟩)], by omega, by go_num, by rw [HX.out, HE.out, if_neg (by simp)]; exact ⟨O7, R7⟩, B7, kw7⟩
          case measure => simp [intOf]; omega
      · obtain rfl : k = n := by omega
        go_wp2
        go_ret2
        exact ⟨by rw [HF.out, hcs.out]; rfl, kwr⟩

theorem specCountConjugates_any (s t : Value) (S T : List Int) (w : World) (h : SlIn w .i64 s S ∧ SlIn w .i64 t T) (hl : S.length ≤ 1048576 ∧ T.length ≤ 1048576) :
    Calls Try.prog 38 #[.agg #[s, t]] w fun e w' => e = .returned (.tuple #[.int .i64 (conj2 S T).1, .int .i64 (conj2 S T).2]) ∧ Below w.heap.size w w' := specConjAt s t S T w h hl

end Go.Proofs.Ytamkbgodenkboaa
