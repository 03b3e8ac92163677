/- The program's basis.left. -/
import Derived.Test.YtjjbaebddkejnaaBlm
import Derived.Test.YtjjbaebddkejnaaInv
namespace Go.Proofs.Ytjjbaebddkejnaa
open Go.RowKit Go.Maps
set_option linter.unusedSimpArgs false

def GivesL (p : Int) (N : Nat) (T : List (Nat × List Int)) (x : List Int) (w : World) : Ending → World → Prop := fun e w' =>
  ∃ v ys r, e = .returned (.tuple #[v, .int .i64 r]) ∧ Own w' w.heap.size v ys ∧ LeftR p N T x ys r ∧ Below w.heap.size w w'

set_option maxRecDepth 8000 in
set_option maxHeartbeats 2000000 in
theorem left_any (p : Int) (N : Nat) (S : List (Nat × Value)) (T : List (Nat × List Int)) (x : List Int) (xv : Value) (mb n B : Nat) (w : World) (hp : PrimeP p) (hN : N ≤ 1000) (hx : x.length = N) (hi : SlIn w .i64 xv x) (hM : MapB w mb n S) (hR : RowsAt w B S T) (hd : (T.map Prod.fst).Nodup) (hG : ∀ a ∈ T, GoodR p N a) :
    Calls Try.prog 32 #[.agg #[.int .i64 p, .map (some mb)], xv] w (GivesL p N T x w) := by
  obtain ⟨GF, hGF⟩ : ∃ GF, GivesL p N T x w = GF := ⟨_, rfl⟩
  rw [hGF]
  have HGF := Lib.hid hGF
  have HP := Lib.hid hp
  have HX := Lib.hid hx
  have HI := Lib.hid hi
  have HM := Lib.hid hM
  have HR := Lib.hid hR
  have HD := Lib.hid hd
  have HG := Lib.hid hG
  have hb := hp.bd
  clear hGF hp hx hi hM hR hd hG
  obtain ⟨xo, xc, hxv, hxc⟩ := HI.out.form
  have HXI := Lib.hid (fun h0 : 0 < N => hxc (by rw [HX.out]; exact h0))
  clear hxc
  rw [HX.out] at hxv
  subst hxv
  obtain ⟨xs, hxs⟩ : ∃ xs, x.map (· % p) = xs := ⟨_, rfl⟩
  have HXL := Lib.hid (show xs.length = N by rw [← hxs, List.length_map, HX.out])
  have HXG := Lib.hid (show ∀ k (h : k < x.length), xs.take (k + 1) = xs.take k ++ [x[k] % p] by
    intro k h
    rw [← hxs, List.take_succ_eq_append_getElem (by simpa using h), List.getElem_map])
  have HST := Lib.hid (show LeftS p N T x xs 0 by rw [← hxs, ← HX.out]; exact LeftS.start x HP.out)
  clear hxs HI
  have HINF := Lib.hid (info_parts infoI)
  go_enter Try.func32, Try.ntmps32
  go_wp2_with fail
  refine forget (fun W_ => Blk W_ w.heap.size 45 #[.int .i64 p, .map (some mb)] ∧ Own W_ (w.heap.size + 1) (.slice (some ⟨w.heap.size + 1, 0, none⟩) 0 0) [] ∧ Below w.heap.size w W_ ∧ w.heap.size + 2 ≤ W_.heap.size) ⟨(by repeat (first | (with_reducible assumption) | ((with_reducible refine Blk.new ?_); · first | omega | (simp; done) | (simp; omega)) | (with_reducible apply Blk.set4) | (with_reducible apply Blk.set3) | (with_reducible apply Blk.set2) | ((with_reducible refine Blk.put ?_ ?_); · first | omega | (simp; omega)) | (with_reducible refine Blk.old ?_) | (with_reducible refine Blk.drew ?_) | (with_reducible refine Blk.drewN ?_) | ((with_reducible refine Blk.below hb ?_ ?_); · first | omega | (simp; done) | (simp; omega)))), Own.of_blk (xs := []) (by repeat (first | (with_reducible assumption) | ((with_reducible refine Blk.new ?_); · first | omega | (simp; done) | (simp; omega)) | (with_reducible apply Blk.set4) | (with_reducible apply Blk.set3) | (with_reducible apply Blk.set2) | ((with_reducible refine Blk.put ?_ ?_); · first | omega | (simp; omega)) | (with_reducible refine Blk.old ?_) | (with_reducible refine Blk.drew ?_) | (with_reducible refine Blk.drewN ?_) | ((with_reducible refine Blk.below hb ?_ ?_); · first | omega | (simp; done) | (simp; omega)))) (by omega) rfl (by simp [maxLen]), (by repeat (first | (with_reducible exact Below.refl _ _) | (with_reducible assumption) | (with_reducible refine Below.drew ?_) | (with_reducible refine Below.drewN ?_) | ((with_reducible refine Below.al ?_ ?_); · first | omega | (simp; done) | (simp; omega)) | ((with_reducible refine Below.sc ?_ ?_); · first | omega | (simp; done) | (simp; omega)) | ((with_reducible refine Below.thru hb ?_ ?_); · first | omega | (simp; done) | (simp; omega)))), by simp⟩ ?_
  rintro w0 ⟨B0, O0, k0, s0⟩
  go_loopw [6, 17] (fun v i wr => ∃ k : Nat, k ≤ N ∧ i = .int .i64 k ∧ Own wr (w.heap.size + 1) v (xs.take k) ∧ Blk wr w.heap.size 45 #[.int .i64 p, .map (some mb)] ∧ Below w.heap.size w wr ∧ w.heap.size + 2 ≤ wr.heap.size) (fun _ i _ => N - (intOf i).toNat)
  case atStart => exact ⟨0, Nat.zero_le _, rfl, O0, B0, k0, s0⟩
  case round =>
    clear O0 B0 k0 s0
    obtain ⟨k, hk, rfl, O, Bs, kwr, swr⟩ := hrel
    obtain ⟨vo, vc, rfl⟩ := O.toK.len
    have hlen : (xs.take k).length = k := by rw [List.length_take, HXL.out]; omega
    rw [hlen]
    rw [hlen] at O
    have HLEN := Lib.hid hlen
    clear hlen
    have b0 := Bs.p2
    by_cases hlt : k < N
    · have hlx : k < x.length := by rw [HX.out]; exact hlt
      obtain ⟨a, rfl, hcx⟩ := HXI.out (by omega)
      have cx : wr.cell? (a.add k) = some (.int .i64 x[k]) := by
        have e := hcx k hlx
        rw [kwr.cell (block_lt_of_cell e :)]
        exact e
      have i0 : (0 : Int) ≤ (k : Int) := by omega
      have i1 : (k : Int) < (N : Int) := by omega
      have HTK := Lib.hid (HXG.out k hlx)
      generalize x[k] = xk at *
      have H := Lib.hid (And.intro O (And.intro Bs kwr))
      have hrest := Lib.hid (rest_any xk p)
      clear O Bs kwr hcx hlx
      go_wp2_with fail
      refine (hrest.out _ (by omega) (by omega)).mono ?_
      generalize xk % p = q at *
      rintro e w1 ⟨rfl, hb1⟩
      have O1 := H.out.1.below hb1
      have B1 : Blk w1 w.heap.size 45 #[.int .i64 p, .map (some mb)] := H.out.2.1.below hb1 H.out.2.1.lt
      have k1 : Below w.heap.size w w1 := H.out.2.2.trans (hb1.mono H.out.2.2.size)
      have s1 : w.heap.size + 2 ≤ w1.heap.size := by have := hb1.size; omega
      have H1 := Lib.hid (And.intro O1 (And.intro B1 k1))
      clear hb1 O1 B1 k1 b0 cx H
      obtain ⟨jI, hinf⟩ := HINF.out
      replace hinf := Lib.hid hinf
      have hvl : (xs.take k).length = k := HLEN.out
      go_wp2_with (at_builtin; refine wpList_app encI rfl _ _ 25 2 8 rfl Try.underlying25 jI _ hinf.out.1 hinf.out.2.1 hinf.out.2.2.1 hinf.out.2.2.2 rfl (.slice vo k vc) (xs.take k) (w.heap.size + 1) w1.heap.size 1 #[.int .i64 q] [q] rfl ?o1 rfl ?b1 rfl ?l1 ?l2 (by first | omega | (simp; done) | (simp; omega)) ?_)
      case o1 =>
        have O1 := H1.out.1.toK
        exact (by repeat (first | (with_reducible assumption) | (with_reducible refine Own.drew ?_) | (with_reducible refine Own.drewN ?_) | (with_reducible refine Own.alloc ?_) | (with_reducible refine OwnK.drew ?_) | (with_reducible refine OwnK.drewN ?_) | (with_reducible refine OwnK.alloc ?_) | ((with_reducible refine OwnK.put ?_ ?_); · first | omega | (simp; done) | (simp; omega)) | ((with_reducible refine Own.below hb ?_)) | ((with_reducible refine OwnK.below hb ?_))))
      case b1 => exact Blk.new (by simp)
      case l1 => rw [hvl]; simp only [List.length_cons, List.length_nil]; unfold maxLen; omega
      case l2 => rw [hvl]; simp only [List.length_cons, List.length_nil]; omega
      intro v' w2 O2 hg
      have O1 := H1.out.1
      have B2 : Blk w2 w.heap.size 45 #[.int .i64 p, .map (some mb)] := Blk.grown hg (B2 := w.heap.size + 1) (ys := xs.take k) (by rw [← hvl] at O1 ⊢; exact (by repeat (first | (with_reducible assumption) | (with_reducible refine Own.drew ?_) | (with_reducible refine Own.drewN ?_) | (with_reducible refine Own.alloc ?_) | (with_reducible refine OwnK.drew ?_) | (with_reducible refine OwnK.drewN ?_) | (with_reducible refine OwnK.alloc ?_) | ((with_reducible refine OwnK.put ?_ ?_); · first | omega | (simp; done) | (simp; omega)) | ((with_reducible refine Own.below hb ?_)) | ((with_reducible refine OwnK.below hb ?_))))) (by omega) (Blk.old H1.out.2.1)
      have k2 : Below w.heap.size w w2 := Below.grownO hg (B2 := w.heap.size + 1) (ys := xs.take k) (by rw [← hvl] at O1 ⊢; exact (by repeat (first | (with_reducible assumption) | (with_reducible refine Own.drew ?_) | (with_reducible refine Own.drewN ?_) | (with_reducible refine Own.alloc ?_) | (with_reducible refine OwnK.drew ?_) | (with_reducible refine OwnK.drewN ?_) | (with_reducible refine OwnK.alloc ?_) | ((with_reducible refine OwnK.put ?_ ?_); · first | omega | (simp; done) | (simp; omega)) | ((with_reducible refine Own.below hb ?_)) | ((with_reducible refine OwnK.below hb ?_))))) (by omega) (by simp; omega) (by have kk := H1.out.2.2; exact (by repeat (first | (with_reducible exact Below.refl _ _) | (with_reducible assumption) | (with_reducible refine Below.drew ?_) | (with_reducible refine Below.drewN ?_) | ((with_reducible refine Below.al ?_ ?_); · first | omega | (simp; done) | (simp; omega)) | ((with_reducible refine Below.sc ?_ ?_); · first | omega | (simp; done) | (simp; omega)) | ((with_reducible refine Below.thru hb ?_ ?_); · first | omega | (simp; done) | (simp; omega)))))
      have s2 : w.heap.size + 2 ≤ w2.heap.size := by have := hg.size; simp at this; omega
      have len2 := O2.lenOf
      have O3 : Own w2 (w.heap.size + 1) v' (xs.take (k + 1)) := by
        rw [HTK.out]
        exact OwnK.toOwn O2
      rw [List.length_append, hvl] at len2
      simp only [List.length_cons, List.length_nil] at len2
      have H2 := Lib.hid (And.intro O3 (And.intro B2 k2))
      clear hg O1 O2 O3 B2 k2 H1 hvl
      go_wp2
      go_roundw
      case rel => exact ⟨k + 1, by omega, by go_num, H2.out.1, H2.out.2.1, H2.out.2.2, s2⟩
      case measure => first | (simp [intOf]; done) | (simp [intOf]; omega)
    · obtain rfl : N = k := by omega
      clear hlt HXI HXG
      have HTK := Lib.hid (show xs.take N = xs from List.take_of_length_le (by rw [HXL.out]; exact Nat.le_refl _))
      rw [HTK.out] at O
      go_wp2_with fail
      go_loopw [31] (fun i wr => ∃ (k : Nat) (ys : List Int), k ≤ N ∧ i = .int .i64 k ∧ Hid (LeftS p N T x ys k) ∧ Own wr (w.heap.size + 1) (.slice vo N vc) ys ∧ Blk wr w.heap.size 45 #[.int .i64 p, .map (some mb)] ∧ Below w.heap.size w wr ∧ w.heap.size + 2 ≤ wr.heap.size) (fun i _ => N - (intOf i).toNat)
      case atStart => exact ⟨0, xs, Nat.zero_le _, rfl, HST, O, Bs, kwr, swr⟩
      case round =>
        clear O Bs kwr swr
        obtain ⟨k, ys, hk, rfl, hL, O, Bs, kwr, swr⟩ := hrel
        have b0 := Bs.p2
        have HYL := Lib.hid hL.out.good.1
        by_cases hlt : k < N
        · rcases O.toK.form with ⟨h1, h2⟩ | ⟨gx, cx, h1, hgx, hgx2, -⟩
          · have := HYL.out
            rw [h2] at this
            simp at this
            omega
          rw [HYL.out] at h1
          cases h1
          have cX := O.rd HYL.out hlt
          have hRk : RowsAt wr B S T := HR.out.same fun g _ hg => kwr.block g hg
          have hMk : MapB wr mb n S := MapB.below kwr HM.out
          obtain ⟨rv, ok, hl, hr1, hr0⟩ := HR.out.look k
          have hdS : (S.map Prod.fst).Nodup := by rw [hRk.keys]; exact HD.out
          have HMk := Lib.hid (And.intro hl (And.intro hdS hMk))
          have HR1 := Lib.hid hr1
          have HR0 := Lib.hid hr0
          have i0 : (0 : Int) ≤ (k : Int) := by omega
          have i1 : (k : Int) < (N : Int) := by omega
          have HV := Lib.hid (show vec ys k = vec ys k from rfl)
          obtain ⟨c, hc⟩ : ∃ c, vec ys k = c := ⟨_, rfl⟩
          have HC := Lib.hid hc
          rw [hc] at cX
          have H := Lib.hid (And.intro O (And.intro Bs kwr))
          clear hRk hMk hl hr1 hr0 hdS HV hc O Bs kwr
          by_cases h0 : c = 0
          · subst h0
            go_wp2_with (at_lookup; refine wpList_look _ rfl _ _ rfl S mb n k rv ok HMk.out.1 HMk.out.2.1 rfl HMk.out.2.2 rfl (by omega) ?_)
            go_roundw
            case rel => exact ⟨k + 1, ys, by omega, by go_num, Lib.hid (hL.out.next HC.out), H.out.1, H.out.2.1, H.out.2.2, swr⟩
            case measure => first | (simp [intOf]; done) | (simp [intOf]; omega)
          · cases ok with
            | false =>
              have HZ := Lib.hid h0
              go_wp2_with (first | (at_lookup; refine wpList_look _ rfl _ _ rfl S mb n k rv false HMk.out.1 HMk.out.2.1 rfl HMk.out.2.2 rfl (by omega) ?_) | fail)
              rw [← HGF.out]
              exact ⟨_, ys, _, rfl, H.out.1.mono (by omega), hL.out.stop hlt (by rw [HC.out]; exact HZ.out) (HR0.out (by first | rfl | trivial)), H.out.2.2⟩
            | true =>
              have e0 : (c == (0 : Int)) = false := by simpa using h0
              obtain ⟨r, ht, hOr⟩ := HR1.out (by first | rfl | trivial)
              have hg := HG.out _ ht
              have HRL := Lib.hid (show r.length = N from hg.good.1)
              rcases hOr.toK.form with ⟨h1, h2⟩ | ⟨gr, cr, h1, hgr, hgr2, -⟩
              · have := HRL.out
                rw [h2] at this
                simp at this
                omega
              rw [HRL.out] at h1
              subst h1
              have HOR := Lib.hid hOr
              have HGR := Lib.hid hg
              have HT := Lib.hid ht
              have nbx : gr ≠ gx := by omega
              clear hOr hg ht HR1 HR0
              go_wp2_with (first | (at_lookup; refine wpList_look _ rfl _ _ rfl S mb n k (.slice (some ⟨gr, 0, none⟩) N cr) true HMk.out.1 HMk.out.2.1 rfl HMk.out.2.2 rfl (by omega) ?_) | fail)
              go_loopw [56] (fun i wr => ∃ (j : Nat) (zs : List Int), j ≤ N ∧ i = .int .i64 j ∧ Hid (Mid p N ys r c j zs) ∧ Own wr (w.heap.size + 1) (.slice (some ⟨gx, 0, none⟩) N vc) zs ∧ Blk wr w.heap.size 45 #[.int .i64 p, .map (some mb)] ∧ Below w.heap.size w wr ∧ w.heap.size + 2 ≤ wr.heap.size) (fun i _ => N - (intOf i).toNat)
              case atStart => exact ⟨0, ys, Nat.zero_le _, rfl, Lib.hid (Mid.start hL.out.good), H.out.1, H.out.2.1, H.out.2.2, swr⟩
              case round =>
                clear H swr
                obtain ⟨j, zs, hj, rfl, hM2, O, Bs, kwr, swr⟩ := hrel
                have b0 := Bs.p2
                have HZL := Lib.hid hM2.out.good.1
                by_cases hjt : j < N
                · have cX := O.rd HZL.out hjt
                  have cR := Own.rd (HOR.out.same (w' := wr) fun g hg => kwr.block g (HOR.out.lt hg).2) HRL.out hjt
                  have fX := O.free HZL.out j
                  have HST2 := Lib.hid (hM2.out.step HP.out hjt)
                  have gz := hM2.out.good.2 j hjt
                  have hgr3 := HGR.out.good.2 j hjt
                  have gc := hL.out.good.2 k hlt
                  rw [HC.out] at gc
                  obtain ⟨zj, hzj⟩ : ∃ zj, vec zs j = zj := ⟨_, rfl⟩
                  obtain ⟨rj, hrj⟩ : ∃ rj, vec r j = rj := ⟨_, rfl⟩
                  rw [hzj] at cX gz HST2
                  rw [hrj] at cR hgr3 HST2
                  have hm := mulP_bd (p := p) (by omega) gc hgr3
                  have e1 : IntKind.i64.wrap (c * rj) = c * rj := by rw [IntKind.wrap_i64]; omega
                  have e2 : IntKind.i64.wrap (zj - IntKind.i64.wrap (c * rj)) = zj - c * rj := by rw [e1, IntKind.wrap_i64]; omega
                  have HE2 := Lib.hid e2
                  have HRE := Lib.hid (fun w' => rest_same (zj - c * rj) p w' (by omega) (by omega))
                  have lX := block_lt_of_cell cX
                  have lR := block_lt_of_cell cR
                  have i2 : (0 : Int) ≤ (j : Int) := by omega
                  have i3 : (j : Int) < (N : Int) := by omega
                  have b1 := b0.1
                  have H := Lib.hid (And.intro O (And.intro Bs kwr))
                  clear hzj hrj hm e1 e2 O Bs kwr
                  generalize (zj - c * rj) % p = res at *
                  go_wp2_with fail
                  go_region_with (first | (go_at_call 54; rw [HE2.out]; refine (HRE.out _).mono ?_; rintro e w2 ⟨rfl, rfl⟩))
                  all_goals
                    have O2 := H.out.1.set (j := j) (x := res) HZL.out
                    have Bs2 : Blk (wr.setCell ⟨gx, j, none⟩ (.int .i64 res)) w.heap.size 45 #[.int .i64 p, .map (some mb)] := Blk.put (by omega) H.out.2.1
                    have kwr := H.out.2.2
                    have kw2 : Below w.heap.size w (wr.setCell ⟨gx, j, none⟩ (.int .i64 res)) := (by repeat (first | (with_reducible exact Below.refl _ _) | (with_reducible assumption) | (with_reducible refine Below.drew ?_) | (with_reducible refine Below.drewN ?_) | ((with_reducible refine Below.al ?_ ?_); · first | omega | (simp; done) | (simp; omega)) | ((with_reducible refine Below.sc ?_ ?_); · first | omega | (simp; done) | (simp; omega)) | ((with_reducible refine Below.thru hb ?_ ?_); · first | omega | (simp; done) | (simp; omega))))
                    have H2 := Lib.hid (And.intro O2 (And.intro Bs2 kw2))
                    clear O2 Bs2 kw2 kwr H b0 b1 cX cR fX
                    go_wp2
                    go_roundw
                    case rel => exact ⟨j + 1, zs.set j res, by omega, by go_num, HST2, (by have O := H2.out.1; exact (by repeat (first | (with_reducible assumption) | (with_reducible refine Own.drew ?_) | (with_reducible refine Own.drewN ?_) | (with_reducible refine Own.alloc ?_) | (with_reducible refine OwnK.drew ?_) | (with_reducible refine OwnK.drewN ?_) | (with_reducible refine OwnK.alloc ?_) | ((with_reducible refine OwnK.put ?_ ?_); · first | omega | (simp; done) | (simp; omega)) | ((with_reducible refine Own.below hb ?_)) | ((with_reducible refine OwnK.below hb ?_))))), (by have O := H2.out.2.1; exact (by repeat (first | (with_reducible assumption) | ((with_reducible refine Blk.new ?_); · first | omega | (simp; done) | (simp; omega)) | (with_reducible apply Blk.set4) | (with_reducible apply Blk.set3) | (with_reducible apply Blk.set2) | ((with_reducible refine Blk.put ?_ ?_); · first | omega | (simp; omega)) | (with_reducible refine Blk.old ?_) | (with_reducible refine Blk.drew ?_) | (with_reducible refine Blk.drewN ?_) | ((with_reducible refine Blk.below hb ?_ ?_); · first | omega | (simp; done) | (simp; omega))))), (by have O := H2.out.2.2; exact (by repeat (first | (with_reducible exact Below.refl _ _) | (with_reducible assumption) | (with_reducible refine Below.drew ?_) | (with_reducible refine Below.drewN ?_) | ((with_reducible refine Below.al ?_ ?_); · first | omega | (simp; done) | (simp; omega)) | ((with_reducible refine Below.sc ?_ ?_); · first | omega | (simp; done) | (simp; omega)) | ((with_reducible refine Below.thru hb ?_ ?_); · first | omega | (simp; done) | (simp; omega))))), (by simp; omega)⟩
                    case measure => first | (simp [intOf]; done) | (simp [intOf]; omega)
                · obtain rfl : N = j := by omega
                  have HNX := Lib.hid (hL.out.row HT.out HGR.out (by rw [HC.out]; exact hM2.out))
                  have H := Lib.hid (And.intro O (And.intro Bs kwr))
                  clear O Bs kwr
                  go_wp2
                  go_roundw
                  case rel => exact ⟨k + 1, zs, by omega, by go_num, HNX, H.out.1, H.out.2.1, H.out.2.2, swr⟩
                  case measure => first | (simp [intOf]; done) | (simp [intOf]; omega)
        · obtain rfl : N = k := by omega
          have H := Lib.hid (And.intro O (And.intro Bs kwr))
          clear O Bs kwr
          go_wp2
          rw [← HGF.out]
          exact ⟨_, ys, _, rfl, H.out.1.mono (by omega), hL.out.done, H.out.2.2⟩

end Go.Proofs.Ytjjbaebddkejnaa

/- The program's basis.put. -/
namespace Go.Proofs.Ytjjbaebddkejnaa
open Go.RowKit Go.Maps
set_option linter.unusedSimpArgs false

theorem ivZ_15 {q a : Nat} (hq : 5 ≤ q ∧ q ≤ 10007) : (ivN q 15 a 1 (q - 2) : Int) = ivZ q a := by
  have h : ∀ f a out k, k < 2 ^ f → ivN q (f + 1) a out k = ivN q f a out k := by
    intro f
    induction f with
    | zero => intro a out k hk; have : k = 0 := by omega
              subst this; rw [ivN_succ, if_pos rfl]; rfl
    | succ f ih =>
      intro a out k hk
      rw [ivN_succ q (f + 1) a out k, ih _ _ _ (by rw [Nat.pow_succ] at hk; omega)]
      exact (ivN_succ q f a out k).symm
  rw [h 14 a 1 (q - 2) (by show q - 2 < 16384; omega)]
  simp only [ivZ, Int.toNat_natCast]
theorem inverse_any (p a : Int) (w : World) (hp : PrimeP p) (ha : 0 ≤ a ∧ a < p) :
    Calls Try.prog 71 #[.int .i64 a, .int .i64 p] w fun e w' => e = .returned (.int .i64 (ivZ p a)) ∧ Below w.heap.size w w' := by
  have hb := hp.bd
  obtain ⟨b, rfl⟩ := Int.eq_ofNat_of_zero_le ha.1
  obtain ⟨q, rfl⟩ := Int.eq_ofNat_of_zero_le (by omega : 0 ≤ p)
  rw [← ivZ_15 (by omega)]
  exact inverseOf_any q b w (by omega) (by omega) _ rfl

theorem Own.ne_map {w : World} {B mb n : Nat} {v : Value} {xs : List Int} {S : List (Nat × Value)} (h : Own w B v xs) (hM : MapB w mb n S) : v.ownBlock ≠ some mb := by
  intro e
  obtain ⟨es, c, h1, -⟩ := hM
  rcases h.2 with ⟨h', _⟩ | ⟨g', cap', cur, h', _, hg, _⟩
  · rw [h'] at e
    cases e
  · rw [h'] at e
    simp only [Value.ownBlock, Option.some.injEq] at e
    subst e
    rw [h1] at hg
    simp at hg
theorem RowsAt.grown {w w' : World} {B mb n : Nat} {S S' : List (Nat × Value)} {T : List (Nat × List Int)} (h : RowsAt w B S T) (hM : MapB w mb n S') (hs : ∀ g, B ≤ g → g < w.heap.size → g ≠ mb → w'.heap[g]? = w.heap[g]?) : RowsAt w' B S T := by
  induction S generalizing T with
  | nil => cases T with
    | nil => trivial
    | cons t T => exact h.elim
  | cons s S ih => cases T with
    | nil => exact h.elim
    | cons t T => exact ⟨h.1, h.2.1.same fun g hg => hs g (h.2.1.lt hg).1 (h.2.1.lt hg).2 (fun e => h.2.1.ne_map hM (e ▸ hg)), ih h.2.2⟩

/-- The rows are multiplied by c, up to place k. -/
structure Nrm (p : Int) (N : Nat) (ys : List Int) (c : Int) (k : Nat) (zs : List Int) : Prop where
  good : GoodV p N zs
  lo : ∀ j, j < k → vec zs j = vec ys j * c % p
  hi : ∀ j, k ≤ j → vec zs j = vec ys j
theorem Nrm.start {p : Int} {N : Nat} {ys : List Int} {c : Int} (h : GoodV p N ys) : Nrm p N ys c 0 ys := ⟨h, fun j hj => absurd hj (by omega), fun _ _ => rfl⟩
theorem Nrm.step {p : Int} {N : Nat} {ys zs : List Int} {c : Int} {k : Nat} (hp : PrimeP p) (h : Nrm p N ys c k zs) (hk : k < N) : Nrm p N ys c (k + 1) (zs.set k (vec zs k * c % p)) := by
  have hb := hp.bd
  have hl := h.good.1
  refine ⟨h.good.set k (mod_bd _ (by omega)), fun j hj => ?_, fun j hj => ?_⟩
  · rw [vec_set _ _ _ _ (by omega)]
    by_cases e : j = k
    · subst e
      rw [if_pos rfl, h.hi j (Nat.le_refl _)]
    · rw [if_neg e]
      exact h.lo j (by omega)
  · rw [vec_set _ _ _ _ (by omega), if_neg (by omega)]
    exact h.hi j (by omega)
/-- What is left of a row, with a 1 where it begins, is put to the others. -/
theorem Nrm.put {p : Int} {N : Nat} {rows : List (List Int)} {T : List (Nat × List Int)} {x ys zs : List Int} {i : Nat} (hp : PrimeP p) (h : Red p N rows T) (hg : GoodV p N ys) (hs : Sp p N (In (T.map vr)) fun k => vec x k - vec ys k) (hi : i < N) (hn : vec ys i ≠ 0) (hz : ∀ j, j < i → vec ys j = 0) (ht : i ∉ T.map Prod.fst) (hm : Nrm p N ys (ivZ p (vec ys i)) N zs) : Red p N (rows ++ [x]) ((i, zs) :: T) := by
  have hb := hp.bd
  have hi2 := hg.2 i hi
  have hc := ivZ_ok hp (a := vec ys i) (by omega) hi2.2
  refine h.put (U := (i, zs) :: T) (c := ivZ p (vec ys i)) (fun a => List.mem_cons) ?_ ⟨hm.good, hi, ?_, fun k hk => ?_⟩ hs (fun k hk => ?_) hc
  · rw [List.map_cons]
    exact List.nodup_cons.2 ⟨ht, h.dif⟩
  · show vec zs i = 1
    rw [hm.lo i hi]
    obtain ⟨u, hu⟩ := hc
    rw [show vec ys i * ivZ p (vec ys i) = 1 + p * u by grind, Int.add_mul_emod_self_left]
    exact Int.emod_eq_of_lt (by decide) (by omega)
  · show vec zs k = 0
    have hk2 : k < i := hk
    rw [hm.lo k (by omega), hz k hk2]
    simp
  · rw [hm.lo k hk]
    obtain ⟨u, hu⟩ := mod_dvd (vec ys k * ivZ p (vec ys i)) p
    exact ⟨u, by grind⟩

/-- The rows of a basis in a world. -/
structure BasW (p : Int) (N : Nat) (rows : List (List Int)) (w : World) (B mb n : Nat) (S : List (Nat × Value)) (T : List (Nat × List Int)) : Prop where
  map : MapB w mb n S
  at_ : RowsAt w B S T
  red : Red p N rows T
def GivesPut (p : Int) (N : Nat) (rows : List (List Int)) (B mb n : Nat) (w : World) : Ending → World → Prop := fun e w' =>
  e = .returned (.tuple #[]) ∧ (∃ S T, BasW p N rows w' B mb n S T) ∧ Below B w w' ∧ ∀ k, k < w.heap.size → k ≠ mb → w'.heap[k]? = w.heap[k]?

set_option maxRecDepth 8000 in
set_option maxHeartbeats 2000000 in
theorem put_any (p : Int) (N : Nat) (w : World) (rows : List (List Int)) (S : List (Nat × Value)) (T : List (Nat × List Int)) (x : List Int) (xv : Value) (mb n B : Nat) (hp : PrimeP p) (hN : N ≤ 1000) (hx : x.length = N) (hi : SlIn w .i64 xv x) (hB : BasW p N rows w B mb n S T) (hBm : B ≤ mb) (hn : n ≤ 1000) :
    Calls Try.prog 48 #[.agg #[.int .i64 p, .map (some mb)], xv] w (GivesPut p N (rows ++ [x]) B mb (n + 1) w) := by
  obtain ⟨GF, hGF⟩ : ∃ GF, GivesPut p N (rows ++ [x]) B mb (n + 1) w = GF := ⟨_, rfl⟩
  rw [hGF]
  have HGF := Lib.hid hGF
  have HP := Lib.hid hp
  have HI := Lib.hid hi
  have HB := Lib.hid hB
  have hb := hp.bd
  have lmb : mb < w.heap.size := by obtain ⟨es, c, h1, -⟩ := hB.map; exact lt_of_block h1
  have HL := Lib.hid (fun (w' : World) (hi : SlIn w' .i64 xv x) (hM : MapB w' mb n S) (hR : RowsAt w' B S T) => left_any p N S T x xv mb n B w' hp hN hx hi hM hR hB.red.dif hB.red.good)
  clear hGF hp hx hi hB
  go_enter Try.func48, Try.ntmps48
  go_wp2_with fail
  refine (HL.out _ (SlIn.alloc HI.out) (HB.out.map.below ((Below.refl _ _).alloc (Nat.le_refl _) _)) (HB.out.at_.below ((Below.refl _ _).alloc (Nat.le_refl _) _))).mono ?_
  rintro e w1 ⟨v, ys, r, rfl, O1, hl, k1⟩
  have B1 : Blk w1 w.heap.size 45 #[.int .i64 p, .map (some mb)] := Blk.below k1 (by simp) (Blk.new rfl)
  have kw1 : Below w.heap.size w w1 := ((Below.refl w.heap.size w).alloc (Nat.le_refl _) _).trans (k1.mono (by simp))
  have s1 : w.heap.size + 1 ≤ w1.heap.size := by have := k1.size; simpa using this
  have O2 : Own w1 (w.heap.size + 1) v ys := O1.mono (by simp)
  have HRI := Lib.hid (LeftR.iff HB.out.red hl)
  obtain ⟨hg, hs, hc⟩ := hl
  have HY := Lib.hid hg
  have HS := Lib.hid hs
  have H := Lib.hid (And.intro O2 (And.intro B1 kw1))
  clear k1 O1 O2 kw1 B1 hg hs HL
  rcases hc with ⟨rfl, hz⟩ | ⟨i, rfl, hi, hn0, hz, ht⟩
  · clear hz
    go_wp2
    go_end0
    rw [← HGF.out]
    exact ⟨rfl, ⟨S, T, ⟨(HB.out.map.below H.out.2.2).mono (Nat.le_succ _), HB.out.at_.below H.out.2.2, HB.out.red.skip (HRI.out.1 (by decide))⟩⟩, H.out.2.2.mono (by omega), fun k hk _ => H.out.2.2.block k hk⟩
  · clear HRI
    have HYL := Lib.hid HY.out.1
    rcases H.out.1.toK.form with ⟨h1, h2⟩ | ⟨gx, cx, h1, hgx, hgx2, -⟩
    · have := HYL.out
      rw [h2] at this
      simp at this
      omega
    rw [HYL.out] at h1
    subst h1
    have cX := H.out.1.rd HYL.out hi
    have hyi := HY.out.2 i hi
    have HA := Lib.hid (fun w' => inverse_any p (vec ys i) w' HP.out hyi)
    have HNP := Lib.hid (fun (zs : List Int) (hm : Nrm p N ys (ivZ p (vec ys i)) N zs) => hm.put HP.out HB.out.red HY.out HS.out hi hn0 hz ht)
    have HST := Lib.hid (show Nrm p N ys (ivZ p (vec ys i)) 0 ys from Nrm.start HY.out)
    have hivb := ivZ_bd (a := vec ys i) HP.out
    have HNS := Lib.hid (fun k zs (h : Nrm p N ys (ivZ p (vec ys i)) k zs) (hk : k < N) => h.step HP.out hk)
    have b0 := H.out.2.1.p2
    have b1 := b0.1
    have i0 : (0 : Int) ≤ (i : Int) := by omega
    have i1 : (i : Int) < (N : Int) := by omega
    have HT := Lib.hid ht
    clear hn0 hz ht b0
    generalize ivZ p (vec ys i) = c at *
    generalize vec ys i = yi at *
    have lX := block_lt_of_cell cX
    have lB := block_lt_of_cell b1
    go_wp2_with fail
    go_cut [6] (fun s wx => s = .int .i64 c ∧ Below w1.heap.size w1 wx)
    case first =>
      go_region_held3 (fun w' => w'.cell? ⟨gx, i, none⟩ = some (.int .i64 yi) ∧ w'.cell? ⟨w.heap.size, 0, none⟩ = some (.int .i64 p)) (first | go_keep | exact ⟨d1, d2⟩) (first | (go_at_call 71; refine (HA.out _).mono ?_; rintro e w2 ⟨rfl, hb2⟩; have d1 : w2.cell? ⟨gx, i, none⟩ = some (.int .i64 yi) := (hb2.cell (p := ⟨gx, i, none⟩) lX).trans cX; have d2 : w2.cell? ⟨w.heap.size, 0, none⟩ = some (.int .i64 p) := (hb2.cell (p := ⟨w.heap.size, 0, none⟩) lB).trans b1))
      all_goals go_wp2_with fail
      all_goals go_meet
      all_goals exact ⟨rfl, by have hb := hb2; exact (by repeat (first | (with_reducible exact Below.refl _ _) | (with_reducible assumption) | (with_reducible refine Below.drew ?_) | (with_reducible refine Below.drewN ?_) | ((with_reducible refine Below.al ?_ ?_); · first | omega | (simp; done) | (simp; omega)) | ((with_reducible refine Below.sc ?_ ?_); · first | omega | (simp; done) | (simp; omega)) | ((with_reducible refine Below.thru hb ?_ ?_); · first | omega | (simp; done) | (simp; omega))))⟩
    case rest =>
      obtain ⟨rfl, hb⟩ := hcut
      have O0 := H.out.1.below hb
      have B0 : Blk wc w.heap.size 45 #[.int .i64 p, .map (some mb)] := H.out.2.1.below hb H.out.2.1.lt
      have k0 : Below w.heap.size w wc := H.out.2.2.trans (hb.mono H.out.2.2.size)
      have s0 : w.heap.size + 1 ≤ wc.heap.size := by have := hb.size; omega
      clear hb H cX b1 lX lB hgx2
      go_wp2_with fail
      go_loopw [26] (fun i wr => ∃ (k : Nat) (zs : List Int), k ≤ N ∧ i = .int .i64 k ∧ Hid (Nrm p N ys c k zs) ∧ Own wr (w.heap.size + 1) (.slice (some ⟨gx, 0, none⟩) N cx) zs ∧ Blk wr w.heap.size 45 #[.int .i64 p, .map (some mb)] ∧ Below w.heap.size w wr ∧ w.heap.size + 1 ≤ wr.heap.size) (fun i _ => N - (intOf i).toNat)
      case atStart => exact ⟨0, ys, Nat.zero_le _, rfl, HST, O0, B0, k0, s0⟩
      case round =>
        clear O0 B0 k0 s0
        obtain ⟨k, zs, hk, rfl, hM, O, Bs, kwr, swr⟩ := hrel
        have b0 := Bs.p2
        have HZL := Lib.hid hM.out.good.1
        by_cases hlt : k < N
        · have cX := O.rd HZL.out hlt
          have fX := O.free HZL.out k
          have HST2 := Lib.hid (HNS.out k zs hM.out hlt)
          have gz := hM.out.good.2 k hlt
          generalize vec zs k = zk at *
          have hm := mulP_bd (p := p) (by omega) gz hivb
          have e1 : IntKind.i64.wrap (zk * c) = zk * c := by rw [IntKind.wrap_i64]; omega
          have e2 : Int.tmod (zk * c) p = zk * c % p := Int.tmod_eq_emod_of_nonneg hm.1
          have hmm := mod_bd (zk * c) (p := p) (by omega)
          generalize zk * c % p = res at *
          have i2 : (0 : Int) ≤ (k : Int) := by omega
          have i3 : (k : Int) < (N : Int) := by omega
          have b1 := b0.1
          have lX := block_lt_of_cell cX
          have O2 := O.set (j := k) (x := res) HZL.out
          have H := Lib.hid (And.intro O2 (And.intro Bs kwr))
          clear O Bs kwr b0 O2
          go_wp2
          refine ⟨⟨k + 1, zs.set k res, by omega, by go_num, HST2, H.out.1, Blk.put (by omega) H.out.2.1, (by have kk := H.out.2.2; exact (by repeat (first | (with_reducible exact Below.refl _ _) | (with_reducible assumption) | (with_reducible refine Below.drew ?_) | (with_reducible refine Below.drewN ?_) | ((with_reducible refine Below.al ?_ ?_); · first | omega | (simp; done) | (simp; omega)) | ((with_reducible refine Below.sc ?_ ?_); · first | omega | (simp; done) | (simp; omega)) | ((with_reducible refine Below.thru hb ?_ ?_); · first | omega | (simp; done) | (simp; omega))))), by simp; omega⟩, ?_⟩
          first | (simp [intOf]; done) | (simp [intOf]; omega)
        · obtain rfl : N = k := by omega
          have HNW := Lib.hid (HNP.out zs hM.out)
          have hMw := HB.out.map.below kwr
          have hkey : keyOf Try.prog 3 (.int .i64 (i : Int)) = some (.int .i64 (i : Int)) := keyOf_int_mk Try.underlying3 (by simp [Lit.wf, IntKind.min, IntKind.max, IntKind.bits, IntKind.signed]; omega)
          have H := Lib.hid (And.intro O (And.intro Bs (And.intro kwr hMw)))
          clear O Bs kwr hMw hi
          go_wp2_with (first | (at_mapUpdate; refine wpList_mapUpdate_own _ rfl _ _ _ 43 rfl 3 25 law3 Try.underlying43 heldR mb n (mapD S) rfl H.out.2.2.2 (by unfold maxLen; omega) _ _ (.int .i64 (i : Int)) rfl rfl hkey (.held (.slice (some ⟨gx, 0, none⟩) N cx)) [] rfl ?_; intro w3 hM3 hg3) | fail)
          go_end0
          rw [← HGF.out]
          have hO3 : Own w3 B (.slice (some ⟨gx, 0, none⟩) N cx) zs := (H.out.1.grown hg3 (H.out.1.ne_map H.out.2.2.2)).mono (by omega)
          have hR3 : RowsAt w3 B S T := RowsAt.grown (HB.out.at_.below H.out.2.2.1) H.out.2.2.2 fun g _ hg hne => hg3.block g hg (fun e => hne (Option.some.inj e))
          refine ⟨rfl, ⟨(i, .slice (some ⟨gx, 0, none⟩) N cx) :: S, (i, zs) :: T, ⟨hM3, ⟨rfl, hO3, hR3⟩, HNW.out⟩⟩, (H.out.2.2.1.mono (by omega)).grown hg3 (by omega) (fun j hj => by cases hj; exact hBm), fun k hk hne => ?_⟩
          rw [hg3.block k (by omega) (fun e => hne (Option.some.inj e))]
          exact H.out.2.2.1.block k hk

end Go.Proofs.Ytjjbaebddkejnaa
