/- All cycles of an action: both walks. -/
import Derived.Test.YtamkbgodenkboaaSS
namespace Go.Proofs.Ytamkbgodenkboaa
open Go.RowKit

/-- What the cycles give. -/
def GivesSS (css : List (List Nat)) (w : World) (e : Ending) (w' : World) : Prop := ∃ v vs, e = .returned v ∧ OwnK encV 22 w' w.heap.size v vs ∧ RowS w' w.heap.size vs css ∧ Below w.heap.size w w'

set_option maxRecDepth 8000 in
set_option maxHeartbeats 1500000 in
theorem cycles_any (s t : Value) (S T : List Int) (n : Nat) (w : World) (h : SlIn w .i64 s S ∧ SlIn w .i64 t T) (hT : permB T n) (h0 : 1 ≤ n) (hn : n ≤ 72) :
    Calls Try.prog 82 #[.agg #[s, t]] w (GivesSS (cysL (fn T) n n) w) := by
  obtain ⟨ao, sc, rfl, -⟩ := h.1.form
  obtain ⟨ta, tc, rfl, -⟩ := perm_open h.2 hT (by omega)
  have HI := Lib.hid h
  have HG := Lib.hid (show ∀ a, a < n → fn T a < n from fun a h => fn_lt hT h)
  have HJ := Lib.hid (perm_inj hT)
  have HPT := Lib.hid hT
  have HINF := Lib.hid (info_parts infoSl)
  clear h hT
  go_enter Try.func82, Try.ntmps82
  go_wp2_with fail
  refine forget (fun W_ => Below w.heap.size w W_ ∧ Blk W_ (w.heap.size) 27 (#[.slice ao S.length sc, .slice (some ta) n tc]) ∧ Blk W_ (w.heap.size + 1) 22 (#[])) ⟨(by repeat (first | (with_reducible exact Below.refl _ _) | (with_reducible assumption) | (with_reducible refine Below.drew ?_) | (with_reducible refine Below.drewN ?_) | ((with_reducible refine Below.al ?_ ?_); · first | omega | (simp; done) | (simp; omega)) | ((with_reducible refine Below.sc ?_ ?_); · first | omega | (simp; done) | (simp; omega)) | ((with_reducible refine Below.thru hb ?_ ?_); · first | omega | (simp; done) | (simp; omega)))), (by repeat (first | (with_reducible assumption) | ((with_reducible refine Blk.new ?_); · first | omega | (simp; done) | (simp; omega)) | (with_reducible apply Blk.set4) | (with_reducible apply Blk.set3) | (with_reducible apply Blk.set2) | ((with_reducible refine Blk.put ?_ ?_); · first | omega | (simp; omega)) | (with_reducible refine Blk.old ?_) | (with_reducible refine Blk.drew ?_) | (with_reducible refine Blk.drewN ?_) | ((with_reducible refine Blk.below hb ?_ ?_); · first | omega | (simp; done) | (simp; omega)))), (by repeat (first | (with_reducible assumption) | ((with_reducible refine Blk.new ?_); · first | omega | (simp; done) | (simp; omega)) | (with_reducible apply Blk.set4) | (with_reducible apply Blk.set3) | (with_reducible apply Blk.set2) | ((with_reducible refine Blk.put ?_ ?_); · first | omega | (simp; omega)) | (with_reducible refine Blk.old ?_) | (with_reducible refine Blk.drew ?_) | (with_reducible refine Blk.drewN ?_) | ((with_reducible refine Blk.below hb ?_ ?_); · first | omega | (simp; done) | (simp; omega))))⟩ ?_
  rintro w1 ⟨kw1, B0, N1⟩
  have sw1 := kw1.size
  have lB0 := B0.lt
  have lN1 := N1.lt
  have O1 : OwnK encV 22 w1 (w.heap.size + 1) (.slice (some ⟨w.heap.size + 1, 0, none⟩) 0 0) [] := OwnK.of_blk (xs := []) N1 (by omega) rfl (by simp [maxLen])
  clear N1
  have b0 := B0.p2
  go_wp2
  go_loopw [3, 10] (fun v kk wr => ∃ (k : Nat) (vs : List Sl), k ≤ n ∧ kk = .int .i64 k ∧ OwnK encV 22 wr (w.heap.size + 1) v vs ∧ RowS wr (w.heap.size + 1) vs (cysL (fn T) n k) ∧ Blk wr w.heap.size 27 #[.slice ao S.length sc, .slice (some ta) n tc] ∧ Below w.heap.size w wr) (fun _ kk _ => n - (intOf kk).toNat)
  case atStart => exact ⟨0, [], Nat.zero_le _, rfl, O1, trivial, B0, kw1⟩
  case round =>
    clear O1 B0 kw1 sw1 b0
    obtain ⟨k, vs, hk, rfl, O, R, B0, kwr⟩ := hrel
    have hcl : vs.length ≤ k := by have h1 := R.len; have h2 := cysL_len (fn T) n k; omega
    by_cases hlt : k < n
    · have HX := Lib.hid (show cysL (fn T) n (k + 1) = if isMin (fn T) k n then cysL (fn T) n k ++ [cyL (fn T) k n] else cysL (fn T) n k from rfl)
      have HMC := Lib.hid (min_cyc HG.out HJ.out hlt)
      have hpo := (per_spec HG.out HJ.out hlt).one
      have hpl := per_le HG.out HJ.out hlt
      have HCY := Lib.hid (show (cyL (fn T) k n).length = per (fn T) k n from cyK_len _ _ _)
      have b0 := B0.p2
      have swr := kwr.size
      have lB0 := B0.lt
      have H := Lib.hid (And.intro O (And.intro R (And.intro B0 kwr)))
      clear O R B0 kwr
      go_wp2_with fail
      refine (cycleOf_any _ _ S T n k _ (SlIn2.below HI.out H.out.2.2.2) HPT.out hlt hn).mono ?_
      rintro e w2 ⟨cv, rfl, OC, hb⟩
      obtain ⟨co, cc, rfl, -⟩ := nats_open OC.slIn
      have sz2 := hb.size
      have O2 := H.out.1.below hb
      have R2 := H.out.2.1.below hb
      have B2 : Blk w2 w.heap.size 27 #[.slice ao S.length sc, .slice (some ta) n tc] := by have B0 := H.out.2.2.1; exact (by repeat (first | (with_reducible assumption) | ((with_reducible refine Blk.new ?_); · first | omega | (simp; done) | (simp; omega)) | (with_reducible apply Blk.set4) | (with_reducible apply Blk.set3) | (with_reducible apply Blk.set2) | ((with_reducible refine Blk.put ?_ ?_); · first | omega | (simp; omega)) | (with_reducible refine Blk.old ?_) | (with_reducible refine Blk.drew ?_) | (with_reducible refine Blk.drewN ?_) | ((with_reducible refine Blk.below hb ?_ ?_); · first | omega | (simp; done) | (simp; omega))))
      have kw2 : Below w.heap.size w w2 := by have kk := H.out.2.2.2; exact (by repeat (first | (with_reducible exact Below.refl _ _) | (with_reducible assumption) | (with_reducible refine Below.drew ?_) | (with_reducible refine Below.drewN ?_) | ((with_reducible refine Below.al ?_ ?_); · first | omega | (simp; done) | (simp; omega)) | ((with_reducible refine Below.sc ?_ ?_); · first | omega | (simp; done) | (simp; omega)) | ((with_reducible refine Below.thru hb ?_ ?_); · first | omega | (simp; done) | (simp; omega))))
      have hrows := Lib.hid (H.out.2.1.lt)
      have H2 := Lib.hid (And.intro O2 (And.intro R2 (And.intro B2 (And.intro kw2 OC))))
      clear O2 R2 B2 kw2 OC hb H b0
      go_wp2_with fail
      refine (sliceMin_any _ ((cyL (fn T) k n).map Int.ofNat) _ H2.out.2.2.2.2.slIn (by rw [List.length_map, HCY.out]; omega) (by rw [List.length_map, HCY.out]; omega)).mono ?_
      rintro e w3 ⟨rfl, hb⟩
      have sz3 := hb.size
      have sw2 := H2.out.2.2.2.1.size
      have lB2 := H2.out.2.2.1.lt
      have O3 := H2.out.1.below hb
      have R3 := H2.out.2.1.below hb
      have B3 : Blk w3 w.heap.size 27 #[.slice ao S.length sc, .slice (some ta) n tc] := by have B0 := H2.out.2.2.1; exact (by repeat (first | (with_reducible assumption) | ((with_reducible refine Blk.new ?_); · first | omega | (simp; done) | (simp; omega)) | (with_reducible apply Blk.set4) | (with_reducible apply Blk.set3) | (with_reducible apply Blk.set2) | ((with_reducible refine Blk.put ?_ ?_); · first | omega | (simp; omega)) | (with_reducible refine Blk.old ?_) | (with_reducible refine Blk.drew ?_) | (with_reducible refine Blk.drewN ?_) | ((with_reducible refine Blk.below hb ?_ ?_); · first | omega | (simp; done) | (simp; omega))))
      have kw3 : Below w.heap.size w w3 := by have kk := H2.out.2.2.2.1; exact (by repeat (first | (with_reducible exact Below.refl _ _) | (with_reducible assumption) | (with_reducible refine Below.drew ?_) | (with_reducible refine Below.drewN ?_) | ((with_reducible refine Below.al ?_ ?_); · first | omega | (simp; done) | (simp; omega)) | ((with_reducible refine Below.sc ?_ ?_); · first | omega | (simp; done) | (simp; omega)) | ((with_reducible refine Below.thru hb ?_ ?_); · first | omega | (simp; done) | (simp; omega))))
      have OC3 := H2.out.2.2.2.2.below hb
      have hdis : ∀ t ∈ vs, ∀ g, t.v.ownBlock = some g → (Value.slice co (cyL (fn T) k n).length cc).ownBlock ≠ some g := fun t ht g hg e => by
        have h1 := (hrows.out t ht g hg).2
        have h2 := (OC3.lt e).1
        omega
      have H3 := Lib.hid (And.intro O3 (And.intro R3 (And.intro B3 (And.intro kw3 (And.intro OC3 hdis)))))
      clear O3 R3 B3 kw3 OC3 hb H2 hdis
      have hmc := HMC.out
      generalize minL ((cyL (fn T) k n).map Int.ofNat) ((cyL (fn T) k n).map Int.ofNat).length = m at hmc
      cases hx : isMin (fn T) k n with
      | false =>
        rw [hx] at HX hmc
        clear hx
        go_wp2
        go_roundw
        case rel => exact ⟨k + 1, vs, by omega, by go_num, H3.out.1, by rw [HX.out]; exact H3.out.2.1, H3.out.2.2.1, H3.out.2.2.2.1⟩
        case measure => simp [intOf]; omega
      | true =>
        rw [hx] at HX hmc
        clear hx
        obtain ⟨jI, hinf⟩ := HINF.out
        replace hinf := Lib.hid hinf
        obtain ⟨vo, vc, hv⟩ := H3.out.1.len
        subst hv
        go_wp2_with (at_builtin; refine wpList_app encV rfl _ _ 49 22 24 rfl Try.underlying49 jI _ hinf.out.1 hinf.out.2.1 hinf.out.2.2.1 hinf.out.2.2.2 rfl (.slice vo vs.length vc) vs (w.heap.size + 1) w3.heap.size 1 #[.slice co (cyL (fn T) k n).length cc] [⟨co, (cyL (fn T) k n).length, cc⟩] rfl ?o1 rfl ?b1 rfl ?l1 ?l2 (by first | omega | (simp; done) | (simp; omega)) ?_)
        case o1 =>
          have O1 := H3.out.1
          exact (by repeat (first | (with_reducible assumption) | (with_reducible refine Own.drew ?_) | (with_reducible refine Own.drewN ?_) | (with_reducible refine Own.alloc ?_) | (with_reducible refine OwnK.drew ?_) | (with_reducible refine OwnK.drewN ?_) | (with_reducible refine OwnK.alloc ?_) | ((with_reducible refine OwnK.put ?_ ?_); · first | omega | (simp; done) | (simp; omega)) | ((with_reducible refine Own.below hb ?_)) | ((with_reducible refine OwnK.below hb ?_))))
        case b1 => exact Blk.new (by simp)
        case l1 => simp only [List.length_cons, List.length_nil, maxLen]; omega
        case l2 => simp only [List.length_cons, List.length_nil]; omega
        intro v' w4 O4 hg
        have O1 := H3.out.1
        have kk := H3.out.2.2.2.1
        have B4 : Blk w4 w.heap.size 27 #[.slice ao S.length sc, .slice (some ta) n tc] := Blk.grownK hg (e := encV) (E := 22) (B := w.heap.size + 1) (xs := vs) (by repeat (first | (with_reducible assumption) | (with_reducible refine Own.drew ?_) | (with_reducible refine Own.drewN ?_) | (with_reducible refine Own.alloc ?_) | (with_reducible refine OwnK.drew ?_) | (with_reducible refine OwnK.drewN ?_) | (with_reducible refine OwnK.alloc ?_) | ((with_reducible refine OwnK.put ?_ ?_); · first | omega | (simp; done) | (simp; omega)) | ((with_reducible refine Own.below hb ?_)) | ((with_reducible refine OwnK.below hb ?_)))) (by omega) (Blk.old H3.out.2.2.1)
        have kw4 : Below w.heap.size w w4 := Below.grownK hg (e := encV) (E := 22) (B := w.heap.size + 1) (xs := vs) (by repeat (first | (with_reducible assumption) | (with_reducible refine Own.drew ?_) | (with_reducible refine Own.drewN ?_) | (with_reducible refine Own.alloc ?_) | (with_reducible refine OwnK.drew ?_) | (with_reducible refine OwnK.drewN ?_) | (with_reducible refine OwnK.alloc ?_) | ((with_reducible refine OwnK.put ?_ ?_); · first | omega | (simp; done) | (simp; omega)) | ((with_reducible refine Own.below hb ?_)) | ((with_reducible refine OwnK.below hb ?_)))) (by omega) (by simp; omega) (by repeat (first | (with_reducible exact Below.refl _ _) | (with_reducible assumption) | (with_reducible refine Below.drew ?_) | (with_reducible refine Below.drewN ?_) | ((with_reducible refine Below.al ?_ ?_); · first | omega | (simp; done) | (simp; omega)) | ((with_reducible refine Below.sc ?_ ?_); · first | omega | (simp; done) | (simp; omega)) | ((with_reducible refine Below.thru hb ?_ ?_); · first | omega | (simp; done) | (simp; omega))))
        have R4 : RowS w4 (w.heap.size + 1) (vs ++ [⟨co, (cyL (fn T) k n).length, cc⟩]) (cysL (fn T) n k ++ [cyL (fn T) k n]) :=
          RowS.grown hg (e := encV) (E := 22) (B' := w.heap.size + 1) (xs := vs) (by repeat (first | (with_reducible assumption) | (with_reducible refine Own.drew ?_) | (with_reducible refine Own.drewN ?_) | (with_reducible refine Own.alloc ?_) | (with_reducible refine OwnK.drew ?_) | (with_reducible refine OwnK.drewN ?_) | (with_reducible refine OwnK.alloc ?_) | ((with_reducible refine OwnK.put ?_ ?_); · first | omega | (simp; done) | (simp; omega)) | ((with_reducible refine Own.below hb ?_)) | ((with_reducible refine OwnK.below hb ?_)))) (by decide) ((RowS.snoc (s := ⟨co, (cyL (fn T) k n).length, cc⟩) (H3.out.2.2.2.2.1.mono (by omega)) H3.out.2.1 H3.out.2.2.2.2.2).below ((Below.refl _ _).alloc (Nat.le_refl _) _))
        clear hg O1 kk H3
        go_wp2
        go_roundw
        case rel => exact ⟨k + 1, vs ++ [⟨co, (cyL (fn T) k n).length, cc⟩], by omega, by go_num, O4, by rw [HX.out]; exact R4, B4, kw4⟩
        case measure => simp [intOf]; omega
    · obtain rfl : k = n := by omega
      obtain ⟨vo, vc, rfl⟩ := O.len
      go_wp2
      refine bodyPost_ret (v := .slice vo vs.length vc) (by simp [results, Try.results82, go_sem]) rfl ?_
      exact ⟨_, vs, rfl, O.mono (by omega), R.mono (by omega), kwr⟩

end Go.Proofs.Ytamkbgodenkboaa
