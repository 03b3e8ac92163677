import Derived.Test.YtjpkopnkfpgahaaQ10
import Derived.Test.YtjpkopnkfpgahaaQ2
import Derived.Deep.RegionLaw
import Derived.Deep.LoopGhost
/- The chain of a matrix: both walks. -/
namespace Go.Proofs.Ytjpkopnkfpgahaa
open Go.RowKit

/-- append to a slice of the call's own, as one step of a region that draws. -/
theorem step_app {P : Program} {ops : Array Oper} {o : Oper} {a : Go.Act} {w : World} {K : Go.Act → World → Prop} {Q : Exit → Go.Act → World → Prop} {Es : Prop} {α : Type} (e : Enc α) (hgd : o.guard = none) (s x : Operand) (T E : TypeId) (by_ : Nat)
    (ho : o.op = .call { callee := .builtin .append, args := #[s, x], argTypes := #[T, T] })
    (ht : P.underlying T = some (.slice E)) (i : TypeInfo) (z : Value) (hi : P.info? E = some i) (hz : i.zero = some z) (hsize : i.size = e.k) (hby : i.bytes = by_) (hzs : z.cells.size = e.k)
    (v : Value) (xs : List α) (B g c : Nat) (cs : Array Value) (news : List α) (hs : a.eval s = v) (hown : OwnK e E w B v xs) (hx : a.eval x = .slice (some ⟨g, 0, none⟩) news.length c) (hb : Blk w g E cs) (hc : cs.toList = news.flatMap e.enc)
    (h63 : xs.length + news.length ≤ maxLen) (hbytes : (xs.length + news.length) * by_ ≤ 140737488355328) (hbase : B ≤ w.heap.size)
    (h : ∀ v' w', OwnK e E w' B v' (xs ++ news) → w.grownBy w' v.ownBlock → K (a.put o.dst v') w') :
    if Region.wanted o (yielded ops a.tmps) = true then Oper.wp P o a w K Q else Es := by
  have hw : Region.wanted o (yielded ops a.tmps) = true := by simp [Region.wanted, hgd]
  rw [if_pos hw]
  exact wp_append_own w s x T ho B E i z e.k by_ ht hi hz hsize hby hzs e.pos v xs.length (xs.flatMap e.enc) hs hown ⟨g, 0, none⟩ news.length c (news.flatMap e.enc) hx (flat_len e news)
    (fun j u hu => by
      have hadd : (⟨g, 0, none⟩ : Addr).add j = ⟨g, j, none⟩ := by unfold Addr.add; split <;> simp_all
      rw [hadd, hb.cell j, ← Array.getElem?_toList, hc]; exact hu)
    (fun u hu => by obtain ⟨x, _, hu⟩ := List.mem_flatMap.1 hu; exact e.one x u hu)
    h63 hbytes hbase
    (fun v' w' h1 h2 _ => h v' w' (by unfold OwnK; rw [List.length_append, List.flatMap_append]; exact h1) h2)

/-- What the chain gives. -/
def GivesCh (m : M) (w : World) (e : Ending) (w' : World) : Prop := ∃ v k, e = .returned (.tuple #[.int .i64 (chM m k).a, v]) ∧ ChEnds m k ∧ Own w' w.heap.size v (chQs m k ++ [(chM m k).a * (chM m k).b]) ∧ Below w.heap.size w w'

set_option maxRecDepth 8000 in
set_option maxHeartbeats 1500000 in
theorem chain_any (m : M) (w : World) (h : chOK m) :
    Calls Try.prog 26 #[.agg #[.int .i64 m.a, .int .i64 m.b, .int .i64 m.c, .int .i64 m.d]] w (GivesCh m w) := by
  have HK := Lib.hid h
  have HINF := Lib.hid (info_parts infoI)
  clear h
  go_enter Try.func26, Try.ntmps26
  go_wp2_with fail
  refine forget (fun W_ => Below w.heap.size w W_ ∧ Blk W_ (w.heap.size) 30 (mcs m) ∧ Blk W_ (w.heap.size + 1) 2 (#[])) ⟨(by repeat (first | (with_reducible exact Below.refl _ _) | (with_reducible assumption) | (with_reducible refine Below.drew ?_) | (with_reducible refine Below.drewN ?_) | ((with_reducible refine Below.al ?_ ?_); · first | omega | (simp; done) | (simp; omega)) | ((with_reducible refine Below.sc ?_ ?_); · first | omega | (simp; done) | (simp; omega)) | ((with_reducible refine Below.thru hb ?_ ?_); · first | omega | (simp; done) | (simp; omega)))), (by repeat (first | (with_reducible assumption) | ((with_reducible refine Blk.new ?_); · first | omega | (simp; done) | (simp; omega)) | (with_reducible apply Blk.set4) | (with_reducible apply Blk.set3) | (with_reducible apply Blk.set2) | ((with_reducible refine Blk.put ?_ ?_); · first | omega | (simp; omega)) | (with_reducible refine Blk.old ?_) | (with_reducible refine Blk.drew ?_) | (with_reducible refine Blk.drewN ?_) | ((with_reducible refine Blk.below hb ?_ ?_); · first | omega | (simp; done) | (simp; omega)))), (by repeat (first | (with_reducible assumption) | ((with_reducible refine Blk.new ?_); · first | omega | (simp; done) | (simp; omega)) | (with_reducible apply Blk.set4) | (with_reducible apply Blk.set3) | (with_reducible apply Blk.set2) | ((with_reducible refine Blk.put ?_ ?_); · first | omega | (simp; omega)) | (with_reducible refine Blk.old ?_) | (with_reducible refine Blk.drew ?_) | (with_reducible refine Blk.drewN ?_) | ((with_reducible refine Blk.below hb ?_ ?_); · first | omega | (simp; done) | (simp; omega))))⟩ ?_
  rintro w1 ⟨kw1, B1, N1⟩
  have sw1 := kw1.size
  have lB1 := B1.lt
  have lN1 := N1.lt
  have O1 : Own w1 (w.heap.size + 1) (.slice (some ⟨w.heap.size + 1, 0, none⟩) 0 0) (chQs m 0) := Own.of_blk (xs := []) N1 (by omega) rfl (by simp [maxLen])
  clear N1
  have hb0 := HK.out.2.2.2.1
  go_loopg [4] 1000000000 (fun g v wr => ∃ k : Nat, (chM m k).c.natAbs ≤ g ∧ k + g ≤ 1000000000 ∧ Hid (∀ j, j < k → (chM m j).c ≠ 0) ∧ Blk wr w.heap.size 30 (mcs (chM m k)) ∧ Own wr (w.heap.size + 1) v (chQs m k) ∧ Below w.heap.size w wr)
  case atStart => exact ⟨0, by show m.c.natAbs ≤ _; omega, by omega, Lib.hid (fun j hj => absurd hj (by omega)), B1, O1, kw1⟩
  case round =>
    clear O1 B1 kw1 sw1 lB1 hb0
    obtain ⟨k, hg1, hg2, hne, B, O, kwr⟩ := hrel
    have hok := (chM_ok HK.out k hne.out).1
    have HS := Lib.hid (fun (hc : (chM m k).c ≠ 0) => chS_ok hok hc)
    have HN := Lib.hid (show chM m (k + 1) = chS (chM m k) from rfl)
    have HQ := Lib.hid (chQs_succ m k)
    have HE := Lib.hid (fun (hc : (chM m k).c = 0) => (show ChEnds m k from ⟨hne.out, hc⟩))
    have HNE := Lib.hid (fun (hc : (chM m k).c ≠ 0) => (show ∀ j, j < k + 1 → (chM m j).c ≠ 0 from fun j hj => if e : j < k then hne.out j e else (show j = k by omega) ▸ hc))
    obtain ⟨ao, co, hv, -⟩ := O.slIn.form
    rw [chQs_len] at hv
    subst hv
    obtain ⟨hdet, ha, hb, hc, hd⟩ := hok
    have q := B.m
    have f := B.mf
    have lB := B.lt
    have swr := kwr.size
    generalize hM : chM m k = n at *
    replace hM := Lib.hid hM
    obtain ⟨a, b, c, d⟩ := n
    simp only at *
    clear hdet
    by_cases hc0 : c = 0
    · have HEE := Lib.hid (HE.out hc0)
      have hab := mul_bd ha.1 ha.2 hb.1 hb.2
      have HWR := Lib.hid (show IntKind.i64.wrap (a * b) = a * b by rw [IntKind.wrap_i64]; omega)
      subst hc0
      have H := Lib.hid (And.intro O (And.intro B kwr))
      clear O B kwr
      obtain ⟨jI, hinf⟩ := HINF.out
      replace hinf := Lib.hid hinf
      go_wp2_with fail
      go_region_law (first
        | (refine step_app encI rfl _ _ 35 2 8 rfl Try.underlying35 jI _ hinf.out.1 hinf.out.2.1 hinf.out.2.2.1 hinf.out.2.2.2 rfl (.slice ao k co) (chQs m k) (w.heap.size + 1) wr.heap.size 1 #[.int .i64 (IntKind.i64.wrap (a * b))] [IntKind.i64.wrap (a * b)] rfl (by have O := H.out.1.toK; exact (by repeat (first | (with_reducible assumption) | (with_reducible refine Own.drew ?_) | (with_reducible refine Own.drewN ?_) | (with_reducible refine Own.alloc ?_) | (with_reducible refine OwnK.drew ?_) | (with_reducible refine OwnK.drewN ?_) | (with_reducible refine OwnK.alloc ?_) | ((with_reducible refine OwnK.put ?_ ?_); · first | omega | (simp; done) | (simp; omega)) | ((with_reducible refine Own.below hb ?_)) | ((with_reducible refine OwnK.below hb ?_))))) rfl (by repeat (first | (with_reducible assumption) | ((with_reducible refine Blk.new ?_); · first | omega | (simp; done) | (simp; omega)) | (with_reducible apply Blk.set4) | (with_reducible apply Blk.set3) | (with_reducible apply Blk.set2) | ((with_reducible refine Blk.put ?_ ?_); · first | omega | (simp; omega)) | (with_reducible refine Blk.old ?_) | (with_reducible refine Blk.drew ?_) | (with_reducible refine Blk.drewN ?_) | ((with_reducible refine Blk.below hb ?_ ?_); · first | omega | (simp; done) | (simp; omega)))) rfl (by rw [chQs_len]; simp only [List.length_cons, List.length_nil]; unfold maxLen; omega) (by rw [chQs_len]; simp only [List.length_cons, List.length_nil]; omega) (by first | omega | (simp; done) | (simp; omega)) ?_; intro v' w2 O2 hg; have B2 : Blk w2 w.heap.size 30 (mcs ⟨a, b, 0, d⟩) := Blk.grownK hg (e := encI) (E := 2) (B := w.heap.size + 1) (xs := chQs m k) (by have O := H.out.1.toK; exact (by repeat (first | (with_reducible assumption) | (with_reducible refine Own.drew ?_) | (with_reducible refine Own.drewN ?_) | (with_reducible refine Own.alloc ?_) | (with_reducible refine OwnK.drew ?_) | (with_reducible refine OwnK.drewN ?_) | (with_reducible refine OwnK.alloc ?_) | ((with_reducible refine OwnK.put ?_ ?_); · first | omega | (simp; done) | (simp; omega)) | ((with_reducible refine Own.below hb ?_)) | ((with_reducible refine OwnK.below hb ?_))))) (by omega) (by have B := H.out.2.1; exact (by repeat (first | (with_reducible assumption) | ((with_reducible refine Blk.new ?_); · first | omega | (simp; done) | (simp; omega)) | (with_reducible apply Blk.set4) | (with_reducible apply Blk.set3) | (with_reducible apply Blk.set2) | ((with_reducible refine Blk.put ?_ ?_); · first | omega | (simp; omega)) | (with_reducible refine Blk.old ?_) | (with_reducible refine Blk.drew ?_) | (with_reducible refine Blk.drewN ?_) | ((with_reducible refine Blk.below hb ?_ ?_); · first | omega | (simp; done) | (simp; omega))))); have q2 := B2.m; have kw2 : Below w.heap.size w w2 := Below.grownK hg (e := encI) (E := 2) (B := w.heap.size + 1) (xs := chQs m k) (by have O := H.out.1.toK; exact (by repeat (first | (with_reducible assumption) | (with_reducible refine Own.drew ?_) | (with_reducible refine Own.drewN ?_) | (with_reducible refine Own.alloc ?_) | (with_reducible refine OwnK.drew ?_) | (with_reducible refine OwnK.drewN ?_) | (with_reducible refine OwnK.alloc ?_) | ((with_reducible refine OwnK.put ?_ ?_); · first | omega | (simp; done) | (simp; omega)) | ((with_reducible refine Own.below hb ?_)) | ((with_reducible refine OwnK.below hb ?_))))) (by omega) (by simp; omega) (by have kk := H.out.2.2; exact (by repeat (first | (with_reducible exact Below.refl _ _) | (with_reducible assumption) | (with_reducible refine Below.drew ?_) | (with_reducible refine Below.drewN ?_) | ((with_reducible refine Below.al ?_ ?_); · first | omega | (simp; done) | (simp; omega)) | ((with_reducible refine Below.sc ?_ ?_); · first | omega | (simp; done) | (simp; omega)) | ((with_reducible refine Below.thru hb ?_ ?_); · first | omega | (simp; done) | (simp; omega))))); have HO := Lib.hid (OwnK.toOwn O2); clear hg O2))
      all_goals go_wp2
      all_goals go_ret2
      all_goals exact ⟨v', k, by rw [hM.out]; rfl, HEE.out, by rw [hM.out]; show Own _ _ _ (chQs m k ++ [a * b]); rw [← HWR.out]; exact HO.out.mono (by omega), (by repeat (first | (with_reducible exact Below.refl _ _) | (with_reducible assumption) | (with_reducible refine Below.drew ?_) | (with_reducible refine Below.drewN ?_) | ((with_reducible refine Below.al ?_ ?_); · first | omega | (simp; done) | (simp; omega)) | ((with_reducible refine Below.sc ?_ ?_); · first | omega | (simp; done) | (simp; omega)) | ((with_reducible refine Below.thru hb ?_ ?_); · first | omega | (simp; done) | (simp; omega))))⟩
    · have HSS := Lib.hid (HS.out hc0)
      have HNN := Lib.hid (HNE.out hc0)
      have hfl := flr_bd (a := 2 * a + c) (b := 2 * c) (by omega) (by omega)
      have HCS := Lib.hid (show chS ⟨a, b, c, d⟩ = ⟨c, d, flr (2 * a + c) (2 * c) * c - a, flr (2 * a + c) (2 * c) * d - b⟩ from rfl)
      have HCQ := Lib.hid (show chQ1 ⟨a, b, c, d⟩ = flr (2 * a + c) (2 * c) from rfl)
      rw [HCS.out] at HSS
      rw [HCQ.out] at HQ
      have hp1 := HSS.out.1.2.2.2.1
      have hp2 := HSS.out.1.2.2.2.2
      have hp3 := HSS.out.2
      simp only at hp1 hp2 hp3
      have H := Lib.hid (And.intro O (And.intro B kwr))
      clear O
      go_wp2_with fail
      refine (floor_any (2 * a + c) (2 * c) _ (by omega) (by omega) (by omega)).mono ?_
      generalize flr (2 * a + c) (2 * c) = fq at *
      rintro e w2 ⟨rfl, hb⟩
      have O2 := H.out.1.below hb
      have B2 : Blk w2 w.heap.size 30 (mcs ⟨a, b, c, d⟩) := (by repeat (first | (with_reducible assumption) | ((with_reducible refine Blk.new ?_); · first | omega | (simp; done) | (simp; omega)) | (with_reducible apply Blk.set4) | (with_reducible apply Blk.set3) | (with_reducible apply Blk.set2) | ((with_reducible refine Blk.put ?_ ?_); · first | omega | (simp; omega)) | (with_reducible refine Blk.old ?_) | (with_reducible refine Blk.drew ?_) | (with_reducible refine Blk.drewN ?_) | ((with_reducible refine Blk.below hb ?_ ?_); · first | omega | (simp; done) | (simp; omega))))
      have kw2 : Below w.heap.size w w2 := (by repeat (first | (with_reducible exact Below.refl _ _) | (with_reducible assumption) | (with_reducible refine Below.drew ?_) | (with_reducible refine Below.drewN ?_) | ((with_reducible refine Below.al ?_ ?_); · first | omega | (simp; done) | (simp; omega)) | ((with_reducible refine Below.sc ?_ ?_); · first | omega | (simp; done) | (simp; omega)) | ((with_reducible refine Below.thru hb ?_ ?_); · first | omega | (simp; done) | (simp; omega))))
      have sw2 := kw2.size
      have lB2 := B2.lt
      have q2 := B2.m
      have H2 := Lib.hid (And.intro O2 (And.intro B2 kw2))
      clear O2 B2 kw2 B kwr H q
      obtain ⟨jI, hinf⟩ := HINF.out
      replace hinf := Lib.hid hinf
      go_wp2_with (at_builtin; refine wpList_app encI rfl _ _ 35 2 8 rfl Try.underlying35 jI _ hinf.out.1 hinf.out.2.1 hinf.out.2.2.1 hinf.out.2.2.2 rfl (.slice ao k co) (chQs m k) (w.heap.size + 1) w2.heap.size 1 #[.int .i64 fq] [fq] rfl ?o1 rfl ?b1 rfl ?l1 ?l2 (by first | omega | (simp; done) | (simp; omega)) ?_)
      case o1 =>
        have O1 := H2.out.1.toK
        exact (by repeat (first | (with_reducible assumption) | (with_reducible refine Own.drew ?_) | (with_reducible refine Own.drewN ?_) | (with_reducible refine Own.alloc ?_) | (with_reducible refine OwnK.drew ?_) | (with_reducible refine OwnK.drewN ?_) | (with_reducible refine OwnK.alloc ?_) | ((with_reducible refine OwnK.put ?_ ?_); · first | omega | (simp; done) | (simp; omega)) | ((with_reducible refine Own.below hb ?_)) | ((with_reducible refine OwnK.below hb ?_))))
      case b1 => exact Blk.new (by simp)
      case l1 => (try simp only [chQs_len, List.length_cons, List.length_nil]); unfold maxLen; omega
      case l2 => (try simp only [chQs_len, List.length_cons, List.length_nil]); omega
      intro v' w4 O4 hg
      have B4 : Blk w4 w.heap.size 30 (mcs ⟨a, b, c, d⟩) := Blk.grownK hg (e := encI) (E := 2) (B := w.heap.size + 1) (xs := chQs m k) (by have O := H2.out.1.toK; exact (by repeat (first | (with_reducible assumption) | (with_reducible refine Own.drew ?_) | (with_reducible refine Own.drewN ?_) | (with_reducible refine Own.alloc ?_) | (with_reducible refine OwnK.drew ?_) | (with_reducible refine OwnK.drewN ?_) | (with_reducible refine OwnK.alloc ?_) | ((with_reducible refine OwnK.put ?_ ?_); · first | omega | (simp; done) | (simp; omega)) | ((with_reducible refine Own.below hb ?_)) | ((with_reducible refine OwnK.below hb ?_))))) (by omega) (by have B := H2.out.2.1; exact (by repeat (first | (with_reducible assumption) | ((with_reducible refine Blk.new ?_); · first | omega | (simp; done) | (simp; omega)) | (with_reducible apply Blk.set4) | (with_reducible apply Blk.set3) | (with_reducible apply Blk.set2) | ((with_reducible refine Blk.put ?_ ?_); · first | omega | (simp; omega)) | (with_reducible refine Blk.old ?_) | (with_reducible refine Blk.drew ?_) | (with_reducible refine Blk.drewN ?_) | ((with_reducible refine Blk.below hb ?_ ?_); · first | omega | (simp; done) | (simp; omega)))))
      have kw4 : Below w.heap.size w w4 := Below.grownK hg (e := encI) (E := 2) (B := w.heap.size + 1) (xs := chQs m k) (by have O := H2.out.1.toK; exact (by repeat (first | (with_reducible assumption) | (with_reducible refine Own.drew ?_) | (with_reducible refine Own.drewN ?_) | (with_reducible refine Own.alloc ?_) | (with_reducible refine OwnK.drew ?_) | (with_reducible refine OwnK.drewN ?_) | (with_reducible refine OwnK.alloc ?_) | ((with_reducible refine OwnK.put ?_ ?_); · first | omega | (simp; done) | (simp; omega)) | ((with_reducible refine Own.below hb ?_)) | ((with_reducible refine OwnK.below hb ?_))))) (by omega) (by simp; omega) (by have kk := H2.out.2.2; exact (by repeat (first | (with_reducible exact Below.refl _ _) | (with_reducible assumption) | (with_reducible refine Below.drew ?_) | (with_reducible refine Below.drewN ?_) | ((with_reducible refine Below.al ?_ ?_); · first | omega | (simp; done) | (simp; omega)) | ((with_reducible refine Below.sc ?_ ?_); · first | omega | (simp; done) | (simp; omega)) | ((with_reducible refine Below.thru hb ?_ ?_); · first | omega | (simp; done) | (simp; omega)))))
      have O5 : Own w4 (w.heap.size + 1) v' (chQs m (k + 1)) := by rw [HQ.out]; exact OwnK.toOwn O4
      have q4 := B4.m
      have f4 := B4.mf
      have lB4 := B4.lt
      have H4 := Lib.hid (And.intro O5 (And.intro B4 kw4))
      clear hg O4 O5 B4 kw4 H2 q2
      go_wp2
      go_roundg (gk - 1)
      case rel => exact ⟨k + 1, by rw [HN.out, HCS.out]; show (fq * c - a).natAbs ≤ _; omega, by omega, HNN, by rw [HN.out, HCS.out]; have B := H4.out.2.1; exact (by repeat (first | (with_reducible assumption) | ((with_reducible refine Blk.new ?_); · first | omega | (simp; done) | (simp; omega)) | (with_reducible apply Blk.set4) | (with_reducible apply Blk.set3) | (with_reducible apply Blk.set2) | ((with_reducible refine Blk.put ?_ ?_); · first | omega | (simp; omega)) | (with_reducible refine Blk.old ?_) | (with_reducible refine Blk.drew ?_) | (with_reducible refine Blk.drewN ?_) | ((with_reducible refine Blk.below hb ?_ ?_); · first | omega | (simp; done) | (simp; omega)))), Own.put (fun e => by have := (H4.out.1.lt e).1; omega) (Own.put (fun e => by have := (H4.out.1.lt e).1; omega) (Own.put (fun e => by have := (H4.out.1.lt e).1; omega) (Own.put (fun e => by have := (H4.out.1.lt e).1; omega) H4.out.1))), by have kk := H4.out.2.2; exact (by repeat (first | (with_reducible exact Below.refl _ _) | (with_reducible assumption) | (with_reducible refine Below.drew ?_) | (with_reducible refine Below.drewN ?_) | ((with_reducible refine Below.al ?_ ?_); · first | omega | (simp; done) | (simp; omega)) | ((with_reducible refine Below.sc ?_ ?_); · first | omega | (simp; done) | (simp; omega)) | ((with_reducible refine Below.thru hb ?_ ?_); · first | omega | (simp; done) | (simp; omega))))⟩
      case measure => omega

end Go.Proofs.Ytjpkopnkfpgahaa
