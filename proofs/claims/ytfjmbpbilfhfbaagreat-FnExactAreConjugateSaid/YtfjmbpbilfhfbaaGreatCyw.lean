/- Cyclic words: the program's cyclicWord. -/
import Derived.Test.YtfjmbpbilfhfbaaGreatRpr
namespace Go.Proofs.YtfjmbpbilfhfbaaGreat
open Go.RowKit
set_option linter.unusedSimpArgs false

/-- A slice of bytes that can be cut. -/
def BIn (w : World) (v : Value) (l : List UInt8) : Prop := ∃ g c, v = .slice (some ⟨g, 0, none⟩) l.length c ∧ l.length ≤ c ∧ g < w.heap.size ∧ ∀ j (hj : j < l.length), w.cell? ⟨g, j, none⟩ = some (.int .u8 (tI l[j]))
theorem BIn.of_row {w : World} {B g c : Nat} {l : List UInt8} (h : RowM w B g c l) : BIn w (.slice (some ⟨g, 0, none⟩) l.length c) l := ⟨g, c, rfl, h.room, h.lt, h.cells⟩
theorem BIn.of_own {w : World} {B : Nat} {v : Value} {l : List UInt8} (h : OwnK encB 5 w B v l) (h0 : 0 < l.length) : BIn w v l := by
  rcases h.form with ⟨rfl, e⟩ | ⟨g, c, rfl, hB, hlt, h1, -⟩
  · rw [e] at h0; exact absurd h0 (Nat.lt_irrefl 0)
  · refine ⟨g, c, rfl, h1, hlt, fun j hj => ?_⟩
    have q := OwnK.at (j := j) (i := 0) h rfl (List.getElem?_eq_getElem hj) rfl
    simpa [encB, tI] using q
theorem BIn.in {w : World} {v : Value} {l : List UInt8} (h : BIn w v l) : BytesIn w v l := by
  obtain ⟨g, c, h1, -, -, h2⟩ := h
  exact ⟨g, c, h1, h2⟩
abbrev sixC : Array Value := #[.string ⟨#[83]⟩, .string ⟨#[]⟩, .string ⟨#[85]⟩, .string ⟨#[84]⟩, .string ⟨#[86]⟩, .string ⟨#[76]⟩]
theorem six_blk {w : World} {b : Nat} (h : Blk w b 9 sixC) : Six w b := ⟨h.at rfl, h.at rfl, h.at rfl, h.at rfl, h.at rfl, h.at rfl⟩
theorem first_blk (w : World) : Blk (w.alloc (.cells sixC 9)).drew w.heap.size 9 sixC := heap_new (w := w) rfl
theorem ltr_pos {l : List UInt8} (h : Good l) (he : l.length % 2 = 0) : 0 < (ltr l).length := by
  obtain ⟨x, m, y, rfl, hxy, -, -⟩ := h.even he
  rw [show x :: (m ++ [y]) = [x] ++ (m ++ [y]) from rfl, ltr_app, ltr_app, List.length_append, List.length_append]
  by_cases hx : x = 83
  · have hy : y ≠ 83 := by
      rw [hx] at hxy
      exact beq_eq_false_iff_ne.1 hxy
    rw [ltr_one hy, List.length_singleton]
    omega
  · rw [ltr_one hx]
    simp
    omega
/-- What cyclicWord gives. -/
def GivesC (m : M) (w : World) (e : Ending) (w' : World) : Prop := (∃ k, ChEnds m k ∧ ∃ r : ByteArray × Int, (200 < (freeL (chAll m k)).length → r = (⟨#[]⟩, 3)) ∧ (¬ 200 < (freeL (chAll m k)).length → ∃ c, CycI (freeL (chAll m k)) c ∧ r = (stB c, 0)) ∧ e = .returned (.tuple #[.string r.1, .int .i64 r.2])) ∧ Below w.heap.size w w'

set_option maxRecDepth 8000 in
set_option maxHeartbeats 4000000 in
theorem cyclicWord_any (m : M) (w : World) (h : m.ok = true) (hg : ∀ k, ChEnds m k → Good (freeL (chAll m k))) :
    Calls Tryz.prog 19 #[.agg #[.int .i64 m.a, .int .i64 m.b, .int .i64 m.c, .int .i64 m.d]] w (GivesC m w) := by
  have HLF := Lib.hid (fun w' : World => FreeWord_in m w' h)
  have HGD := Lib.hid hg
  clear h hg
  go_enter Tryz.func19, Tryz.ntmps19
  go_wp2_with fail
  refine (HLF.out _).mono ?_
  rintro e w2 ⟨⟨k, he, rfl⟩, hb⟩
  have k2 : Below w.heap.size w w2 := (by repeat (first | (with_reducible exact Below.refl _ _) | (with_reducible assumption) | (with_reducible refine Below.drew ?_) | (with_reducible refine Below.drewN ?_) | ((with_reducible refine Below.al ?_ ?_); · first | omega | (simp; done) | (simp; omega)) | ((with_reducible refine Below.sc ?_ ?_); · first | omega | (simp; done) | (simp; omega)) | ((with_reducible refine Below.thru hb ?_ ?_); · first | omega | (simp; done) | (simp; omega))))
  have HE := Lib.hid he
  have HG := Lib.hid (HGD.out k he)
  clear hb he HGD
  have HX : Hid (∀ r : ByteArray × Int, (200 < (freeL (chAll m k)).length → r = (⟨#[]⟩, 3)) → (¬ 200 < (freeL (chAll m k)).length → ∃ c, CycI (freeL (chAll m k)) c ∧ r = (stB c, 0)) → ∀ w', Below w.heap.size w w' → GivesC m w (.returned (.tuple #[.string r.1, .int .i64 r.2])) w') := Lib.hid (fun r h1 h2 w' hb => ⟨⟨k, HE.out, r, h1, h2, rfl⟩, hb⟩)
  generalize GivesC m w = GF at *
  have HR1 := Lib.hid (fun h => resF_long (qs := chAll m k) h)
  have HR2 := Lib.hid (fun h => resF_ok (qs := chAll m k) h)
  generalize freeL (chAll m k) = f at *
  by_cases hlong : 200 < f.length
  · have HX2 := Lib.hid (HX.out (⟨#[]⟩, 3) (fun _ => rfl) (fun h => absurd hlong h))
    rw [HR1.out hlong]
    clear HX HR1 HR2
    go_wp2
    exact HX2.out _ k2
  · have HX2 : Hid (∀ c, CycI f c → ∀ w', Below w.heap.size w w' → GF (.returned (.tuple #[.string (stB c), .int .i64 0])) w') := Lib.hid (fun c hc => HX.out (stB c, 0) (fun h => absurd h hlong) (fun _ => ⟨c, hc, rfl⟩))
    rw [HR2.out hlong]
    have hcv := cv_run f
    have eS : (⟨f.toArray⟩ : ByteArray) = stB f := rfl
    rw [eS]
    clear HX HR1 HR2 eS
    go_wp2_with fail
    have hcw := cvW_below f (B := w2.heap.size) (Nat.le_refl _) (Below.refl _ w2)
    have HBI := Lib.hid (BIn.of_row (cvW_row f w2 (B := w2.heap.size) (Nat.le_refl _)))
    clear hcv
    generalize cvCap w2 f = cf at *
    generalize cvW w2 f = wf at *
    go_loopw [6] (fun v wr => ∃ (n : Nat) (l : List UInt8), BIn wr v l ∧ Hid (l = runI n f) ∧ l.length ≤ 200 ∧ Below w2.heap.size w2 wr) (fun v _ => lenOf v)
    case atStart => exact ⟨0, f, HBI.out, Lib.hid rfl, by omega, hcw⟩
    case round =>
      clear hcw HBI
      obtain ⟨n, l, ⟨g, c, rfl, hlc, hgl, hcell⟩, hl, hl2, kwr⟩ := hrel
      have HGL : Hid (Good l) := Lib.hid (by rw [hl.out]; exact (runs_both HG.out n).1)
      have h2 := HGL.out.two
      by_cases ho : l.length % 2 = 1
      · obtain ⟨x, m1, y, rfl, hm1, hxy, ha, lx, ly, lm⟩ := HGL.out.form ho
        have HRUN : Hid (putL [y] x ++ m1 = runI (n + 1) f) := Lib.hid (by
          show _ = if (runI n f).length % 2 = 1 then rdI (runI n f) else runI n f
          rw [← hl.out, if_pos ho, rdI_form])
        have HLEN : Hid ((putL [y] x ++ m1).length < m1.length + 2 ∧ 2 ≤ (putL [y] x ++ m1).length) := Lib.hid (by
          have h5 := HGL.out.rdI ho
          rw [rdI_form] at h5
          refine ⟨?_, h5.1.two⟩
          have := h5.2
          simpa using this)
        have c0 := hcell 0 (by simp)
        have cN := hcell (m1.length + 1) (by simp)
        have HCM : Hid (∀ j (hj : j < m1.length), wr.cell? ⟨g, 1 + j, none⟩ = some (.int .u8 (tI m1[j]))) := Lib.hid (fun j hj => by
          have q := hcell (j + 1) (by simp; omega)
          rw [Nat.add_comm 1 j, q]
          rw [List.getElem_cons_succ, List.getElem_append_left hj])
        simp only [List.getElem_cons_zero, List.getElem_cons_succ] at c0 cN
        rw [List.getElem_append_right (Nat.le_refl _)] at cN
        simp only [Nat.sub_self, List.getElem_singleton] at cN
        have hlen : (x :: (m1 ++ [y])).length = m1.length + 2 := by simp
        rw [hlen] at hlc hl2 h2 ⊢
        have htm : Int.tmod ((m1.length : Int) + 2) 2 = 1 := by rw [Int.tmod_eq_emod_of_nonneg (by omega)]; omega
        have hw1 : IntKind.i64.wrap ((m1.length : Int) + 2 - 1) = (m1.length : Int) + 1 := by rw [IntKind.wrap_i64]; omega
        have hc2 : (m1.length : Int) + 1 ≤ (c : Int) := by omega
        have hc1 : ¬ c = 1 := by omega
        have swr := kwr.size
        have HPUT := Lib.hid (implPut_any x (.slice (some ⟨wr.heap.size, 0, none⟩) 1 1) [y] wr (wr.alloc (.cells #[.int .u8 (tI y)] 5)) (Below.al (Nat.le_refl _) (Below.refl _ _)) (OwnK.of_blk (xs := [y]) (cs := #[.int .u8 (tI y)]) (Blk.new rfl) (Nat.le_refl _) rfl (by simp [maxLen])) (by simp))
        clear hlen hxy ha lx ly lm ho hl HGL hcell
        generalize putL [y] x = p5 at *
        generalize tI x = xi at *
        generalize tI y = yi at *
        go_wp2_with fail
        refine HPUT.out.mono ?_
        rintro e w5 ⟨v5, rfl, O5, k5⟩
        have hinf : (Tryz.prog.info? 5).map (fun i => (i.zero, i.size, i.bytes)) = some (some (.int .u8 0), 1, 1) := by kernel_rfl
        obtain ⟨i0, hi, hzz⟩ := Option.map_eq_some_iff.1 hinf
        simp only [Prod.mk.injEq] at hzz
        obtain ⟨hz0, hz1, hz2⟩ := hzz
        have HI := Lib.hid (And.intro hi (And.intro hz0 (And.intro hz1 hz2)))
        have hp5 : p5.length ≤ 200 := by have := HLEN.out.1; simp at this; omega
        have HNEW : Hid (∀ j u, (m1.flatMap encB.enc)[j]? = some u → w5.cell? ((⟨g, 1, none⟩ : Addr).add j) = some u) := Lib.hid (fun j u hu => by
          have hfl := flat_len encB m1
          have hj : j < m1.length := by
            have := (List.getElem?_eq_some_iff.1 hu).1
            rw [hfl] at this
            simpa [encB] using this
          have q := flat_get encB m1 j 0 m1[j] (.int .u8 (tI m1[j])) (List.getElem?_eq_getElem hj) rfl
          rw [show j * encB.k + 0 = j by show j * 1 + 0 = j; omega] at q
          rw [hu] at q
          rw [show (⟨g, 1, none⟩ : Addr).add j = ⟨g, 1 + j, none⟩ by unfold Addr.add; split <;> simp_all]
          rw [(k5.cell (p := ⟨g, 1 + j, none⟩) hgl).trans (HCM.out j hj)]
          exact q.symm)
        have s5 := k5.size
        clear hi hz0 hz1 hz2 hinf HPUT HCM
        go_wp2_with (at_builtin; refine wpList_append_own w5 rfl _ _ 42 rfl wr.heap.size 5 i0 (.int .u8 0) 1 1 Tryz.underlying42 HI.out.1 HI.out.2.1 HI.out.2.2.1 HI.out.2.2.2 rfl (by decide) v5 p5.length (p5.flatMap encB.enc) rfl O5 ⟨g, 1, none⟩ m1.length (c - 1) (m1.flatMap encB.enc) rfl (flat_len encB m1) HNEW.out ?h1 ?h2 ?h3 s5 ?hk)
        case h1 => intro u hu; obtain ⟨x2, _, hu⟩ := List.mem_flatMap.1 hu; exact encB.one x2 u hu
        case h2 => unfold maxLen; omega
        case h3 => omega
        case hk =>
          intro v6 w6 h6 hg6 _
          have O6 : OwnK encB 5 w6 wr.heap.size v6 (p5 ++ m1) := by
            unfold OwnK
            rw [List.length_append, List.flatMap_append]
            exact h6
          have k6 : Below wr.heap.size wr w6 := Below.grownK hg6 O5 (Nat.le_refl _) s5 k5
          have HB6 := Lib.hid (BIn.of_own O6 (by have := HLEN.out.2; omega))
          have HL6 := Lib.hid O6.lenOf
          have kf : Below w2.heap.size w2 w6 := Below.thru k6 swr kwr
          clear h6 hg6 O6 O5 k5 k6
          go_wp2_with fail
          exact ⟨⟨n + 1, p5 ++ m1, HB6.out, HRUN, by have := HLEN.out.1; omega, kf⟩, by rw [HL6.out]; exact HLEN.out.1⟩
      · have HEND : Hid (EndI f l) := Lib.hid ⟨⟨n, hl.out.symm⟩, by omega⟩
        have HLT : Hid (Let3 l) := Lib.hid HGL.out.wd.lets
        have hbi : BytesIn wr (.slice (some ⟨g, 0, none⟩) l.length c) l := ⟨g, c, rfl, hcell⟩
        have HV := Lib.hid hbi.conv
        have htm : (l.length : Int) % 2 = 0 := by omega
        have hv := HV.out
        have swr := kwr.size
        have kf : Below w.heap.size w wr := Below.thru kwr k2.size k2
        have kd : Below wr.heap.size wr wr.drew := ⟨rfl, rfl, rfl, Nat.le_refl _, fun _ _ => rfl⟩
        have ka : Below wr.heap.size wr (wr.alloc (.cells sixC 9)).drew := Below.trans (Below.al (Nat.le_refl _) (Below.refl _ _)) ⟨rfl, rfl, rfl, Nat.le_refl _, fun _ _ => rfl⟩
        have HBT : Hid (∀ W, Below wr.heap.size wr W → (convert 42 9 (.slice (some ⟨g, 0, none⟩) l.length c)).run Tryz.prog W = .ok (.string (stB l)) W) := Lib.hid (fun W hW => by
          have hb2 : BytesIn W (.slice (some ⟨g, 0, none⟩) l.length c) l := ⟨g, c, rfl, fun j hj => (hW.cell (p := ⟨g, j, none⟩) hgl).trans (hcell j hj)⟩
          exact hb2.conv)
        have hva := HBT.out _ kd
        have hvb := HBT.out _ ka
        unfold sixC at hvb
        have hlp := ltr_pos HGL.out (by omega)
        have hlc2 := ltr_cnt l
        have HLS := Lib.hid (fun W => least_any (ltr l) W (by omega) hlp)
        have HCX : Hid (∀ r, Least (ltr l) r → ∀ w', Below w.heap.size w w' → GF (.returned (.tuple #[.string (stB r), .int .i64 0])) w') := Lib.hid (fun r hr => HX2.out r ⟨l, HEND.out, hr⟩)
        clear hbi hcell HGL hl ho hlp hlc2
        obtain ⟨N, hN⟩ : ∃ N, l.length = N := ⟨_, rfl⟩
        have HN := Lib.hid hN
        rw [hN] at htm hv hva hvb HBT hlc hl2 h2 ⊢
        clear hN
        go_wp2_with fail
        go_region_law (first
          | (go_simp; go_at_call 37; refine (newReplacer_any wr.heap.size 6 _ (six_blk (first_blk wr))).mono ?_; rintro e w5 ⟨g9, rfl, hN9⟩; have k5 : Below wr.heap.size wr w5 := Below.thru hN9.b ka.size ka; have hvc := HBT.out _ k5; dsimp only)
          | (go_simp; go_at_call 38; refine (replacer_any g9 l _ w5 hN9 HLT.out (by rw [HN.out]; omega) (by rw [HN.out]; omega)).mono ?_; rintro e w6 ⟨rfl, k6⟩; have k7 : Below wr.heap.size wr w6 := Below.thru k6 ka.size ka; dsimp only))
        all_goals simp only [List.getElem_toArray, List.getElem_cons_succ, List.getElem_cons_zero, Act.put, List.setIfInBounds_toArray, List.set_cons_zero, List.set_cons_succ]
        all_goals have kz : Below w.heap.size w w6 := Below.thru k7 kf.size kf
        all_goals clear hva hvb hvc hv HBT
        all_goals go_wp2_with fail
        all_goals refine (HLS.out _).mono ?_
        all_goals rintro e w9 ⟨⟨r, hr, rfl⟩, hb⟩
        all_goals have k9 : Below w.heap.size w w9 := Below.thru hb kz.size kz
        all_goals have HR := Lib.hid (HCX.out r hr)
        all_goals clear hb hr HCX HLS
        all_goals go_wp2
        all_goals exact HR.out _ k9

end Go.Proofs.YtfjmbpbilfhfbaaGreat
