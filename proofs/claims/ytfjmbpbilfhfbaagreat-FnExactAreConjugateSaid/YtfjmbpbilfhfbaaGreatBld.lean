/- strings.Replacer: its making, for the letters of free words. -/
import Derived.Test.YtfjmbpbilfhfbaaGreatCyi
import Derived.Test.YtfjmbpbilfhfbaaGreatOnc
import Derived.Deep.WholeRow
namespace Go.Proofs.YtfjmbpbilfhfbaaGreat
open Go.RowKit
set_option linter.unusedSimpArgs false

/-- The six strings. -/
structure Six (w : World) (b : Nat) : Prop where
  c0 : w.cell? ⟨b, 0, none⟩ = some (.string ⟨#[83]⟩)
  c1 : w.cell? ⟨b, 1, none⟩ = some (.string ⟨#[]⟩)
  c2 : w.cell? ⟨b, 2, none⟩ = some (.string ⟨#[85]⟩)
  c3 : w.cell? ⟨b, 3, none⟩ = some (.string ⟨#[84]⟩)
  c4 : w.cell? ⟨b, 4, none⟩ = some (.string ⟨#[86]⟩)
  c5 : w.cell? ⟨b, 5, none⟩ = some (.string ⟨#[76]⟩)

abbrev es : Value := .string ⟨#[]⟩
theorem mk3_run (w : World) : (Instr.makeSlice 57 (.int .i64 0) (.int .i64 3)).run Tryz.prog w = .ok (.slice (some ⟨w.heap.size, 0, none⟩) 0 3) (w.alloc (.cells #[es, es, es] 9)) := by
  have h : (Tryz.prog.info? 9).map (fun i => (i.zero, i.size, i.bytes)) = some (some es, 1, 16) := by kernel_rfl
  obtain ⟨i, hi, hzz⟩ := Option.map_eq_some_iff.1 h
  simp only [Prod.mk.injEq] at hzz
  obtain ⟨hz, hs, hb⟩ := hzz
  have hr := run_make (P := Tryz.prog) w 57 9 i es Tryz.underlying57 hi hz .i64 .i64 0 3 (by omega) (by omega) (by rw [hb]; decide) (by decide)
  rw [hs] at hr
  exact hr.trans (by rw [show madeCells es.cells ((3 : Int).toNat * 1) = #[es, es, es] by kernel_rfl]; rfl)
/-- A whole new row is stored. -/
theorem st_new (W : World) (g : Nat) (hg : g = W.heap.size) (cs : Array Value) (T : TypeId) (L : List Value) (hl : L.length = cs.size) (h1 : ∀ v ∈ L, v.oneCell' = true) : (storeCells ⟨g, 0, none⟩ L).run Tryz.prog (W.alloc (.cells cs T)) = .ok () (W.alloc (.cells L.toArray T)) := by
  subst hg
  have h := run_storeCells_at Tryz.prog W.heap.size 0 T L 0 cs (W.alloc (.cells cs T)) (heap_new rfl) (by omega) h1
  rw [World.setRow_alloc_new] at h
  simp only [Nat.zero_add, List.take_zero, List.nil_append, hl] at h
  rw [List.drop_of_length_le (by rw [Array.length_toList]; exact Nat.le_refl _), List.append_nil] at h
  exact h
theorem ix_run (x : UInt8) (w_ : World) : (Instr.index 9 (.string ⟨#[x]⟩) (.int .i64 0)).run Tryz.prog w_ = .ok (.int .u8 (tI x)) w_ := stB_first x [] w_
theorem back_run (x : UInt8) (g : Nat) (w : World) (hg : g = w.heap.size) : (convert 42 9 (.slice (some ⟨g, 0, none⟩) 1 1)).run Tryz.prog (w.alloc (.cells #[.int .u8 (tI x)] 5)) = .ok (.string ⟨#[x]⟩) (w.alloc (.cells #[.int .u8 (tI x)] 5)) := by
  have h : BytesIn (w.alloc (.cells #[.int .u8 (tI x)] 5)) (.slice (some ⟨g, 0, none⟩) 1 1) [x] := ⟨g, 1, rfl, fun j hj => by
    obtain rfl : j = 0 := by simpa using hj
    exact (Blk.new (cs := #[.int .u8 (tI x)]) hg).at rfl⟩
  exact h.conv
theorem eq_nil_run (a : Option Addr) (l c : Nat) (w : World) : (binOp .eql 42 (.slice a l c) (.slice none 0 0)).run Tryz.prog w = .ok (.bool a.isNone) w := by
  have h := run_equal_slice_nil (P := Tryz.prog) w 42 5 a l c Tryz.underlying42
  simp [binOp, h]
/-- The cells of a new byteStringReplacer. -/
noncomputable def rc0 (t : Value) : List Value := Tryz.zeroCells92.toList.set 256 t
theorem rc0_st (W : World) (g c : Nat) (a : Addr) (n : Nat) (hg : g = W.heap.size) : (storeCells ⟨g, 0, none⟩ (Tryz.zeroCells92.toList.set 256 (.slice (some a) n c))).run Tryz.prog (W.alloc (.cells Tryz.zeroCells92 92)) = .ok () (W.alloc (.cells (rc0 (.slice (some a) n c)).toArray 92)) := by
  refine st_new W g hg _ _ _ (by rw [List.length_set, Array.length_toList]) (fun v hv => ?_)
  rcases List.mem_or_eq_of_mem_set hv with h | rfl
  · have hall : Tryz.zeroCells92.toList.all (fun v => v.oneCell') = true := by kernel_rfl
    exact List.all_eq_true.1 hall v h
  · rfl

/-- How far the making is: k letters are laid. -/
structure BSt (w wk : World) (k : Nat) (cs tr : Array Value) : Prop where
  R : Blk wk (w.heap.size + 1) 92 cs
  S : Blk wk w.heap.size 9 tr
  b : Below w.heap.size w wk
  s : wk.heap.size = w.heap.size + 2 + 3 * k
/-- The world behind the append and the store of its result. -/
def wA (w wk : World) (k : Nat) (o : UInt8) : World :=
  (((wk.setCell ⟨w.heap.size, k, none⟩ (.string ⟨#[o]⟩)).setCell ⟨w.heap.size + 1, 256, none⟩ (.slice (some ⟨w.heap.size, 0, none⟩) (k + 1) 3)).alloc (.cells #[.int .u8 (tI o)] 5)).alloc (.cells #[.string ⟨#[o]⟩] 9)
def wN (w wk : World) (k : Nat) (o : UInt8) (nl : List UInt8) : World :=
  (cvW (wA w wk k o) nl).setCell ⟨w.heap.size + 1, o.toNat, none⟩ (.slice (some ⟨w.heap.size + 4 + 3 * k, 0, none⟩) nl.length (cvCap (wA w wk k o) nl))
theorem cvW_old (l : List UInt8) (w : World) {E : TypeId} {g : Nat} {cs : Array Value} (h : Blk w g E cs) : Blk (cvW w l) g E cs := Blk.old (w := w.drew) h
theorem rd_facts {w wk : World} {k : Nat} {cs tr : Array Value} (o : UInt8) (nl : List UInt8) (h : BSt w wk k cs tr) :
    BSt w (wN w wk k o nl) (k + 1) ((cs.setIfInBounds 256 (.slice (some ⟨w.heap.size, 0, none⟩) (k + 1) 3)).setIfInBounds o.toNat (.slice (some ⟨w.heap.size + 4 + 3 * k, 0, none⟩) nl.length (cvCap (wA w wk k o) nl))) (tr.setIfInBounds k (.string ⟨#[o]⟩)) ∧
    Blk (cvW (wA w wk k o) nl) (w.heap.size + 1) 92 (cs.setIfInBounds 256 (.slice (some ⟨w.heap.size, 0, none⟩) (k + 1) 3)) ∧
    RowM (wN w wk k o nl) w.heap.size (w.heap.size + 4 + 3 * k) (cvCap (wA w wk k o) nl) nl := by
  have hs := h.s
  have hsA : (wA w wk k o).heap.size = w.heap.size + 4 + 3 * k := by unfold wA; simp; omega
  have R0 : Blk (wA w wk k o) (w.heap.size + 1) 92 (cs.setIfInBounds 256 (.slice (some ⟨w.heap.size, 0, none⟩) (k + 1) 3)) :=
    Blk.old (Blk.old (Blk.set (Blk.put (by omega) h.R)))
  have S0 : Blk (wA w wk k o) w.heap.size 9 (tr.setIfInBounds k (.string ⟨#[o]⟩)) := Blk.old (Blk.old (Blk.put (by omega) (Blk.set h.S)))
  have k0 : Below w.heap.size w (wA w wk k o) := Below.al (by simp; omega) (Below.al (by simp; omega) (Below.sc (by show _ ≤ w.heap.size + 1; omega) (Below.sc (Nat.le_refl _) h.b)))
  have R1 := cvW_old nl _ R0
  have S1 := cvW_old nl _ S0
  have k1 := cvW_below nl (B := w.heap.size) (by rw [hsA]; omega) k0
  have M := cvW_row nl (wA w wk k o) (B := w.heap.size) (by rw [hsA]; omega)
  have hsC : (cvW (wA w wk k o) nl).heap.size = w.heap.size + 5 + 3 * k := by
    unfold cvW
    simp
    rw [hsA]
    omega
  refine ⟨⟨R1.set, S1.put (by omega), Below.sc (by show _ ≤ w.heap.size + 1; omega) k1, ?_⟩, R1, ?_⟩
  · unfold wN
    rw [World.size_setCell, hsC]
    omega
  · rw [hsA] at M
    refine ⟨M.low, ?_, M.room, fun j hj => ?_, fun j hj => ?_, fun j hj => ?_⟩
    · unfold wN; rw [World.size_setCell, hsC]; omega
    · unfold wN
      rw [cell_put (by omega)]
      exact M.cells j hj
    · unfold wN
      rw [cell_put (by omega)]
      exact M.is j hj
    · unfold wN
      rw [World.frozen?_setCell]
      exact M.fr j hj

/-- Four of the cells. -/
structure Cs (cs : Array Value) (a b c t : Value) : Prop where
  h83 : cs[83]? = some a
  h85 : cs[85]? = some b
  h86 : cs[86]? = some c
  h256 : cs[256]? = some t
theorem set_ne {cs : Array Value} {i j : Nat} {v u : Value} (h : cs[i]? = some u) (hn : j ≠ i) : (cs.setIfInBounds j v)[i]? = some u := by
  rw [Array.getElem?_setIfInBounds_ne hn]; exact h
theorem set_eq {cs : Array Value} {i : Nat} {v u : Value} (h : cs[i]? = some u) : (cs.setIfInBounds i v)[i]? = some v := by
  have : i < cs.size := by
    by_cases hi : i < cs.size
    · exact hi
    · rw [Array.getElem?_eq_none (by omega)] at h; exact absurd h (by simp)
  rw [Array.getElem?_setIfInBounds_self_of_lt this]
theorem Cs.set83 {cs : Array Value} {a b c t v : Value} (h : Cs cs a b c t) : Cs (cs.setIfInBounds 83 v) v b c t := ⟨set_eq h.h83, set_ne h.h85 (by decide), set_ne h.h86 (by decide), set_ne h.h256 (by decide)⟩
theorem Cs.set85 {cs : Array Value} {a b c t v : Value} (h : Cs cs a b c t) : Cs (cs.setIfInBounds 85 v) a v c t := ⟨set_ne h.h83 (by decide), set_eq h.h85, set_ne h.h86 (by decide), set_ne h.h256 (by decide)⟩
theorem Cs.set86 {cs : Array Value} {a b c t v : Value} (h : Cs cs a b c t) : Cs (cs.setIfInBounds 86 v) a b v t := ⟨set_ne h.h83 (by decide), set_ne h.h85 (by decide), set_eq h.h86, set_ne h.h256 (by decide)⟩
theorem Cs.set256 {cs : Array Value} {a b c t v : Value} (h : Cs cs a b c t) : Cs (cs.setIfInBounds 256 v) a b c v := ⟨set_ne h.h83 (by decide), set_ne h.h85 (by decide), set_ne h.h86 (by decide), set_eq h.h256⟩
theorem Cs.new (t : Value) : Cs (rc0 t).toArray (.slice none 0 0) (.slice none 0 0) (.slice none 0 0) t := ⟨by kernel_rfl, by kernel_rfl, by kernel_rfl, by kernel_rfl⟩
/-- A row of bytes that is still there. -/
structure RowY (w : World) (v : Value) (l : List UInt8) : Prop where
  ex : ∃ g c cs fr, v = .slice (some ⟨g, 0, none⟩) l.length c ∧ w.heap[g]? = some (.cells cs 5 fr) ∧ ∀ j (hj : j < l.length), cs[j]? = some (.int .u8 (tI l[j]))
theorem RowY.below {w w' : World} {v : Value} {l : List UInt8} (hb : Below w.heap.size w w') (h : RowY w v l) : RowY w' v l := by
  obtain ⟨g, c, cs, fr, rfl, h1, h2⟩ := h
  exact ⟨g, c, cs, fr, rfl, (hb.block g (lt_of_block h1)).trans h1, h2⟩
theorem RowY.put {w : World} {v u : Value} {l : List UInt8} {g i : Nat} {E : TypeId} {cs : Array Value} (hg : Blk w g E cs) (hE : E ≠ 5) (h : RowY w v l) : RowY (w.setCell ⟨g, i, none⟩ u) v l := by
  obtain ⟨x, c, cs2, fr, rfl, h1, h2⟩ := h
  have hne : g ≠ x := fun e => by
    subst e
    have e2 : some (Obj.cells cs E (0, 0)) = some (Obj.cells cs2 5 fr) := hg.symm.trans h1
    simp only [Option.some.injEq, Obj.cells.injEq] at e2
    exact hE e2.2.1
  refine ⟨x, c, cs2, fr, rfl, ?_, h2⟩
  rw [Below.heap_setCell _ _ _ _ (Ne.symm hne)]
  exact h1
theorem RowY.alloc {w : World} {o : Obj} {v : Value} {l : List UInt8} (h : RowY w v l) : RowY (w.alloc o) v l := h.below ((Below.refl _ _).alloc (Nat.le_refl _) _)
theorem RowY.in {w : World} {v : Value} {l : List UInt8} (h : RowY w v l) : BytesIn w v l := by
  obtain ⟨g, c, cs, fr, rfl, h1, h2⟩ := h
  exact ⟨g, c, rfl, fun j hj => (blk_cell h1).trans (h2 j hj)⟩
theorem cvW_rowY (l : List UInt8) (w : World) : RowY (cvW w l) (.slice (some ⟨w.heap.size, 0, none⟩) l.length (cvCap w l)) l := by
  have hc : l.length ≤ cvCap w l := grownCap_ge _ _ _ _
  have hh : (cvW w l).heap[w.heap.size]? = some (.cells (bytesRow (stB l) (cvCap w l)) 5 ((bytesRow (stB l) (cvCap w l)).size, (bytesRow (stB l) (cvCap w l)).size + 1)) := heap_new (w := w.drew) rfl
  exact ⟨_, _, _, _, rfl, hh, fun j hj => bytesRow_get l _ j hj⟩
theorem rowY_wN {w wk : World} {k : Nat} {cs tr : Array Value} {o : UInt8} {nl : List UInt8} (h : BSt w wk k cs tr) {v : Value} {l : List UInt8} (y : RowY wk v l) : RowY (wN w wk k o nl) v l := by
  have y1 := y.put (i := k) (u := .string ⟨#[o]⟩) h.S (by decide)
  have R1 : Blk (wk.setCell ⟨w.heap.size, k, none⟩ (.string ⟨#[o]⟩)) (w.heap.size + 1) 92 cs := Blk.put (by omega) h.R
  have y2 := (y1.put (i := 256) (u := .slice (some ⟨w.heap.size, 0, none⟩) (k + 1) 3) R1 (by decide)).alloc (o := .cells #[.int .u8 (tI o)] 5)
  have y3 : RowY (wA w wk k o) v l := y2.alloc (o := .cells #[.string ⟨#[o]⟩] 9)
  have y4 : RowY (cvW (wA w wk k o) nl) v l := RowY.alloc (w := (wA w wk k o).drew) ⟨y3.ex⟩
  exact y4.put (rd_facts o nl h).2.1 (by decide)
theorem rowY_new {w wk : World} {k : Nat} {cs tr : Array Value} {o : UInt8} {nl : List UInt8} (h : BSt w wk k cs tr) : RowY (wN w wk k o nl) (.slice (some ⟨w.heap.size + 4 + 3 * k, 0, none⟩) nl.length (cvCap (wA w wk k o) nl)) nl := by
  have hsA : (wA w wk k o).heap.size = w.heap.size + 4 + 3 * k := by have := h.s; unfold wA; simp; omega
  have y := cvW_rowY nl (wA w wk k o)
  rw [hsA] at y
  exact y.put (rd_facts o nl h).2.1 (by decide)

/-- A byteStringReplacer for the letters of free words. -/
structure Rep (w : World) (g : Nat) : Prop where
  ex : ∃ cs tr gs a b c n, Blk w g 92 cs ∧ Cs cs a b c (.slice (some ⟨gs, 0, none⟩) 3 n) ∧ Blk w gs 9 tr ∧ tr.toList.take 3 = [.string ⟨#[86]⟩, .string ⟨#[85]⟩, .string ⟨#[83]⟩] ∧ RowY w a [] ∧ RowY w b [84] ∧ RowY w c [76]
/-- What build gives. -/
def GivesB (w : World) (e : Ending) (w' : World) : Prop := (∃ g, e = .returned (.iface 93 (.pointer (some ⟨g, 0, none⟩))) ∧ w.heap.size ≤ g ∧ Rep w' g) ∧ Below w.heap.size w w'

set_option maxRecDepth 100000 in
set_option maxHeartbeats 4000000 in
theorem build_any (g b c : Nat) (s : Int) (rr : Value) (w : World) (hg : Blk w g 73 #[.int .u32 0, .int .i32 s, .int .u32 0, rr, .slice (some ⟨b, 0, none⟩) 6 c]) (h6 : Six w b) :
    Calls Tryz.prog 61 #[.pointer (some ⟨g, 0, none⟩)] w (GivesB w) := by
  have q4 := hg.at (i := 4) rfl
  have c0 := h6.c0
  have c1 := h6.c1
  have c2 := h6.c2
  have c3 := h6.c3
  have c4 := h6.c4
  have c5 := h6.c5
  have hmk := mk3_run
  have hst := rc0_st (w.alloc (.cells #[es, es, es] 9)) (w.heap.size + 1) 3 ⟨w.heap.size, 0, none⟩ 0 (by simp)
  go_enter Tryz.func61, Tryz.ntmps61
  have HX : Hid (∀ g, w.heap.size ≤ g → ∀ w', Rep w' g → Below w.heap.size w w' → GivesB w (.returned (.iface 93 (.pointer (some ⟨g, 0, none⟩)))) w') := Lib.hid (fun g h1 w' h2 h3 => ⟨⟨g, rfl, h1, h2⟩, h3⟩)
  generalize GivesB w = GF at *
  go_wp2_with fail
  refine wp_loop_rounds 4 ?_
  rw [rounds_succ]
  go_wp2_with fail
  rw [rounds_succ]
  go_wp2_with fail
  rw [rounds_succ]
  go_wp2_with fail
  rw [rounds_succ]
  go_wp2_with fail
  have HC6 := Lib.hid h6
  have lb : b < w.heap.size := block_lt_of_cell c0
  refine forget (fun W_ => BSt w W_ 0 (rc0 (.slice (some ⟨w.heap.size, 0, none⟩) 0 3)).toArray #[es, es, es]) ⟨Blk.new (by simp), Blk.old (Blk.new rfl), (by repeat (first | (with_reducible exact Below.refl _ _) | (with_reducible assumption) | (with_reducible refine Below.drew ?_) | (with_reducible refine Below.drewN ?_) | ((with_reducible refine Below.al ?_ ?_); · first | omega | (simp; done) | (simp; omega)) | ((with_reducible refine Below.sc ?_ ?_); · first | omega | (simp; done) | (simp; omega)) | ((with_reducible refine Below.thru hb ?_ ?_); · first | omega | (simp; done) | (simp; omega)))), by simp⟩ ?_
  rintro w0 st0
  have C0 := Lib.hid (Cs.new (.slice (some ⟨w.heap.size, 0, none⟩) 0 3))
  obtain ⟨cs0, hcs0⟩ : ∃ x, (rc0 (.slice (some ⟨w.heap.size, 0, none⟩) 0 3)).toArray = x := ⟨_, rfl⟩
  rw [hcs0] at st0 C0
  clear c0 c1 c2 c3 c4 c5 hst hmk q4 hg h6 hcs0
  refine wp_loop_rounds 4 ?_
  rw [rounds_succ]
  have HN0 := Lib.hid (rd_facts 86 [76] st0)
  have d4 := (st0.b.cell (p := ⟨b, 4, none⟩) lb).trans HC6.out.c4
  have d5 := (st0.b.cell (p := ⟨b, 5, none⟩) lb).trans HC6.out.c5
  have r1 : w0.cell? ⟨w.heap.size + 1, 86, none⟩ = some (.slice none 0 0) := st0.R.at C0.out.h86
  have r2 : w0.cell? ⟨w.heap.size + 1, 256, none⟩ = some (.slice (some ⟨w.heap.size, 0, none⟩) 0 3) := st0.R.at C0.out.h256
  have f2 : w0.frozen? ⟨w.heap.size + 1, 256, none⟩ = false := st0.R.free 256
  have t1 : w0.cell? ⟨w.heap.size, 0, none⟩ = some es := st0.S.at rfl
  have u1 : w0.frozen? ⟨w.heap.size, 0, none⟩ = false := st0.S.free 0
  have hs : w0.heap.size = w.heap.size + 2 := st0.s
  have i1 : ((({ data := #[86] } : ByteArray)[0]'(by decide)).toNat : Int) = 86 := by decide
  have x1 : ∀ w_ : World, (Instr.index 9 (.string ⟨#[86]⟩) (.int .i64 0)).run Tryz.prog w_ = .ok (.int .u8 86) w_ := ix_run 86
  have b1 : (convert 42 9 (.slice (some ⟨w.heap.size + 2, 0, none⟩) 1 1)).run Tryz.prog (w0.alloc (.cells #[.int .u8 86] 5)) = .ok (.string ⟨#[86]⟩) (w0.alloc (.cells #[.int .u8 86] 5)) := back_run 86 _ w0 hs.symm
  have cvf : ∀ w_ : World, (convert 9 42 (.string ⟨#[76]⟩)).run Tryz.prog w_ = .ok (.slice (some ⟨w_.heap.size, 0, none⟩) 1 (cvCap w_ [76])) (cvW w_ [76]) := cv_run [76]
  have hnil : ∀ w_ : World, (binOp .eql 42 (.slice none 0 0) (.slice none 0 0)).run Tryz.prog w_ = .ok (.bool true) w_ := fun w_ => eq_nil_run none 0 0 w_
  have a1 := HN0.out.2.1.at (i := 86) (v := .slice none 0 0) (C0.out.set256).h86
  have a2 := HN0.out.2.1.free 86
  have e4 : tI 86 = 86 := rfl
  unfold wA at a1 a2
  rw [e4] at a1 a2
  clear e4
  have HY0 : Hid (∃ v, BSt w (wN w w0 0 86 [76]) 1 ((cs0.setIfInBounds 256 (.slice (some ⟨w.heap.size, 0, none⟩) 1 3)).setIfInBounds 86 v) #[.string ⟨#[86]⟩, es, es] ∧ RowY (wN w w0 0 86 [76]) v [76]) := Lib.hid ⟨_, HN0.out.1, rowY_new st0⟩
  clear st0
  go_wp2_with fail
  refine forget (fun W_ => ∃ v cs, BSt w W_ 1 cs #[.string ⟨#[86]⟩, es, es] ∧ Cs cs (.slice none 0 0) (.slice none 0 0) v (.slice (some ⟨w.heap.size, 0, none⟩) 1 3) ∧ RowY W_ v [76]) ?_ ?_
  · obtain ⟨v, h1, h2⟩ := HY0.out
    exact ⟨v, _, h1, (C0.out.set256).set86, h2⟩
  rintro w1 ⟨v0, cs1, st1, C1, y0⟩
  replace C1 := Lib.hid C1
  clear HN0 HY0 d4 d5 r1 r2 f2 t1 u1 hs i1 x1 b1 cvf hnil a1 a2
  rw [rounds_succ]
  have HN1 := Lib.hid (rd_facts 85 [84] st1)
  have d2 := (st1.b.cell (p := ⟨b, 2, none⟩) lb).trans HC6.out.c2
  have d3 := (st1.b.cell (p := ⟨b, 3, none⟩) lb).trans HC6.out.c3
  have r1 : w1.cell? ⟨w.heap.size + 1, 85, none⟩ = some (.slice none 0 0) := st1.R.at C1.out.h85
  have r2 : w1.cell? ⟨w.heap.size + 1, 256, none⟩ = some (.slice (some ⟨w.heap.size, 0, none⟩) 1 3) := st1.R.at C1.out.h256
  have f2 : w1.frozen? ⟨w.heap.size + 1, 256, none⟩ = false := st1.R.free 256
  have t1 : w1.cell? ⟨w.heap.size, 1, none⟩ = some es := st1.S.at rfl
  have u1 : w1.frozen? ⟨w.heap.size, 1, none⟩ = false := st1.S.free 1
  have hs : w1.heap.size = w.heap.size + 5 := st1.s
  have i1 : ((({ data := #[85] } : ByteArray)[0]'(by decide)).toNat : Int) = 85 := by decide
  have x1 : ∀ w_ : World, (Instr.index 9 (.string ⟨#[85]⟩) (.int .i64 0)).run Tryz.prog w_ = .ok (.int .u8 85) w_ := ix_run 85
  have b1 : (convert 42 9 (.slice (some ⟨w.heap.size + 5, 0, none⟩) 1 1)).run Tryz.prog (w1.alloc (.cells #[.int .u8 85] 5)) = .ok (.string ⟨#[85]⟩) (w1.alloc (.cells #[.int .u8 85] 5)) := back_run 85 _ w1 hs.symm
  have cvf : ∀ w_ : World, (convert 9 42 (.string ⟨#[84]⟩)).run Tryz.prog w_ = .ok (.slice (some ⟨w_.heap.size, 0, none⟩) 1 (cvCap w_ [84])) (cvW w_ [84]) := cv_run [84]
  have hnil : ∀ w_ : World, (binOp .eql 42 (.slice none 0 0) (.slice none 0 0)).run Tryz.prog w_ = .ok (.bool true) w_ := fun w_ => eq_nil_run none 0 0 w_
  have a1 := HN1.out.2.1.at (i := 85) (v := .slice none 0 0) (C1.out.set256).h85
  have a2 := HN1.out.2.1.free 85
  have e4 : tI 85 = 85 := rfl
  unfold wA at a1 a2
  rw [e4] at a1 a2
  clear e4
  have HY1 : Hid (∃ v, BSt w (wN w w1 1 85 [84]) 2 ((cs1.setIfInBounds 256 (.slice (some ⟨w.heap.size, 0, none⟩) 2 3)).setIfInBounds 85 v) #[.string ⟨#[86]⟩, .string ⟨#[85]⟩, es] ∧ RowY (wN w w1 1 85 [84]) v [84] ∧ RowY (wN w w1 1 85 [84]) v0 [76]) := Lib.hid ⟨_, HN1.out.1, rowY_new st1, rowY_wN st1 y0⟩
  clear st1
  go_wp2_with fail
  refine forget (fun W_ => ∃ v cs, BSt w W_ 2 cs #[.string ⟨#[86]⟩, .string ⟨#[85]⟩, es] ∧ Cs cs (.slice none 0 0) v v0 (.slice (some ⟨w.heap.size, 0, none⟩) 2 3) ∧ RowY W_ v [84] ∧ RowY W_ v0 [76]) ?_ ?_
  · obtain ⟨v, h1, h2, h3⟩ := HY1.out
    exact ⟨v, _, h1, (C1.out.set256).set85, h2, h3⟩
  rintro w2 ⟨v1, cs2, st2, C2, y1, y0⟩
  replace C2 := Lib.hid C2
  clear HN1 HY1 d2 d3 r1 r2 f2 t1 u1 hs i1 x1 b1 cvf hnil a1 a2
  rw [rounds_succ]
  have HN2 := Lib.hid (rd_facts 83 [] st2)
  have d0 := (st2.b.cell (p := ⟨b, 0, none⟩) lb).trans HC6.out.c0
  have d1 := (st2.b.cell (p := ⟨b, 1, none⟩) lb).trans HC6.out.c1
  have r1 : w2.cell? ⟨w.heap.size + 1, 83, none⟩ = some (.slice none 0 0) := st2.R.at C2.out.h83
  have r2 : w2.cell? ⟨w.heap.size + 1, 256, none⟩ = some (.slice (some ⟨w.heap.size, 0, none⟩) 2 3) := st2.R.at C2.out.h256
  have f2 : w2.frozen? ⟨w.heap.size + 1, 256, none⟩ = false := st2.R.free 256
  have t1 : w2.cell? ⟨w.heap.size, 2, none⟩ = some es := st2.S.at rfl
  have u1 : w2.frozen? ⟨w.heap.size, 2, none⟩ = false := st2.S.free 2
  have hs : w2.heap.size = w.heap.size + 8 := st2.s
  have i1 : ((({ data := #[83] } : ByteArray)[0]'(by decide)).toNat : Int) = 83 := by decide
  have x1 : ∀ w_ : World, (Instr.index 9 (.string ⟨#[83]⟩) (.int .i64 0)).run Tryz.prog w_ = .ok (.int .u8 83) w_ := ix_run 83
  have b1 : (convert 42 9 (.slice (some ⟨w.heap.size + 8, 0, none⟩) 1 1)).run Tryz.prog (w2.alloc (.cells #[.int .u8 83] 5)) = .ok (.string ⟨#[83]⟩) (w2.alloc (.cells #[.int .u8 83] 5)) := back_run 83 _ w2 hs.symm
  have cvf : ∀ w_ : World, (convert 9 42 (.string ⟨#[]⟩)).run Tryz.prog w_ = .ok (.slice (some ⟨w_.heap.size, 0, none⟩) 0 (cvCap w_ [])) (cvW w_ []) := cv_run []
  have hnil : ∀ w_ : World, (binOp .eql 42 (.slice none 0 0) (.slice none 0 0)).run Tryz.prog w_ = .ok (.bool true) w_ := fun w_ => eq_nil_run none 0 0 w_
  have a1 := HN2.out.2.1.at (i := 83) (v := .slice none 0 0) (C2.out.set256).h83
  have a2 := HN2.out.2.1.free 83
  have e4 : tI 83 = 83 := rfl
  unfold wA at a1 a2
  rw [e4] at a1 a2
  clear e4
  have HY2 : Hid (∃ v, BSt w (wN w w2 2 83 []) 3 ((cs2.setIfInBounds 256 (.slice (some ⟨w.heap.size, 0, none⟩) 3 3)).setIfInBounds 83 v) #[.string ⟨#[86]⟩, .string ⟨#[85]⟩, .string ⟨#[83]⟩] ∧ RowY (wN w w2 2 83 []) v [] ∧ RowY (wN w w2 2 83 []) v0 [76] ∧ RowY (wN w w2 2 83 []) v1 [84]) := Lib.hid ⟨_, HN2.out.1, rowY_new st2, rowY_wN st2 y0, rowY_wN st2 y1⟩
  clear st2
  go_wp2_with fail
  refine forget (fun W_ => ∃ v cs, BSt w W_ 3 cs #[.string ⟨#[86]⟩, .string ⟨#[85]⟩, .string ⟨#[83]⟩] ∧ Cs cs v v1 v0 (.slice (some ⟨w.heap.size, 0, none⟩) 3 3) ∧ RowY W_ v [] ∧ RowY W_ v0 [76] ∧ RowY W_ v1 [84]) ?_ ?_
  · obtain ⟨v, h1, h2, h3, h4⟩ := HY2.out
    exact ⟨v, _, h1, (C2.out.set256).set83, h2, h3, h4⟩
  rintro w3 ⟨v2, cs3, st3, C3, y2, y0, y1⟩
  replace C3 := Lib.hid C3
  clear HN2 HY2 d0 d1 r1 r2 f2 t1 u1 hs i1 x1 b1 cvf hnil a1 a2
  rw [rounds_succ]
  go_wp2_with fail
  exact HX.out (w.heap.size + 1) (by omega) _ ⟨cs3, _, w.heap.size, v2, v1, v0, 3, st3.R, C3.out, st3.S, rfl, y2, y1, y0⟩ st3.b

end Go.Proofs.YtfjmbpbilfhfbaaGreat
