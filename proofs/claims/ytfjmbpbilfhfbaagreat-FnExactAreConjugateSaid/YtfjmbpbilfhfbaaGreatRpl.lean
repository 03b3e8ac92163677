/- strings.Replacer: its table is made once. -/
import Derived.Test.YtfjmbpbilfhfbaaGreatBld
namespace Go.Proofs.YtfjmbpbilfhfbaaGreat
open Go.RowKit
set_option linter.unusedSimpArgs false

theorem Blk.ne_type {w : World} {g h : Nat} {E F : TypeId} {cs ds : Array Value} (a : Blk w g E cs) (b : Blk w h F ds) (hn : E ≠ F) : g ≠ h := fun e => by
  subst e
  have e2 : some (Obj.cells cs E (0, 0)) = some (Obj.cells ds F (0, 0)) := a.symm.trans b
  simp only [Option.some.injEq, Obj.cells.injEq] at e2
  exact hn e2.2.1
theorem Rep.put {w : World} {r g i : Nat} {u : Value} {cs : Array Value} (hg : Blk w g 73 cs) (h : Rep w r) : Rep (w.setCell ⟨g, i, none⟩ u) r := by
  obtain ⟨cs2, tr, gs, a, b, c, n, h1, h2, h3, h4, h5, h6, h7⟩ := h
  exact ⟨cs2, tr, gs, a, b, c, n, h1.put (h1.ne_type hg (by decide)), h2, h3.put (h3.ne_type hg (by decide)), h4, h5.put hg (by decide), h6.put hg (by decide), h7.put hg (by decide)⟩
theorem Rep.drew {w : World} {r : Nat} (h : Rep w r) : Rep w.drew r := by
  obtain ⟨cs2, tr, gs, a, b, c, n, h1, h2, h3, h4, h5, h6, h7⟩ := h
  exact ⟨cs2, tr, gs, a, b, c, n, h1, h2, h3, h4, ⟨h5.ex⟩, ⟨h6.ex⟩, ⟨h7.ex⟩⟩
theorem Rep.below {w w' : World} {r : Nat} (hb : Below w.heap.size w w') (h : Rep w r) : Rep w' r := by
  obtain ⟨cs2, tr, gs, a, b, c, n, h1, h2, h3, h4, h5, h6, h7⟩ := h
  exact ⟨cs2, tr, gs, a, b, c, n, h1.below hb h1.lt, h2, h3.below hb h3.lt, h4, h5.below hb, h6.below hb, h7.below hb⟩
/-- What a Replacer's block holds once the table is made. -/
abbrev rpl (d x : Int) (r : Nat) (o : Value) : Array Value := #[.int .u32 d, .int .i32 x, .int .u32 0, .iface 93 (.pointer (some ⟨r, 0, none⟩)), o]
structure Made (w0 w : World) (g : Nat) (d x : Int) : Prop where
  ex : ∃ r, Blk w g 73 (rpl d x r (.slice none 0 0)) ∧ Rep w r
  b : Below w0.heap.size w0 w
def GivesO (w0 : World) (g : Nat) (d x : Int) (e : Ending) (w' : World) : Prop := e = .returned (.tuple #[]) ∧ Made w0 w' g d x

set_option maxRecDepth 100000 in
set_option maxHeartbeats 4000000 in
theorem buildOnce_any (g b c : Nat) (rr : Value) (w0 w : World) (hB : Below w0.heap.size w0 w) (hgl : w0.heap.size ≤ g) (hg : Blk w g 73 #[.int .u32 0, .int .i32 1, .int .u32 0, rr, .slice (some ⟨b, 0, none⟩) 6 c]) (h6 : Six w b) :
    Calls Tryz.prog 52 #[.pointer (some ⟨g, 0, none⟩)] w (GivesO w0 g 0 1) := by
  have hglt := hg.lt
  have HG := Lib.hid hg
  have HB := Lib.hid (build_any g b c 1 rr w hg h6)
  clear hg h6
  go_enter Tryz.func52, Tryz.ntmps52
  go_wp2_with fail
  refine HB.out.mono ?_
  rintro e w2 ⟨⟨r, rfl, hr, HR⟩, hb⟩
  have G2 := HG.out.below hb hglt
  have k2 : Below w0.heap.size w0 w2 := Below.thru hb hB.size hB
  have q3 := G2.at (i := 3) rfl
  have q4 := G2.at (i := 4) rfl
  have f3 := G2.free 3
  have f4 := G2.free 4
  have HRR := Lib.hid (show Made w0 ((w2.setCell ⟨g, 3, none⟩ (.iface 93 (.pointer (some ⟨r, 0, none⟩)))).setCell ⟨g, 4, none⟩ (.slice none 0 0)) g 0 1 from
    ⟨⟨r, G2.set.set, (HR.put G2).put G2.set⟩, Below.sc hgl (Below.sc hgl k2)⟩)
  clear hb HB HG
  go_wp2_with fail
  go_end0
  exact ⟨rfl, HRR.out⟩

theorem Six.put {w : World} {b g i : Nat} {u : Value} (h : Six w b) (hn : b ≠ g) : Six (w.setCell ⟨g, i, none⟩ u) b :=
  ⟨(cell_put hn).trans h.c0, (cell_put hn).trans h.c1, (cell_put hn).trans h.c2, (cell_put hn).trans h.c3, (cell_put hn).trans h.c4, (cell_put hn).trans h.c5⟩

set_option maxRecDepth 100000 in
set_option maxHeartbeats 4000000 in
theorem slow_first (g b c : Nat) (rr : Value) (w0 w : World) (hB : Below w0.heap.size w0 w) (hgl : w0.heap.size ≤ g) (hg : Blk w g 73 #[.int .u32 0, .int .i32 0, .int .u32 0, rr, .slice (some ⟨b, 0, none⟩) 6 c]) (h6 : Six w b) :
    Calls Tryz.prog 60 #[.pointer (some ⟨g, 0, none⟩), .func (.func 52) #[.pointer (some ⟨g, 0, none⟩)] #[]] w (GivesO w0 g 1 0) := by
  have hbg : b ≠ g := fun e => by
    subst e
    have e2 := (hg.at (i := 0) rfl).symm.trans h6.c0
    simp at e2
  have G1 : Blk (w.setCell ⟨g, 1, none⟩ (.int .i32 1)) g 73 #[.int .u32 0, .int .i32 1, .int .u32 0, rr, .slice (some ⟨b, 0, none⟩) 6 c] := hg.set
  have HO := Lib.hid (buildOnce_any g b c rr w0 _ (Below.sc hgl hB) hgl G1 (h6.put hbg))
  have q1 := hg.at (i := 1) rfl
  have f1 := hg.free 1
  have hl := run_call_load (P := Tryz.prog) Tryz.func63 (by kernel_rfl) (by kernel_rfl) (by kernel_rfl) .u32 (by kernel_rfl) (w := w.setCell ⟨g, 1, none⟩ (.int .i32 1)) (a := ⟨g, 0, none⟩) (x := 0) (G1.at (i := 0) rfl)
  have hnot : ∀ (x : Bool) (w : World), (Op.unary .not (.bool x)).run Tryz.prog w = .ok (.bool (!x)) w := fun _ _ => rfl
  clear hg h6 G1
  go_enter_defers Tryz.func60, Tryz.ntmps60
  go_wp2_with (go_at_call 64; refine (lock_free ⟨g, 1, none⟩ _ q1 f1).mono ?_; rintro e w' ⟨rfl, rfl⟩)
  go_wp2_with (first | (go_at_call 52; refine HO.out.mono ?_; rintro e w2 ⟨rfl, M⟩) | (go_at_call 59; go_in))
  obtain ⟨⟨r, G2, HR⟩, k2⟩ := M
  have E0 : w2.cell? ⟨g, 0, none⟩ = some (.int .u32 0) := G2.at (i := 0) rfl
  have E1 : Blk (w2.drew.setCell ⟨g, 0, none⟩ (.int .u32 1)) g 73 (rpl 1 1 r (.slice none 0 0)) := Blk.set (w := w2.drew) G2
  have E2 : Blk ((w2.drew.setCell ⟨g, 0, none⟩ (.int .u32 1)).setCell ⟨g, 1, none⟩ (.int .i32 0)) g 73 (rpl 1 0 r (.slice none 0 0)) := E1.set
  have R2 := Rep.put (i := 1) (u := .int .i32 0) E1 (Rep.put (w := w2.drew) (i := 0) (u := .int .u32 1) (cs := rpl 0 1 r (.slice none 0 0)) G2 HR.drew)
  have kd : Below w0.heap.size w0 w2.drew := Below.trans k2 ⟨rfl, rfl, rfl, Nat.le_refl _, fun _ _ => rfl⟩
  have k3 : Below w0.heap.size w0 ((w2.drew.setCell ⟨g, 0, none⟩ (.int .u32 1)).setCell ⟨g, 1, none⟩ (.int .i32 0)) := Below.sc hgl (Below.sc hgl kd)
  refine leaves_cons (f := 66) (args := #[.pointer (some ⟨g, 0, none⟩), .bool true]) (by simp) (by simp [go_sem]) ?_
  refine (store_deferred ⟨g, 0, none⟩ (.int .u32 0) .returning _ E0 (G2.free 0)).mono ?_
  rintro e u' w'' ⟨rfl, rfl, rfl⟩
  refine leaves_cons (f := 65) (args := #[.pointer (some ⟨g, 1, none⟩)]) (by simp [settle]) (by simp [go_sem]) ?_
  refine (unlock_deferred ⟨g, 1, none⟩ _ _ (E1.at (i := 1) rfl) (E1.free 1)).mono ?_
  rintro e u' w'' ⟨rfl, rfl, rfl⟩
  have HF : GivesO w0 g 1 0 (.returned (.tuple #[])) ((w2.drew.setCell ⟨g, 0, none⟩ (.int .u32 1)).setCell ⟨g, 1, none⟩ (.int .i32 0)) := ⟨rfl, ⟨r, E2, R2⟩, k3⟩
  generalize GivesO w0 g 1 0 = GF at *
  simp [Leaves, settle, results, Tryz.results60]
  trace_state
  exact HF

set_option maxRecDepth 100000 in
set_option maxHeartbeats 4000000 in
theorem do_first (g b c : Nat) (rr : Value) (w0 w : World) (hB : Below w0.heap.size w0 w) (hgl : w0.heap.size ≤ g) (hg : Blk w g 73 #[.int .u32 0, .int .i32 0, .int .u32 0, rr, .slice (some ⟨b, 0, none⟩) 6 c]) (h6 : Six w b) :
    Calls Tryz.prog 51 #[.pointer (some ⟨g, 0, none⟩), .func (.func 52) #[.pointer (some ⟨g, 0, none⟩)] #[]] w (GivesO w0 g 1 0) := by
  have HS := Lib.hid (slow_first g b c rr w0 w hB hgl hg h6)
  have hl := run_call_load (P := Tryz.prog) Tryz.func63 (by kernel_rfl) (by kernel_rfl) (by kernel_rfl) .u32 (by kernel_rfl) (w := w) (a := ⟨g, 0, none⟩) (x := 0) (hg.at (i := 0) rfl)
  have hnot : ∀ (x : Bool) (w : World), (Op.unary .not (.bool x)).run Tryz.prog w = .ok (.bool (!x)) w := fun _ _ => rfl
  clear hg h6
  go_enter Tryz.func51, Tryz.ntmps51
  go_wp2_with (first | (go_at_call 60; refine HS.out.mono ?_; rintro e w' ⟨rfl, M⟩) | (go_at_call 59; go_in))
  go_end0
  exact ⟨rfl, M⟩

end Go.Proofs.YtfjmbpbilfhfbaaGreat
