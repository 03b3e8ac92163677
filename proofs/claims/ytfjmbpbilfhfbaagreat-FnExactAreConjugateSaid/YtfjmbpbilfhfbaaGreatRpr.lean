/- strings.NewReplacer and Replace. -/
import Derived.Test.YtfjmbpbilfhfbaaGreatRps
namespace Go.Proofs.YtfjmbpbilfhfbaaGreat
open Go.RowKit
set_option linter.unusedSimpArgs false

def encS : Enc ByteArray := ⟨1, fun x => [.string x], fun _ => rfl, by decide, fun x u hu => by simp at hu; subst hu; rfl⟩
def six : List ByteArray := [⟨#[83]⟩, ⟨#[]⟩, ⟨#[85]⟩, ⟨#[84]⟩, ⟨#[86]⟩, ⟨#[76]⟩]
theorem Six.of {w : World} {B b c : Nat} (h : OwnK encS 9 w B (.slice (some ⟨b, 0, none⟩) 6 c) six) : Six w b :=
  ⟨OwnK.at (j := 0) (i := 0) h rfl rfl rfl, OwnK.at (j := 1) (i := 0) h rfl rfl rfl, OwnK.at (j := 2) (i := 0) h rfl rfl rfl, OwnK.at (j := 3) (i := 0) h rfl rfl rfl, OwnK.at (j := 4) (i := 0) h rfl rfl rfl, OwnK.at (j := 5) (i := 0) h rfl rfl rfl⟩
/-- A new Replacer. -/
structure NewR (w0 w : World) (g : Nat) : Prop where
  ex : ∃ b c, Blk w g 73 #[.int .u32 0, .int .i32 0, .int .u32 0, .nilIface, .slice (some ⟨b, 0, none⟩) 6 c] ∧ Six w b
  low : w0.heap.size ≤ g
  b : Below w0.heap.size w0 w
def GivesN (w0 : World) (e : Ending) (w' : World) : Prop := ∃ g, e = .returned (.pointer (some ⟨g, 0, none⟩)) ∧ NewR w0 w' g

theorem Six.below {w w' : World} {b : Nat} (h : Six w b) (hb : Below w.heap.size w w') (hl : b < w.heap.size) : Six w' b :=
  ⟨(hb.cell (p := ⟨b, 0, none⟩) hl).trans h.c0, (hb.cell (p := ⟨b, 1, none⟩) hl).trans h.c1, (hb.cell (p := ⟨b, 2, none⟩) hl).trans h.c2, (hb.cell (p := ⟨b, 3, none⟩) hl).trans h.c3, (hb.cell (p := ⟨b, 4, none⟩) hl).trans h.c4, (hb.cell (p := ⟨b, 5, none⟩) hl).trans h.c5⟩
theorem six_cells {w : World} {b : Nat} (h : Six w b) : ∀ j u, (six.flatMap encS.enc)[j]? = some u → w.cell? ((⟨b, 0, none⟩ : Addr).add j) = some u := fun j u hu => by
  rw [addr_add0]
  match j, hu with
  | 0, hu => exact h.c0.trans hu
  | 1, hu => exact h.c1.trans hu
  | 2, hu => exact h.c2.trans hu
  | 3, hu => exact h.c3.trans hu
  | 4, hu => exact h.c4.trans hu
  | 5, hu => exact h.c5.trans hu
  | _ + 6, hu => exact absurd hu (by simp [six, encS])

set_option maxRecDepth 100000 in
set_option maxHeartbeats 4000000 in
theorem newReplacer_any (b c : Nat) (w : World) (h : Six w b) :
    Calls Tryz.prog 37 #[.slice (some ⟨b, 0, none⟩) 6 c] w (GivesN w) := by
  have HC := Lib.hid (six_cells h)
  have hinf : (Tryz.prog.info? 9).map (fun i => (i.zero, i.size, i.bytes)) = some (some es, 1, 16) := by kernel_rfl
  obtain ⟨i0, hi, hzz⟩ := Option.map_eq_some_iff.1 hinf
  simp only [Prod.mk.injEq] at hzz
  obtain ⟨hz0, hz1, hz2⟩ := hzz
  have HI := Lib.hid (And.intro hi (And.intro hz0 (And.intro hz1 hz2)))
  clear hi hz0 hz1 hz2 hinf h
  go_enter Tryz.func37, Tryz.ntmps37
  have HX : Hid (∀ g w', NewR w w' g → GivesN w (.returned (.pointer (some ⟨g, 0, none⟩))) w') := Lib.hid (fun g w' h => ⟨g, rfl, h⟩)
  generalize GivesN w = GF at *
  go_wp2_with (at_builtin; refine wpList_append_own w rfl _ _ 57 rfl w.heap.size 9 i0 es 1 16 Tryz.underlying57 HI.out.1 HI.out.2.1 HI.out.2.2.1 HI.out.2.2.2 rfl (by decide) (.slice none 0 0) 0 [] rfl (World.ownsRow_nil _ _ _ _) ⟨b, 0, none⟩ 6 c (six.flatMap encS.enc) rfl rfl HC.out ?h1 ?h2 ?h3 (Nat.le_refl _) ?hk)
  case h1 => decide
  case h2 => decide
  case h3 => decide
  case hk =>
    intro v w2 hO hg _
    have O2 : OwnK encS 9 w2 w.heap.size v six := hO
    rcases O2.form with ⟨rfl, e⟩ | ⟨g2, c2, rfl, hB, hlt, -⟩
    · cases e
    · have S2 := Six.of O2
      have kw : Below w.heap.size w w2 := Below.grownK hg (OwnK.nil (e := encS) (E := 9) w w.heap.size) (Nat.le_refl _) (Nat.le_refl _) (Below.refl _ _)
      have s2 := kw.size
      clear hO hg O2 HC
      go_wp2_with fail
      exact HX.out w2.heap.size _ ⟨⟨g2, c2, Blk.new rfl, S2.below (Below.al (Nat.le_refl _) (Below.refl _ _)) (block_lt_of_cell S2.c0)⟩, s2, Below.al s2 kw⟩


set_option maxRecDepth 100000 in
set_option maxHeartbeats 4000000 in
theorem replacer_any (g : Nat) (l : List UInt8) (w0 w : World) (h : NewR w0 w g) (hl : Let3 l) (h0 : 0 < l.length) (hm : l.length ≤ 200) :
    Calls Tryz.prog 38 #[.pointer (some ⟨g, 0, none⟩), .string (stB l)] w (fun e w' => e = .returned (.string (stB (ltr l))) ∧ Below w0.heap.size w0 w') := by
  obtain ⟨⟨b, c, hG, h6⟩, hgl, hB⟩ := h
  have HD := Lib.hid (do_first g b c .nilIface w0 w hB hgl hG h6)
  clear hG h6
  have hmf : ∀ (fn : Fn) (first cap : Array Value) (w : World), (Instr.makeFunc fn first cap).run Tryz.prog w = .ok (.func fn first cap) w := fun _ _ _ _ => rfl
  go_enter Tryz.func38, Tryz.ntmps38
  go_wp2_with fail
  refine HD.out.mono ?_
  rintro e w2 ⟨rfl, ⟨r, G2, HR⟩, k2⟩
  have HZ := Lib.hid (bsr_any r l w2 HR hl h0 hm)
  have q3 := G2.at (i := 3) rfl
  clear HD HR hl h0 hm
  have hmd : ∀ w_ : World, (method 269 93 (.pointer (some ⟨r, 0, none⟩)) "Replace").run Tryz.prog w_ = .ok (125, .pointer (some ⟨r, 0, none⟩)) w_ := fun _ => by kernel_rfl
  go_wp2_with fail
  refine HZ.out.mono ?_
  rintro e w3 ⟨rfl, hb⟩
  have k3 : Below w0.heap.size w0 w3 := Below.thru hb k2.size k2
  clear hb hmd
  go_wp2
  go_ret
  exact ⟨rfl, k3⟩

end Go.Proofs.YtfjmbpbilfhfbaaGreat
