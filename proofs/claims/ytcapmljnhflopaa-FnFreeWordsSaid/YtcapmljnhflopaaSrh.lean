/- A source of numbers that follow from a code, walked by hand: contracts that leave the number open. -/
import Derived.Test.YtcapmljnhflopaaSl
import Derived.Test.YtcapmljnhflopaaTail
import Derived.Laws.BitsLemmas
namespace Go.Proofs.Ytcapmljnhflopaa
open Go.RowKit
set_option linter.unusedSimpArgs false

theorem wrap_u64 (n : Int) : IntKind.u64.wrap n = n % 18446744073709551616 := by simp [IntKind.wrap, IntKind.bits, IntKind.signed]
theorem mask24 (y : Int) : 0 ≤ Go.bits .and .u64 (IntKind.u64.wrap y / 8589934592) 16777215 ∧ Go.bits .and .u64 (IntKind.u64.wrap y / 8589934592) 16777215 < 16777216 := by
  have h0 : 0 ≤ IntKind.u64.wrap y ∧ IntKind.u64.wrap y < 18446744073709551616 := by rw [wrap_u64]; omega
  have e := bits_mask .u64 31 (by decide) (fun n h0 h1 => by rw [wrap_u64]; omega) 24 (by decide) (IntKind.u64.wrap y / 8589934592) (by omega) (by omega)
  rw [show ((2 : Int) ^ 24 - 1) = 16777215 from rfl] at e
  rw [e]
  omega

/-- What the source's code is. -/
def CodeOk (code : List Int) : Prop := code.length ≤ 4096 ∧ ∀ x ∈ code, 0 ≤ x ∧ x ≤ 255
theorem CodeOk.at {code : List Int} (h : CodeOk code) (i : Nat) (hi : i < code.length) : 0 ≤ code[i] ∧ code[i] ≤ 255 := h.2 _ (List.getElem_mem _)

theorem cell_laterS {W : World} {a : Addr} {v : Value} (h : W.cell? a = some v) (x : Later W) : x.w.cell? a = some v := by
  rw [x.h.cell (block_lt_of_cell h :)]
  exact h
/-- All blocks but g stand, none is lost. -/
structure KeepB (w w' : World) (g : Nat) : Prop where
  size : w.heap.size ≤ w'.heap.size
  block : ∀ k, k < w.heap.size → k ≠ g → w'.heap[k]? = w.heap[k]?
theorem KeepB.refl (w : World) (g : Nat) : KeepB w w g := ⟨Nat.le_refl _, fun _ _ _ => rfl⟩
theorem KeepB.trans {w w1 w2 : World} {g : Nat} (h : KeepB w w1 g) (k : KeepB w1 w2 g) : KeepB w w2 g :=
  ⟨Nat.le_trans h.size k.size, fun i hi hn => (k.block i (Nat.lt_of_lt_of_le hi h.size) hn).trans (h.block i hi hn)⟩
theorem KeepB.of_below {w w1 : World} (hb : Below w.heap.size w w1) (g : Nat) : KeepB w w1 g := ⟨hb.size, fun i hi _ => hb.block i hi⟩
theorem KeepB.put {w w1 : World} {g i : Nat} {u : Value} (h : KeepB w w1 g) : KeepB w (w1.setCell ⟨g, i, none⟩ u) g :=
  ⟨by simp [World.setCell]; exact h.size, fun k hk hn => (Below.heap_setCell _ _ _ _ hn).trans (h.block k hk hn)⟩
theorem Blk.keep {w w1 : World} {g b : Nat} {E : TypeId} {cs : Array Value} (hk : KeepB w w1 g) (hn : b ≠ g) (h : Blk w b E cs) : Blk w1 b E cs := (hk.block b h.lt hn).trans h

/-- The cells of a source. -/
abbrev scs (ao : Option Addr) (n c : Nat) (a h : Int) : Array Value := #[.slice ao n c, .int .i64 a, .int .u64 h]
/-- The state of a source of the type E, made since w0. -/
def SrcE (E : TypeId) (w0 W : World) (g : Nat) (code : List Int) : Prop :=
  w0.heap.size ≤ g ∧ CodeOk code ∧ ∃ (ao : Option Addr) (c a : Nat) (h : Int), Blk W g E (scs ao code.length c a h) ∧ a ≤ code.length ∧ SlIn w0 .u8 (.slice ao code.length c) code
theorem SrcE.below {E : TypeId} {w0 W W1 : World} {g : Nat} {code : List Int} (hb : Below W.heap.size W W1) (h : SrcE E w0 W g code) : SrcE E w0 W1 g code := by
  obtain ⟨h0, hc, ao, c, a, x, h1, h2⟩ := h
  exact ⟨h0, hc, ao, c, a, x, h1.below hb h1.lt, h2⟩
theorem SrcE.put {E : TypeId} {w0 W : World} {g b i : Nat} {u : Value} {code : List Int} (hn : b ≠ g) (h : SrcE E w0 W g code) : SrcE E w0 (W.setCell ⟨b, i, none⟩ u) g code := by
  obtain ⟨h0, hc, ao, c, a, x, h1, h2⟩ := h
  exact ⟨h0, hc, ao, c, a, x, h1.put (Ne.symm hn), h2⟩
theorem SrcE.lt {E : TypeId} {w0 W : World} {g : Nat} {code : List Int} (h : SrcE E w0 W g code) : w0.heap.size ≤ g ∧ g < W.heap.size := by
  obtain ⟨h0, hc, ao, c, a, x, h1, h2⟩ := h
  exact ⟨h0, h1.lt⟩
theorem SrcE.ne {E E' : TypeId} {w0 W : World} {g b : Nat} {cs : Array Value} {code : List Int} (h : SrcE E w0 W g code) (hB : Blk W b E' cs) (hE : E' ≠ E) : b ≠ g := by
  obtain ⟨h0, hc, ao, c, a, x, h1, h2⟩ := h
  intro e
  subst e
  have q := h1.symm.trans hB
  simp only [Option.some.injEq, Obj.cells.injEq] at q
  exact hE q.2.1.symm
/-- What a call that draws leaves: the state, what lay before w0, all blocks but the state's. -/
def KptE (E : TypeId) (w0 w w' : World) (g : Nat) (code : List Int) : Prop := SrcE E w0 w' g code ∧ Below w0.heap.size w0 w' ∧ KeepB w w' g
theorem KptE.refl {E : TypeId} {w0 w : World} {g : Nat} {code : List Int} (hS : SrcE E w0 w g code) (hB : Below w0.heap.size w0 w) : KptE E w0 w w g code := ⟨hS, hB, KeepB.refl _ _⟩
theorem KptE.below {E : TypeId} {w0 w W W1 : World} {g : Nat} {code : List Int} (hb : Below W.heap.size W W1) (h : KptE E w0 w W g code) : KptE E w0 w W1 g code :=
  ⟨h.1.below hb, Below.thru hb h.2.1.size h.2.1, h.2.2.trans (KeepB.of_below hb g)⟩
theorem KptE.put {E : TypeId} {w0 w W : World} {g b i : Nat} {u : Value} {code : List Int} (hb : w.heap.size ≤ b) (hg : g < w.heap.size) (h : KptE E w0 w W g code) : KptE E w0 w (W.setCell ⟨b, i, none⟩ u) g code := by
  have hl := h.1.lt
  refine ⟨h.1.put (by omega), Below.sc (by show w0.heap.size ≤ b; omega) h.2.1, ⟨by simp [World.setCell]; exact h.2.2.size, fun k hk hn => (Below.heap_setCell _ _ _ _ (by show k ≠ b; omega)).trans (h.2.2.block k hk hn)⟩⟩
theorem KptE.step {E : TypeId} {w0 w W W1 : World} {g : Nat} {code : List Int} (h : KptE E w0 w W g code) (k : KptE E w0 W W1 g code) : KptE E w0 w W1 g code := ⟨k.1, k.2.1, h.2.2.trans k.2.2⟩
theorem KptE.size {E : TypeId} {w0 w W : World} {g : Nat} {code : List Int} (h : KptE E w0 w W g code) : w.heap.size ≤ W.heap.size := h.2.2.size

abbrev Src (w0 W : World) (g : Nat) (code : List Int) : Prop := SrcE 56 w0 W g code
abbrev Kpt (w0 w w' : World) (g : Nat) (code : List Int) : Prop := KptE 56 w0 w w' g code

set_option maxRecDepth 8000 in
set_option maxHeartbeats 1000000 in
theorem next_src {w0 wa w : World} {g : Nat} {code : List Int} (n : Int) (hK : Kpt w0 wa w g code) (hn : 1 ≤ n) :
    Calls Try.prog 20 #[.pointer (some ⟨g, 0, none⟩), .int .i64 n] w fun e w' => ∃ r : Int, e = .returned (.int .i64 r) ∧ (0 ≤ r ∧ r < n) ∧ Kpt w0 w w' g code := by
  obtain ⟨⟨hg, hc, ao, c, a, h, hB, ha, hS⟩, hW, -⟩ := hK
  have q0 : w.cell? ⟨g, 0, none⟩ = some (.slice ao code.length c) := hB.at rfl
  have q1 : w.cell? ⟨g, 1, none⟩ = some (.int .i64 a) := hB.at rfl
  have q2 : w.cell? ⟨g, 2, none⟩ = some (.int .u64 h) := hB.at rfl
  have f1 := hB.free 1
  have f2 := hB.free 2
  have hl := hc.1
  obtain ⟨GF, hGF⟩ : ∃ GF : Ending → World → Prop, (fun e w' => ∃ r : Int, e = .returned (.int .i64 r) ∧ (0 ≤ r ∧ r < n) ∧ Kpt w0 w w' g code) = GF := ⟨_, rfl⟩
  rw [hGF]
  have HGF := Lib.hid hGF
  have HX := Lib.hid (And.intro hg hS)
  have m := mask24 (IntKind.u64.wrap (h * 6364136223846793005) + 1442695040888963407)
  clear hGF hS
  by_cases h1 : a < code.length
  · go_enter Try.func20, Try.ntmps20
    go_wp2
    generalize Go.bits .and .u64 (IntKind.u64.wrap (IntKind.u64.wrap (h * 6364136223846793005) + 1442695040888963407) / 8589934592) 16777215 = b at m ⊢
    have e1 : wrap64 b = b := by unfold wrap64; omega
    (try rw [e1])
    generalize IntKind.u64.wrap (IntKind.u64.wrap (h * 6364136223846793005) + 1442695040888963407) = u at *
    refine forget (fun W_ => Blk W_ g 56 (scs ao code.length c a u) ∧ Below w0.heap.size w0 W_ ∧ KeepB w W_ g) ⟨hB.set, Below.sc hg hW, (KeepB.refl w g).put⟩ ?_
    rintro w1 ⟨B1, W1, K1⟩
    clear q0 q1 q2 f1 f2 hB hW
    have q0 : w1.cell? ⟨g, 0, none⟩ = some (.slice ao code.length c) := B1.at rfl
    have q1 : w1.cell? ⟨g, 1, none⟩ = some (.int .i64 a) := B1.at rfl
    have f1 := B1.free 1
    obtain ⟨ao', c', hv, hx⟩ := (SlIn.below W1 HX.out.2).form
    obtain ⟨ad, had, hx2⟩ := hx (by omega)
    injection hv with hv _ hv2
    subst hv hv2
    subst had
    have z := hx2 a h1
    have zb := hc.at a h1
    have HC := Lib.hid hc
    generalize code[a] = y at *
    have e2 : wrap64 y = y := by unfold wrap64; omega
    have e3 : wrap64 (b + y) = b + y := by unfold wrap64; omega
    have i0 : (0 : Int) ≤ (a : Int) := by omega
    have i1 : (a : Int) < (code.length : Int) := by omega
    have e4 : wrap64 ((a : Int) + 1) = ((a + 1 : Nat) : Int) := by unfold wrap64; omega
    clear hx hx2 hc
    go_quiet (fail)
    go_wp2_with fail
    go_quiet (fail)
    have HN := Lib.hid (And.intro hn (And.intro m zb))
    clear hn hg ha hl e1 e2 i0 i1 m zb
    go_wp2
    refine (show GF (.returned (.int .i64 ((b + y).tmod n))) _ from ?_)
    rw [← HGF.out]
    obtain ⟨hn, m, zb⟩ := HN.out
    rw [Int.tmod_eq_emod_of_nonneg (by omega)]
    exact ⟨_, rfl, ⟨Int.emod_nonneg _ (by omega), Int.emod_lt_of_pos _ (by omega)⟩, ⟨HX.out.1, HC.out, some ad, c, a + 1, u, (Blk.drewN B1).set, by omega, HX.out.2⟩, Below.sc HX.out.1 (Below.drewN W1), KeepB.put ⟨K1.size, K1.block⟩⟩
  · go_enter Try.func20, Try.ntmps20
    go_wp2
    generalize Go.bits .and .u64 (IntKind.u64.wrap (IntKind.u64.wrap (h * 6364136223846793005) + 1442695040888963407) / 8589934592) 16777215 = b at m ⊢
    have e1 : wrap64 b = b := by unfold wrap64; omega
    (try rw [e1])
    generalize IntKind.u64.wrap (IntKind.u64.wrap (h * 6364136223846793005) + 1442695040888963407) = u at *
    refine forget (fun W_ => Blk W_ g 56 (scs ao code.length c a u) ∧ Below w0.heap.size w0 W_ ∧ KeepB w W_ g) ⟨hB.set, Below.sc hg hW, (KeepB.refl w g).put⟩ ?_
    rintro w1 ⟨B1, W1, K1⟩
    clear q0 q1 q2 f1 f2 hB hW
    have q0 : w1.cell? ⟨g, 0, none⟩ = some (.slice ao code.length c) := B1.at rfl
    have q1 : w1.cell? ⟨g, 1, none⟩ = some (.int .i64 a) := B1.at rfl
    have i1 : ¬ (a : Int) < (code.length : Int) := by omega
    have HC := Lib.hid hc
    clear hc
    go_quiet (fail)
    go_wp2
    rw [← HGF.out]
    exact ⟨_, rfl, ⟨Int.emod_nonneg _ (by omega), Int.emod_lt_of_pos _ (by omega)⟩, ⟨HX.out.1, HC.out, ao, c, a, _, B1.drewN, ha, HX.out.2⟩, Below.drewN W1, K1.size, K1.block⟩

theorem Src.below {w0 W W1 : World} {g : Nat} {code : List Int} (hb : Below W.heap.size W W1) (h : Src w0 W g code) : Src w0 W1 g code := SrcE.below hb h
theorem Src.drew {w0 W : World} {g : Nat} {code : List Int} (h : Src w0 W g code) : Src w0 W.drew g code := h
theorem Src.drewN {w0 W : World} {g n : Nat} {code : List Int} (h : Src w0 W g code) : Src w0 (W.drewN n) g code := h
theorem Src.alloc {w0 W : World} {g : Nat} {o : Obj} {code : List Int} (h : Src w0 W g code) : Src w0 (W.alloc o) g code := SrcE.below ((Below.refl _ _).alloc (Nat.le_refl _) _) h
theorem Src.put {w0 W : World} {g b i : Nat} {u : Value} {code : List Int} (hn : b ≠ g) (h : Src w0 W g code) : Src w0 (W.setCell ⟨b, i, none⟩ u) g code := SrcE.put hn h
theorem Src.lt {w0 W : World} {g : Nat} {code : List Int} (h : Src w0 W g code) : w0.heap.size ≤ g ∧ g < W.heap.size := SrcE.lt h
theorem Src.ne {w0 W : World} {g b : Nat} {E : TypeId} {cs : Array Value} {code : List Int} (h : Src w0 W g code) (hB : Blk W b E cs) (hE : E ≠ 56) : b ≠ g := SrcE.ne h hB hE
theorem Kpt.refl {w0 w : World} {g : Nat} {code : List Int} (hS : Src w0 w g code) (hB : Below w0.heap.size w0 w) : Kpt w0 w w g code := KptE.refl hS hB
theorem Kpt.drew {w0 w W : World} {g : Nat} {code : List Int} (h : Kpt w0 w W g code) : Kpt w0 w W.drew g code := ⟨h.1, Below.drewN (n := 1) h.2.1, h.2.2.size, h.2.2.block⟩
theorem Kpt.drewN {w0 w W : World} {g n : Nat} {code : List Int} (h : Kpt w0 w W g code) : Kpt w0 w (W.drewN n) g code := ⟨h.1, Below.drewN h.2.1, h.2.2.size, h.2.2.block⟩
theorem Kpt.below {w0 w W W1 : World} {g : Nat} {code : List Int} (hb : Below W.heap.size W W1) (h : Kpt w0 w W g code) : Kpt w0 w W1 g code := KptE.below hb h
theorem Kpt.alloc {w0 w W : World} {g : Nat} {o : Obj} {code : List Int} (h : Kpt w0 w W g code) : Kpt w0 w (W.alloc o) g code := KptE.below ((Below.refl _ _).alloc (Nat.le_refl _) _) h
theorem Kpt.put {w0 w W : World} {g b i : Nat} {u : Value} {code : List Int} (hb : w.heap.size ≤ b) (hg : g < w.heap.size) (h : Kpt w0 w W g code) : Kpt w0 w (W.setCell ⟨b, i, none⟩ u) g code := KptE.put hb hg h
theorem Kpt.step {w0 w W W1 : World} {g : Nat} {code : List Int} (h : Kpt w0 w W g code) (k : Kpt w0 W W1 g code) : Kpt w0 w W1 g code := KptE.step h k
theorem Kpt.size {w0 w W : World} {g : Nat} {code : List Int} (h : Kpt w0 w W g code) : w.heap.size ≤ W.heap.size := KptE.size h

set_option maxRecDepth 8000 in
set_option maxHeartbeats 1000000 in
theorem from_src {w : World} {v : Value} {code : List Int} (hc : CodeOk code) (hv : SlIn w .u8 v code) :
    Calls Try.prog 13 #[v] w fun e w' => ∃ g : Nat, e = .returned (.pointer (some ⟨g, 0, none⟩)) ∧ Src w w' g code ∧ Below w.heap.size w w' := by
  obtain ⟨GF, hGF⟩ : ∃ GF : Ending → World → Prop, (fun e w' => ∃ g : Nat, e = .returned (.pointer (some ⟨g, 0, none⟩)) ∧ Src w w' g code ∧ Below w.heap.size w w') = GF := ⟨_, rfl⟩
  rw [hGF]
  have HGF := Lib.hid hGF
  have HV := Lib.hid hv
  obtain ⟨ao, c, rfl, ha⟩ := hv.form
  have HA := Lib.hid ha
  have hl := hc.1
  have HC := Lib.hid hc
  clear hGF hv ha hc
  go_enter Try.func13, Try.ntmps13
  go_wp2
  refine forget (fun W_ => Blk W_ w.heap.size 56 (scs ao code.length c 0 (13801 + (code.length : Int))) ∧ Below w.heap.size w W_) ⟨(by repeat (first | (with_reducible assumption) | ((with_reducible refine Blk.new ?_); · first | omega | (simp; done) | (simp; omega)) | (with_reducible apply Blk.set4) | (with_reducible apply Blk.set3) | (with_reducible apply Blk.set2) | ((with_reducible refine Blk.put ?_ ?_); · first | omega | (simp; omega)) | (with_reducible refine Blk.old ?_) | (with_reducible refine Blk.drew ?_) | (with_reducible refine Blk.drewN ?_) | ((with_reducible refine Blk.below hb ?_ ?_); · first | omega | (simp; done) | (simp; omega)))), (by repeat (first | (with_reducible exact Below.refl _ _) | (with_reducible assumption) | (with_reducible refine Below.drew ?_) | (with_reducible refine Below.drewN ?_) | ((with_reducible refine Below.al ?_ ?_); · first | omega | (simp; done) | (simp; omega)) | ((with_reducible refine Below.sc ?_ ?_); · first | omega | (simp; done) | (simp; omega)) | ((with_reducible refine Below.thru hb ?_ ?_); · first | omega | (simp; done) | (simp; omega))))⟩ ?_
  rintro w1 ⟨B1, W1⟩
  go_loopw [4] (fun i wr => ∃ (k : Nat) (h : Int), k ≤ code.length ∧ i = .int .i64 k ∧ Blk wr w.heap.size 56 (scs ao code.length c 0 h) ∧ Below w.heap.size w wr) (fun i _ => code.length - (intOf i).toNat)
  case atStart => exact ⟨0, _, Nat.zero_le _, rfl, B1, W1⟩
  case round =>
    clear B1 W1
    obtain ⟨k, h, hk, rfl, B1, W1⟩ := hrel
    by_cases hlt : k < code.length
    · obtain ⟨ad, rfl, hx⟩ := HA.out (by omega)
      have z := SlIn.below W1 HV.out
      have q0 : wr.cell? ⟨w.heap.size, 0, none⟩ = some (.slice (some ad) code.length c) := B1.at rfl
      have q2 : wr.cell? ⟨w.heap.size, 2, none⟩ = some (.int .u64 h) := B1.at rfl
      have f2 := B1.free 2
      have zz := hx k hlt
      have z : wr.cell? (ad.add k) = some (.int .u8 code[k]) := by
        rw [W1.cell (block_lt_of_cell zz :)]
        exact zz
      have zb := HC.out.at k hlt
      generalize code[k] = y at *
      have i0 : (0 : Int) ≤ (k : Int) := by omega
      have i1 : (k : Int) < (code.length : Int) := by omega
      have i2 : (k : Int) < 4096 := by omega
      clear hx zz
      go_wp2_with fail
      have Q2 := cell_laterS q2
      have Z2 := cell_laterS z
      have sW := W1.size
      have lB := B1.lt
      refine wp_region_calm_tail 15 (by kernel_rfl) (by kernel_rfl) ?_; simp only [List.take_succ_cons, List.take_zero, List.drop_succ_cons, List.drop_zero]
      repeat (go_big_quiet_step (fail))
      refine wpQuiet_nil ?_
      rintro w2 ⟨⟨_, hb⟩, rfl⟩
      have B2 : Blk w2 (w.heap.size) 56 (scs (some ad) code.length c 0 h) := (by repeat (first | (with_reducible assumption) | ((with_reducible refine Blk.new ?_); · first | omega | (simp; done) | (simp; omega)) | (with_reducible apply Blk.set4) | (with_reducible apply Blk.set3) | (with_reducible apply Blk.set2) | ((with_reducible refine Blk.put ?_ ?_); · first | omega | (simp; omega)) | (with_reducible refine Blk.old ?_) | (with_reducible refine Blk.drew ?_) | (with_reducible refine Blk.drewN ?_) | ((with_reducible refine Blk.below hb ?_ ?_); · first | omega | (simp; done) | (simp; omega))))
      have lB2 := B2.lt
      have kw2 : Below w.heap.size w w2 := (by repeat (first | (with_reducible exact Below.refl _ _) | (with_reducible assumption) | (with_reducible refine Below.drew ?_) | (with_reducible refine Below.drewN ?_) | ((with_reducible refine Below.al ?_ ?_); · first | omega | (simp; done) | (simp; omega)) | ((with_reducible refine Below.sc ?_ ?_); · first | omega | (simp; done) | (simp; omega)) | ((with_reducible refine Below.thru hb ?_ ?_); · first | omega | (simp; done) | (simp; omega))))
      have sw2 := kw2.size
      clear hb
      have f3 := B2.free 2
      have q3 : w2.cell? ⟨w.heap.size, 2, none⟩ = some (.int .u64 h) := B2.at rfl
      clear Q2 Z2 q0 q2 f2 z B1
      go_wp2
      go_roundw
      case rel => exact ⟨k + 1, _, by omega, by go_num, B2.set, Below.sc (Nat.le_refl _) kw2⟩
      case measure => simp [intOf]; omega
    · go_wp2
      refine (show GF (.returned (.pointer (some ⟨w.heap.size, 0, none⟩))) _ from ?_)
      rw [← HGF.out]
      exact ⟨_, rfl, ⟨Nat.le_refl _, HC.out, ao, c, 0, _, B1, Nat.zero_le _, HV.out⟩, W1⟩


set_option maxRecDepth 8000 in
set_option maxHeartbeats 1000000 in
theorem pick_src {w0 wa w : World} {g b : Nat} {code : List Int} (xs : List Int) (cs : Array Value) (hK : Kpt w0 wa w g code) (hb : Blk w b 2 cs) (hcs : cs.toList = xs.map (Value.int .i64)) (hx : xs ≠ []) (hl : xs.length ≤ maxLen) (N : Nat) (hN : xs.length = N) :
    Calls Try.prog 21 #[.pointer (some ⟨g, 0, none⟩), .slice (some ⟨b, 0, none⟩) N N] w fun e w' => ∃ r : Int, e = .returned (.int .i64 r) ∧ r ∈ xs ∧ Kpt w0 w w' g code := by
  obtain ⟨GF, hGF⟩ : ∃ GF : Ending → World → Prop, (fun e w' => ∃ r : Int, e = .returned (.int .i64 r) ∧ r ∈ xs ∧ Kpt w0 w w' g code) = GF := ⟨_, rfl⟩
  rw [hGF]
  have HGF := Lib.hid hGF
  have hne := hK.1.ne hb (by decide)
  have hp := List.length_pos_iff.2 hx
  have hN1 : 1 ≤ (N : Int) := by omega
  have HN := Lib.hid hN
  have HCS := Lib.hid hcs
  unfold maxLen at hl
  have hN2 : (N : Int) ≤ 9223372036854775807 := by omega
  clear hGF hN hcs hx hp hl
  go_enter Try.func21, Try.ntmps21
  go_wp2_with fail
  refine (next_src (w0 := w0) (wa := w) (code := code) N (Kpt.refl hK.1 hK.2.1) hN1).mono ?_
  rintro e w1 ⟨r, rfl, hr, kp⟩
  obtain ⟨j, rfl⟩ := Int.eq_ofNat_of_zero_le hr.1
  have hj : j < xs.length := by rw [HN.out]; omega
  have q : w1.cell? ⟨b, j, none⟩ = some (.int .i64 xs[j]) := by
    refine (Blk.keep kp.2.2 hne hb).at ?_
    rw [← Array.getElem?_toList, HCS.out, List.getElem?_map, List.getElem?_eq_getElem hj]
    rfl
  have hm : xs[j] ∈ xs := List.getElem_mem _
  generalize xs[j] = x at *
  have i0 : (0 : Int) ≤ (j : Int) := by omega
  have i1 : (j : Int) < (N : Int) := hr.2
  have KP := Lib.hid (And.intro hm kp)
  clear hr hj hm kp hb hK
  go_wp2
  rw [← HGF.out]
  exact ⟨x, rfl, KP.out.1, KP.out.2⟩

theorem big_any {w : World} {v : Value} {code : List Int} (hv : SlIn w .u8 v code) :
    Calls Try.prog 4 #[v] w fun e w' => e = .returned (.bool (decide ((code.length : Int) > 4096))) ∧ Below w.heap.size w w' := by
  obtain ⟨ao, c, rfl, -⟩ := hv.form
  clear hv
  go_enter Try.func4, Try.ntmps4
  go_wp2
  go_ret
  exact ⟨rfl, (by repeat (first | (with_reducible exact Below.refl _ _) | (with_reducible assumption) | (with_reducible refine Below.drew ?_) | (with_reducible refine Below.drewN ?_) | ((with_reducible refine Below.al ?_ ?_); · first | omega | (simp; done) | (simp; omega)) | ((with_reducible refine Below.sc ?_ ?_); · first | omega | (simp; done) | (simp; omega)) | ((with_reducible refine Below.thru hb ?_ ?_); · first | omega | (simp; done) | (simp; omega))))⟩


end Go.Proofs.Ytcapmljnhflopaa
