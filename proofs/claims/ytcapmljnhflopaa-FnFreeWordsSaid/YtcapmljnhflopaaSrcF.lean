/- Numbers drawn from a source that follow from a code: contracts that leave the number open. -/
import Derived.Test.YtcapmljnhflopaaSl
import Derived.Test.YtcapmljnhflopaaPFnFreeWordsx
import Derived.Deep.LoopGhost
namespace Go.Proofs.Ytcapmljnhflopaa
open Go.RowKit Go.Proofs.Ytcapmljnhflopaa.PFnFreeWords Go.Proofs.YtcapmljnhflopaaW.PrintWords
set_option linter.unusedSimpArgs false

/-- A slice that came in, as the printed functions read it. -/
theorem kd_slInK {w : World} {k : IntKind} {ao : Option Addr} {c : Nat} {xs : List Int} (h : SlIn w k (.slice ao xs.length c) xs) : xs.length ≤ c ∧ Kd.C (Kd.int k) w ao xs.length xs := by
  rcases h with ⟨h1, rfl⟩ | ⟨a, cap, h1, h2, h3, h4⟩
  · cases h1
    exact ⟨Nat.le_refl _, rfl, by decide, fun h => absurd h (by decide)⟩
  · injection h1 with h1 _ h5
    subst h1 h5
    refine ⟨h2, rfl, by unfold maxLen at h3; omega, fun _ => ⟨a, rfl, fun j q hq => ?_⟩⟩
    obtain ⟨hj, e⟩ := List.getElem?_eq_some_iff.1 hq
    refine ⟨[.int k q], rfl, rfl, fun i u hu => ?_⟩
    match i, hu with
    | 0, hu =>
      simp only [List.getElem?_cons_zero, Option.some.injEq] at hu
      subst hu
      have e4 := h4 j hj
      rw [e] at e4
      rw [show j * (Kd.int k).sz + 0 = j from Nat.mul_one j]
      exact e4

theorem wrap_u64 (n : Int) : IntKind.u64.wrap n = n % 18446744073709551616 := by simp [IntKind.wrap, IntKind.bits, IntKind.signed]
theorem mask24 (y : Int) : 0 ≤ Go.bits .and .u64 (IntKind.u64.wrap y / 8589934592) 16777215 ∧ Go.bits .and .u64 (IntKind.u64.wrap y / 8589934592) 16777215 < 16777216 := by
  have h0 : 0 ≤ IntKind.u64.wrap y ∧ IntKind.u64.wrap y < 18446744073709551616 := by rw [wrap_u64]; omega
  have e := bits_mask .u64 31 (by decide) (fun n h0 h1 => by rw [wrap_u64]; omega) 24 (by decide) (IntKind.u64.wrap y / 8589934592) (by omega) (by omega)
  rw [show ((2 : Int) ^ 24 - 1) = 16777215 from rfl] at e
  rw [e]
  omega

/-- What the source's code is. -/
def CodeOk (code : List Int) : Prop := code.length ≤ 4096 ∧ ∀ x ∈ code, 0 ≤ x ∧ x ≤ 255
theorem CodeOk.rd {code : List Int} (h : CodeOk code) (i : Int) : 0 ≤ rd code i ∧ rd code i ≤ 255 := by
  unfold Go.Proofs.YtcapmljnhflopaaW.PrintWords.rd
  rw [List.getD_eq_getElem?_getD]
  cases e : code[i.toNat]? with
  | none => simp
  | some x => exact h.2 x (List.mem_of_getElem? e)

theorem next_some {code : List Int} (hc : CodeOk code) {a h n : Int} (ha : 0 ≤ a ∧ a ≤ code.length) (hn : 1 ≤ n) :
    ∃ r a' h', spec_l01Next.f code a h n = some (r, a', h') ∧ (0 ≤ r ∧ r < n) ∧ 0 ≤ a' ∧ a' ≤ code.length := by
  have hl := hc.1
  have hr := hc.rd a
  unfold spec_l01Next.f
  rw [if_neg (by omega)]
  have m := mask24 ((IntKind.u64.wrap (h * 6364136223846793005)) + 1442695040888963407)
  generalize Go.bits .and .u64 (IntKind.u64.wrap ((IntKind.u64.wrap (h * 6364136223846793005)) + 1442695040888963407) / 8589934592) 16777215 = b at m
  by_cases h1 : a < (code.length : Int)
  · rw [if_pos h1, if_pos ha.1, if_neg (by omega)]
    have e1 : wrap64 b = b := by unfold wrap64; omega
    have e2 : wrap64 (rd code a) = rd code a := by unfold wrap64; omega
    have e3 : wrap64 (b + rd code a) = b + rd code a := by unfold wrap64; omega
    have e4 : wrap64 (a + 1) = a + 1 := by unfold wrap64; omega
    refine ⟨_, _, _, rfl, ?_, ?_⟩
    · rw [e1, e2, e3, Int.tmod_eq_emod_of_nonneg (by omega)]
      exact ⟨Int.emod_nonneg _ (by omega), Int.emod_lt_of_pos _ (by omega)⟩
    · rw [e4]; omega
  · rw [if_neg h1, if_neg (by omega)]
    have e1 : wrap64 b = b := by unfold wrap64; omega
    refine ⟨_, _, _, rfl, ?_, ha⟩
    rw [e1, Int.tmod_eq_emod_of_nonneg (by omega)]
    exact ⟨Int.emod_nonneg _ (by omega), Int.emod_lt_of_pos _ (by omega)⟩
theorem pick_some {code : List Int} (hc : CodeOk code) {a h : Int} (ha : 0 ≤ a ∧ a ≤ code.length) {xs : List Int} (hx : xs ≠ []) :
    ∃ r a' h', spec_l01Pick.f code a h xs = some (r, a', h') ∧ r ∈ xs ∧ 0 ≤ a' ∧ a' ≤ code.length := by
  have hl := List.length_pos_iff.2 hx
  obtain ⟨r, a', h', e, hr, ha'⟩ := next_some hc (h := h) (n := (xs.length : Int)) ha (by omega)
  refine ⟨rd xs r, a', h', ?_, ?_, ha'⟩
  · unfold spec_l01Pick.f
    rw [e]
    show (if 0 ≤ r then (if r < (xs.length : Int) then (some (rd xs r, a', h')) else (none)) else (none)) = _
    rw [if_pos hr.1, if_pos hr.2]
  · unfold Go.Proofs.YtcapmljnhflopaaW.PrintWords.rd
    rw [List.getD_eq_getElem?_getD, List.getElem?_eq_getElem (show r.toNat < xs.length by omega)]
    exact List.getElem_mem _
theorem from_some {code : List Int} (hl : code.length ≤ 4096) : ∀ (d i : Nat) (h : Int), i + d = code.length → ∃ h', spec_l01From.l0 (d + 1) code i code 0 h = some (code, 0, h')
  | 0, i, h, e => ⟨h, by
      rw [spec_l01From.l0, if_neg (by omega)]⟩
  | d + 1, i, h, e => by
      have e4 : wrap64 ((i : Int) + 1) = ((i + 1 : Nat) : Int) := by unfold wrap64; omega
      rw [spec_l01From.l0]
      rw [if_pos (by omega), if_pos (by omega), if_pos (by omega), e4]
      exact from_some hl d (i + 1) _ (by omega)

/-- The state of a source, made since w0. -/
def Src (w0 W : World) (g : Nat) (code : List Int) : Prop := CodeOk code ∧ ∃ a h, IsS56 w0 W g code a h ∧ 0 ≤ a ∧ a ≤ code.length
/-- What a call that draws leaves: the state, what lay before w0, all blocks but the state's. -/
def Kpt (w0 w w' : World) (g : Nat) (code : List Int) : Prop := Src w0 w' g code ∧ Below w0.heap.size w0 w' ∧ KeepBut w w' g none
theorem Src.below {w0 W W1 : World} {g : Nat} {code : List Int} (hb : Below W.heap.size W W1) (h : Src w0 W g code) : Src w0 W1 g code := by
  obtain ⟨hc, a, x, h1, h2⟩ := h
  exact ⟨hc, a, x, h1.below hb, h2⟩
theorem Src.drew {w0 W : World} {g : Nat} {code : List Int} (h : Src w0 W g code) : Src w0 W.drew g code := h
theorem Src.drewN {w0 W : World} {g n : Nat} {code : List Int} (h : Src w0 W g code) : Src w0 (W.drewN n) g code := h
theorem Src.alloc {w0 W : World} {g : Nat} {o : Obj} {code : List Int} (h : Src w0 W g code) : Src w0 (W.alloc o) g code := h.below ((Below.refl _ _).alloc (Nat.le_refl _) _)
theorem Src.put {w0 W : World} {g b i : Nat} {u : Value} {code : List Int} (hn : b ≠ g) (h : Src w0 W g code) : Src w0 (W.setCell ⟨b, i, none⟩ u) g code := by
  obtain ⟨hc, a, x, h1, h2⟩ := h
  exact ⟨hc, a, x, h1.far (Ne.symm hn) u, h2⟩
theorem Src.lt {w0 W : World} {g : Nat} {code : List Int} (h : Src w0 W g code) : w0.heap.size ≤ g ∧ g < W.heap.size := by
  obtain ⟨hc, a, x, h1, h2⟩ := h
  exact ⟨h1.ge, h1.lt⟩
theorem Src.ne {w0 W : World} {g b : Nat} {E : TypeId} {cs : Array Value} {code : List Int} (h : Src w0 W g code) (hB : Blk W b E cs) (hE : E ≠ 56) : b ≠ g := by
  obtain ⟨hc, a, x, h1, h2⟩ := h
  exact Ne.symm (h1.ne_blk hB hE)
theorem Blk.keep {w w1 : World} {g b : Nat} {E : TypeId} {cs : Array Value} (hk : KeepBut w w1 g none) (hn : b ≠ g) (h : Blk w b E cs) : Blk w1 b E cs := hk.blk h hn (by simp)

theorem Kpt.refl {w0 w : World} {g : Nat} {code : List Int} (hS : Src w0 w g code) (hB : Below w0.heap.size w0 w) : Kpt w0 w w g code := ⟨hS, hB, KeepBut.refl _ _ _⟩
theorem Kpt.drew {w0 w W : World} {g : Nat} {code : List Int} (h : Kpt w0 w W g code) : Kpt w0 w W.drew g code := ⟨h.1.drew, Below.drewN (n := 1) h.2.1, keep_drew h.2.2⟩
theorem Kpt.drewN {w0 w W : World} {g n : Nat} {code : List Int} (h : Kpt w0 w W g code) : Kpt w0 w (W.drewN n) g code := ⟨h.1.drewN, Below.drewN h.2.1, keep_drewN h.2.2 n⟩
theorem Kpt.alloc {w0 w W : World} {g : Nat} {o : Obj} {code : List Int} (h : Kpt w0 w W g code) : Kpt w0 w (W.alloc o) g code := ⟨h.1.alloc, Below.al h.2.1.size h.2.1, keep_alloc h.2.2 o⟩
theorem Kpt.put {w0 w W : World} {g b i : Nat} {u : Value} {code : List Int} (hb : w.heap.size ≤ b) (hg : g < w.heap.size) (h : Kpt w0 w W g code) : Kpt w0 w (W.setCell ⟨b, i, none⟩ u) g code := by
  have hl := h.1.lt
  exact ⟨h.1.put (by omega), Below.sc (by show w0.heap.size ≤ b; omega) h.2.1, keep_far h.2.2 (show w.heap.size ≤ b from hb) u⟩
theorem Kpt.below {w0 w W W1 : World} {g : Nat} {code : List Int} (hb : Below W.heap.size W W1) (h : Kpt w0 w W g code) : Kpt w0 w W1 g code := ⟨h.1.below hb, Below.thru hb h.2.1.size h.2.1, h.2.2.trans (KeepBut.of_below hb g none) (.inl rfl)⟩
theorem Kpt.step {w0 w W W1 : World} {g : Nat} {code : List Int} (h : Kpt w0 w W g code) (k : Kpt w0 W W1 g code) : Kpt w0 w W1 g code := ⟨k.1, k.2.1, h.2.2.trans k.2.2 (.inl rfl)⟩
theorem Kpt.size {w0 w W : World} {g : Nat} {code : List Int} (h : Kpt w0 w W g code) : w.heap.size ≤ W.heap.size := h.2.2.1

theorem next_src {w0 wa w : World} {g : Nat} {code : List Int} (n : Int) (hK : Kpt w0 wa w g code) (hn : 1 ≤ n) :
    Calls Try.prog 20 #[.pointer (some ⟨g, 0, none⟩), .int .i64 n] w fun e w' => ∃ r : Int, e = .returned (.int .i64 r) ∧ (0 ≤ r ∧ r < n) ∧ Kpt w0 w w' g code := by
  obtain ⟨⟨hc, a, h, h1, h2⟩, hB, -⟩ := hK
  obtain ⟨r, a', h', e, hr, ha'⟩ := next_some hc (h := h) h2 hn
  refine (spec_l01Next.calls g code a h n r a' h' w0 w h1 hB e).mono ?_
  rintro e w' ⟨rfl, k1, k2, k3⟩
  exact ⟨r, rfl, hr, ⟨hc, a', h', k1, ha'⟩, k2, k3⟩
theorem pick_src {w0 wa w : World} {g b : Nat} {code : List Int} (xs : List Int) (cs : Array Value) (hK : Kpt w0 wa w g code) (hb : Blk w b 2 cs) (hcs : cs.toList = xs.map (Value.int .i64)) (hx : xs ≠ []) (hl : xs.length ≤ maxLen) (N : Nat) (hN : xs.length = N) :
    Calls Try.prog 21 #[.pointer (some ⟨g, 0, none⟩), .slice (some ⟨b, 0, none⟩) N N] w fun e w' => ∃ r : Int, e = .returned (.int .i64 r) ∧ r ∈ xs ∧ Kpt w0 w w' g code := by
  subst hN
  have hne := hK.1.ne hb (by decide)
  have hO := kd_slInK (Own.of_blk (B := b) hb (Nat.le_refl _) hcs hl).slIn
  obtain ⟨⟨hc, a, h, h1, h2⟩, hB, -⟩ := hK
  obtain ⟨r, a', h', e, hr, ha'⟩ := pick_some hc (h := h) h2 hx
  refine (spec_l01Pick.calls g code a h _ _ xs r a' h' w0 w h1 hB hO.2 hO.1 (fun ad hd _ => by injection hd with hd; subst hd; exact hne) e).mono ?_
  rintro e w' ⟨rfl, k1, k2, k3⟩
  exact ⟨r, rfl, hr, ⟨hc, a', h', k1, ha'⟩, k2, k3⟩
theorem from_src {w : World} {v : Value} {code : List Int} (hc : CodeOk code) (hv : SlIn w .u8 v code) :
    Calls Try.prog 13 #[v] w fun e w' => ∃ g : Nat, e = .returned (.pointer (some ⟨g, 0, none⟩)) ∧ Src w w' g code ∧ Below w.heap.size w w' := by
  obtain ⟨ao, c, rfl, -⟩ := hv.form
  have hO := kd_slInK hv
  obtain ⟨h', e⟩ := from_some hc.1 code.length 0 (IntKind.u64.wrap (13801 + (IntKind.u64.wrap ((code.length : Int))))) (by omega)
  refine (spec_l01From.calls (code.length + 1) ao c code code 0 h' w w (Below.refl _ _) hO.2 hO.1 e).mono ?_
  rintro e w' ⟨g, rfl, k1, k2⟩
  exact ⟨g, rfl, ⟨hc, 0, h', k1, by omega, by omega⟩, k2⟩

theorem big_any {w : World} {v : Value} {code : List Int} (hv : SlIn w .u8 v code) :
    Calls Try.prog 4 #[v] w fun e w' => e = .returned (.bool (decide ((code.length : Int) > 4096))) ∧ Below w.heap.size w w' := by
  obtain ⟨ao, c, rfl, -⟩ := hv.form
  have hO := kd_slInK hv
  refine (laws_big.calls ao c code _ w hO.2 hO.1 rfl).mono ?_
  rintro e w' ⟨rfl, hb⟩
  exact ⟨rfl, hb.below⟩

end Go.Proofs.Ytcapmljnhflopaa
