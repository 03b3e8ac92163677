/- Numbers drawn from a source that follow from a code: contracts that leave the number open. -/
import Derived.Test.YtbmkpcenjjdflaaSl
import Derived.Test.YtbmkpcenjjdflaaPFnMarkovx8
import Derived.Test.YtbmkpcenjjdflaaFmp
namespace Go.Proofs.Ytbmkpcenjjdflaa
open Go.RowKit Go.Proofs.Ytbmkpcenjjdflaa.PFnMarkov Go.Proofs.YtbmkpcenjjdflaaW.PrintWords
set_option linter.unusedSimpArgs false

/-- A slice that came in, as the printed functions read it. -/
theorem kd_slInK {w : World} {k : IntKind} {ao : Option Addr} {c : Nat} {xs : List Int} (h : SlIn w k (.slice ao xs.length c) xs) : xs.length ≤ c ∧ Kd.C (Kd.int k) w ao xs.length xs := by
  rcases h with ⟨h1, rfl⟩ | ⟨a, cap, h1, h2, h3, h4⟩
  · cases h1
    exact ⟨Nat.le_refl _, rfl, by decide, fun h => absurd h (by decide)⟩
  · injection h1 with h1 _ h5
    subst h1 h5
    refine ⟨h2, rfl, by unfold maxLen at h3; omega, fun _ => ⟨a, rfl, fun j q hq => ?_⟩⟩
    obtain ⟨hj, e⟩ := List.getElem?_eq_some_iff.1 hq
    refine ⟨[.int k q], rfl, rfl, fun i u hu => ?_⟩
    match i, hu with
    | 0, hu =>
      simp only [List.getElem?_cons_zero, Option.some.injEq] at hu
      subst hu
      have e4 := h4 j hj
      rw [e] at e4
      rw [show j * (Kd.int k).sz + 0 = j from Nat.mul_one j]
      exact e4

theorem wrap_u64 (n : Int) : IntKind.u64.wrap n = n % 18446744073709551616 := by simp [IntKind.wrap, IntKind.bits, IntKind.signed]
theorem mask24 (y : Int) : 0 ≤ Go.bits .and .u64 (IntKind.u64.wrap y / 8589934592) 16777215 ∧ Go.bits .and .u64 (IntKind.u64.wrap y / 8589934592) 16777215 < 16777216 := by
  have h0 : 0 ≤ IntKind.u64.wrap y ∧ IntKind.u64.wrap y < 18446744073709551616 := by rw [wrap_u64]; omega
  have e := bits_mask .u64 31 (by decide) (fun n h0 h1 => by rw [wrap_u64]; omega) 24 (by decide) (IntKind.u64.wrap y / 8589934592) (by omega) (by omega)
  rw [show ((2 : Int) ^ 24 - 1) = 16777215 from rfl] at e
  rw [e]
  omega

/-- What the source's code is. -/
def CodeOk (code : List Int) : Prop := code.length ≤ 4096 ∧ ∀ x ∈ code, 0 ≤ x ∧ x ≤ 255
theorem CodeOk.rd {code : List Int} (h : CodeOk code) (i : Int) : 0 ≤ rd code i ∧ rd code i ≤ 255 := by
  unfold Go.Proofs.YtbmkpcenjjdflaaW.PrintWords.rd
  rw [List.getD_eq_getElem?_getD]
  cases e : code[i.toNat]? with
  | none => simp
  | some x => exact h.2 x (List.mem_of_getElem? e)

theorem next_some {code : List Int} (hc : CodeOk code) {a h n : Int} (ha : 0 ≤ a ∧ a ≤ code.length) (hn : 1 ≤ n) :
    ∃ r a' h', spec_l01Next.f code a h n = some (r, a', h') ∧ (0 ≤ r ∧ r < n) ∧ 0 ≤ a' ∧ a' ≤ code.length := by
  have hl := hc.1
  have hr := hc.rd a
  unfold spec_l01Next.f
  rw [if_neg (by omega)]
  have m := mask24 ((IntKind.u64.wrap (h * 6364136223846793005)) + 1442695040888963407)
  generalize Go.bits .and .u64 (IntKind.u64.wrap ((IntKind.u64.wrap (h * 6364136223846793005)) + 1442695040888963407) / 8589934592) 16777215 = b at m
  by_cases h1 : a < (code.length : Int)
  · rw [if_pos h1, if_pos ha.1, if_neg (by omega)]
    have e1 : wrap64 b = b := by unfold wrap64; omega
    have e2 : wrap64 (rd code a) = rd code a := by unfold wrap64; omega
    have e3 : wrap64 (b + rd code a) = b + rd code a := by unfold wrap64; omega
    have e4 : wrap64 (a + 1) = a + 1 := by unfold wrap64; omega
    refine ⟨_, _, _, rfl, ?_, ?_⟩
    · rw [e1, e2, e3, Int.tmod_eq_emod_of_nonneg (by omega)]
      exact ⟨Int.emod_nonneg _ (by omega), Int.emod_lt_of_pos _ (by omega)⟩
    · rw [e4]; omega
  · rw [if_neg h1, if_neg (by omega)]
    have e1 : wrap64 b = b := by unfold wrap64; omega
    refine ⟨_, _, _, rfl, ?_, ha⟩
    rw [e1, Int.tmod_eq_emod_of_nonneg (by omega)]
    exact ⟨Int.emod_nonneg _ (by omega), Int.emod_lt_of_pos _ (by omega)⟩
theorem pick_some {code : List Int} (hc : CodeOk code) {a h : Int} (ha : 0 ≤ a ∧ a ≤ code.length) {xs : List Int} (hx : xs ≠ []) :
    ∃ r a' h', spec_l01Pick.f code a h xs = some (r, a', h') ∧ r ∈ xs ∧ 0 ≤ a' ∧ a' ≤ code.length := by
  have hl := List.length_pos_iff.2 hx
  obtain ⟨r, a', h', e, hr, ha'⟩ := next_some hc (h := h) (n := (xs.length : Int)) ha (by omega)
  refine ⟨rd xs r, a', h', ?_, ?_, ha'⟩
  · unfold spec_l01Pick.f
    rw [e]
    show (if 0 ≤ r then (if r < (xs.length : Int) then (some (rd xs r, a', h')) else (none)) else (none)) = _
    rw [if_pos hr.1, if_pos hr.2]
  · unfold Go.Proofs.YtbmkpcenjjdflaaW.PrintWords.rd
    rw [List.getD_eq_getElem?_getD, List.getElem?_eq_getElem (show r.toNat < xs.length by omega)]
    exact List.getElem_mem _
theorem near_some {code : List Int} (hc : CodeOk code) {a h : Int} (ha : 0 ≤ a ∧ a ≤ code.length) {most : Int} (hm : 0 ≤ most ∧ most ≤ 1000000) :
    ∃ r a' h', spec_l01Near.f code a h most = some (r, a', h') ∧ 0 ≤ a' ∧ a' ≤ code.length := by
  obtain ⟨r, a', h', e, hr, ha'⟩ := next_some hc (h := h) (n := 14) ha (by decide)
  unfold spec_l01Near.f
  rw [e]
  by_cases hz : r = 0
  · obtain ⟨r2, a2, h2, e2, -, ha2⟩ := pick_some hc (h := h') ha' (xs := [(-1), wrap64 (most + 1), 1099511627776, (-4611686018427387904)]) (by simp)
    refine ⟨r2, a2, h2, ?_, ha2⟩
    show (if r = 0 then ((spec_l01Pick.f code a' h' [(-1), wrap64 (most + 1), 1099511627776, (-4611686018427387904)]).bind fun bt253 => (some (bt253.1, bt253.2.1, bt253.2.2))) else _) = _
    rw [if_pos hz, e2]
    rfl
  · have ew : wrap64 (most + 1) = most + 1 := by unfold wrap64; omega
    obtain ⟨r2, a2, h2, e2, -, ha2⟩ := next_some hc (h := h') (n := wrap64 (most + 1)) ha' (by omega)
    refine ⟨r2, a2, h2, ?_, ha2⟩
    show (if r = 0 then _ else ((spec_l01Next.f code a' h' (wrap64 (most + 1))).bind fun bt256 => (some (bt256.1, bt256.2.1, bt256.2.2)))) = _
    rw [if_neg hz, e2]
    rfl
theorem from_some {code : List Int} (hl : code.length ≤ 4096) : ∀ (d i : Nat) (h : Int), i + d = code.length → ∃ h', spec_l01From.l0 (d + 1) code i code 0 h = some (code, 0, h')
  | 0, i, h, e => ⟨h, by
      rw [spec_l01From.l0, if_neg (by omega)]⟩
  | d + 1, i, h, e => by
      have e4 : wrap64 ((i : Int) + 1) = ((i + 1 : Nat) : Int) := by unfold wrap64; omega
      rw [spec_l01From.l0]
      rw [if_pos (by omega), if_pos (by omega), if_pos (by omega), e4]
      exact from_some hl d (i + 1) _ (by omega)

/-- The state of a source, made since w0. -/
def Src (w0 W : World) (g : Nat) (code : List Int) : Prop := CodeOk code ∧ ∃ a h, IsS71 w0 W g code a h ∧ 0 ≤ a ∧ a ≤ code.length
/-- What a call that draws leaves: the state, what lay before w0, all blocks but the state's. -/
def Kpt (w0 w w' : World) (g : Nat) (code : List Int) : Prop := Src w0 w' g code ∧ Below w0.heap.size w0 w' ∧ KeepBut w w' g none
theorem Src.below {w0 W W1 : World} {g : Nat} {code : List Int} (hb : Below W.heap.size W W1) (h : Src w0 W g code) : Src w0 W1 g code := by
  obtain ⟨hc, a, x, h1, h2⟩ := h
  exact ⟨hc, a, x, h1.below hb, h2⟩
theorem Src.drew {w0 W : World} {g : Nat} {code : List Int} (h : Src w0 W g code) : Src w0 W.drew g code := h
theorem Src.drewN {w0 W : World} {g n : Nat} {code : List Int} (h : Src w0 W g code) : Src w0 (W.drewN n) g code := h
theorem Src.alloc {w0 W : World} {g : Nat} {o : Obj} {code : List Int} (h : Src w0 W g code) : Src w0 (W.alloc o) g code := h.below ((Below.refl _ _).alloc (Nat.le_refl _) _)
theorem Src.put {w0 W : World} {g b i : Nat} {u : Value} {code : List Int} (hn : b ≠ g) (h : Src w0 W g code) : Src w0 (W.setCell ⟨b, i, none⟩ u) g code := by
  obtain ⟨hc, a, x, h1, h2⟩ := h
  exact ⟨hc, a, x, h1.far (Ne.symm hn) u, h2⟩
theorem Src.lt {w0 W : World} {g : Nat} {code : List Int} (h : Src w0 W g code) : w0.heap.size ≤ g ∧ g < W.heap.size := by
  obtain ⟨hc, a, x, h1, h2⟩ := h
  exact ⟨h1.ge, h1.lt⟩
theorem Src.ne {w0 W : World} {g b : Nat} {E : TypeId} {cs : Array Value} {code : List Int} (h : Src w0 W g code) (hB : Blk W b E cs) (hE : E ≠ 71) : b ≠ g := by
  obtain ⟨hc, a, x, h1, h2⟩ := h
  exact Ne.symm (h1.ne_blk hB hE)
theorem Blk.keep {w w1 : World} {g b : Nat} {E : TypeId} {cs : Array Value} (hk : KeepBut w w1 g none) (hn : b ≠ g) (h : Blk w b E cs) : Blk w1 b E cs := hk.blk h hn (by simp)

theorem Kpt.refl {w0 w : World} {g : Nat} {code : List Int} (hS : Src w0 w g code) (hB : Below w0.heap.size w0 w) : Kpt w0 w w g code := ⟨hS, hB, KeepBut.refl _ _ _⟩
theorem Kpt.drew {w0 w W : World} {g : Nat} {code : List Int} (h : Kpt w0 w W g code) : Kpt w0 w W.drew g code := ⟨h.1.drew, Below.drewN (n := 1) h.2.1, keep_drew h.2.2⟩
theorem Kpt.drewN {w0 w W : World} {g n : Nat} {code : List Int} (h : Kpt w0 w W g code) : Kpt w0 w (W.drewN n) g code := ⟨h.1.drewN, Below.drewN h.2.1, keep_drewN h.2.2 n⟩
theorem Kpt.alloc {w0 w W : World} {g : Nat} {o : Obj} {code : List Int} (h : Kpt w0 w W g code) : Kpt w0 w (W.alloc o) g code := ⟨h.1.alloc, Below.al h.2.1.size h.2.1, keep_alloc h.2.2 o⟩
theorem Kpt.put {w0 w W : World} {g b i : Nat} {u : Value} {code : List Int} (hb : w.heap.size ≤ b) (hg : g < w.heap.size) (h : Kpt w0 w W g code) : Kpt w0 w (W.setCell ⟨b, i, none⟩ u) g code := by
  have hl := h.1.lt
  exact ⟨h.1.put (by omega), Below.sc (by show w0.heap.size ≤ b; omega) h.2.1, keep_far h.2.2 (show w.heap.size ≤ b from hb) u⟩
theorem Kpt.below {w0 w W W1 : World} {g : Nat} {code : List Int} (hb : Below W.heap.size W W1) (h : Kpt w0 w W g code) : Kpt w0 w W1 g code := ⟨h.1.below hb, Below.thru hb h.2.1.size h.2.1, h.2.2.trans (KeepBut.of_below hb g none) (.inl rfl)⟩
theorem Kpt.step {w0 w W W1 : World} {g : Nat} {code : List Int} (h : Kpt w0 w W g code) (k : Kpt w0 W W1 g code) : Kpt w0 w W1 g code := ⟨k.1, k.2.1, h.2.2.trans k.2.2 (.inl rfl)⟩
theorem Kpt.size {w0 w W : World} {g : Nat} {code : List Int} (h : Kpt w0 w W g code) : w.heap.size ≤ W.heap.size := h.2.2.1

theorem next_src {w0 wa w : World} {g : Nat} {code : List Int} (n : Int) (hK : Kpt w0 wa w g code) (hn : 1 ≤ n) :
    Calls Try.prog 54 #[.pointer (some ⟨g, 0, none⟩), .int .i64 n] w fun e w' => ∃ r : Int, e = .returned (.int .i64 r) ∧ (0 ≤ r ∧ r < n) ∧ Kpt w0 w w' g code := by
  obtain ⟨⟨hc, a, h, h1, h2⟩, hB, -⟩ := hK
  obtain ⟨r, a', h', e, hr, ha'⟩ := next_some hc (h := h) h2 hn
  refine (spec_l01Next.calls g code a h n r a' h' w0 w h1 hB e).mono ?_
  rintro e w' ⟨rfl, k1, k2, k3⟩
  exact ⟨r, rfl, hr, ⟨hc, a', h', k1, ha'⟩, k2, k3⟩
theorem pick_src {w0 wa w : World} {g b : Nat} {code : List Int} (xs : List Int) (cs : Array Value) (hK : Kpt w0 wa w g code) (hb : Blk w b 2 cs) (hcs : cs.toList = xs.map (Value.int .i64)) (hx : xs ≠ []) (hl : xs.length ≤ maxLen) (N : Nat) (hN : xs.length = N) :
    Calls Try.prog 45 #[.pointer (some ⟨g, 0, none⟩), .slice (some ⟨b, 0, none⟩) N N] w fun e w' => ∃ r : Int, e = .returned (.int .i64 r) ∧ r ∈ xs ∧ Kpt w0 w w' g code := by
  subst hN
  have hne := hK.1.ne hb (by decide)
  have hO := kd_slInK (Own.of_blk (B := b) hb (Nat.le_refl _) hcs hl).slIn
  obtain ⟨⟨hc, a, h, h1, h2⟩, hB, -⟩ := hK
  obtain ⟨r, a', h', e, hr, ha'⟩ := pick_some hc (h := h) h2 hx
  refine (spec_l01Pick.calls g code a h _ _ xs r a' h' w0 w h1 hB hO.2 hO.1 (fun ad hd _ => by injection hd with hd; subst hd; exact hne) e).mono ?_
  rintro e w' ⟨rfl, k1, k2, k3⟩
  exact ⟨r, rfl, hr, ⟨hc, a', h', k1, ha'⟩, k2, k3⟩
theorem near_src {w0 wa w : World} {g : Nat} {code : List Int} (most : Int) (hK : Kpt w0 wa w g code) (hm : 0 ≤ most ∧ most ≤ 1000000) :
    Calls Try.prog 39 #[.pointer (some ⟨g, 0, none⟩), .int .i64 most] w fun e w' => ∃ r : Int, e = .returned (.int .i64 r) ∧ Kpt w0 w w' g code := by
  obtain ⟨⟨hc, a, h, h1, h2⟩, hB, -⟩ := hK
  obtain ⟨r, a', h', e, ha'⟩ := near_some hc (h := h) h2 hm
  refine (spec_l01Near.calls g code a h most r a' h' w0 w h1 hB e).mono ?_
  rintro e w' ⟨rfl, k1, k2, k3⟩
  exact ⟨r, rfl, ⟨hc, a', h', k1, ha'⟩, k2, k3⟩
theorem from_src {w : World} {v : Value} {code : List Int} (hc : CodeOk code) (hv : SlIn w .u8 v code) :
    Calls Try.prog 36 #[v] w fun e w' => ∃ g : Nat, e = .returned (.pointer (some ⟨g, 0, none⟩)) ∧ Src w w' g code ∧ Below w.heap.size w w' := by
  obtain ⟨ao, c, rfl, -⟩ := hv.form
  have hO := kd_slInK hv
  obtain ⟨h', e⟩ := from_some hc.1 code.length 0 (IntKind.u64.wrap (13801 + (IntKind.u64.wrap ((code.length : Int))))) (by omega)
  refine (spec_l01From.calls (code.length + 1) ao c code code 0 h' w w (Below.refl _ _) hO.2 hO.1 e).mono ?_
  rintro e w' ⟨g, rfl, k1, k2⟩
  exact ⟨g, rfl, ⟨hc, 0, h', k1, by omega, by omega⟩, k2⟩

/-- The number that a draw of the third law starts from. -/
theorem drawBelow_any {w : World} {v : Value} {code : List Int} (hc : CodeOk code) (hv : SlIn w .u8 v code) :
    Calls Try.prog 26 #[v] w fun e w' => ∃ n : Int, e = .returned (.int .i64 n) ∧ Below w.heap.size w w' := by
  obtain ⟨ao, c, rfl, -⟩ := hv.form
  have hO := kd_slInK hv
  obtain ⟨h', e⟩ := from_some hc.1 code.length 0 (IntKind.u64.wrap (13801 + (IntKind.u64.wrap ((code.length : Int))))) (by omega)
  obtain ⟨r, a2, h2, e2, hr, ha2⟩ := pick_some hc (a := 0) (h := h') (by omega) (xs := [5, 100, 10000, 1000000]) (by simp)
  obtain ⟨n, a3, h3, e3, ha3⟩ := near_some hc (h := h2) ha2 (most := r) (by simp at hr; omega)
  refine (spec_DrawTriplesBelow.calls (code.length + 1) ao c code n w hO.2 hO.1 ?_).mono ?_
  · unfold spec_DrawTriplesBelow.f spec_l01From.f
    have e' : spec_l01From.l0 (code.length + 1) code 0 code 0 (IntKind.u64.wrap (13801 + (IntKind.u64.wrap ((code.length : Int))))) = some (code, 0, h') := e
    rw [e']
    show ((spec_l01Pick.f code 0 h' [5, 100, 10000, 1000000]).bind fun bt266 => ((spec_l01Near.f code bt266.2.1 bt266.2.2 bt266.1).bind fun bt269 => (some bt269.1))) = _
    rw [e2]
    show ((spec_l01Near.f code a2 h2 r).bind fun bt269 => (some bt269.1)) = _
    rw [e3]
    rfl
  · rintro e w' ⟨rfl, hb⟩
    exact ⟨n, rfl, hb⟩

theorem big_any {w : World} {v : Value} {code : List Int} (hv : SlIn w .u8 v code) :
    Calls Try.prog 16 #[v] w fun e w' => e = .returned (.bool (decide ((code.length : Int) > 4096))) ∧ Below w.heap.size w w' := by
  obtain ⟨ao, c, rfl, -⟩ := hv.form
  have hO := kd_slInK hv
  refine (laws_big.calls ao c code _ w hO.2 hO.1 rfl).mono ?_
  rintro e w' ⟨rfl, hb⟩
  exact ⟨rfl, hb.below⟩

theorem like_some (xs : List Int) (hl : xs.length ≤ 1000000) : ∀ (d i : Nat), i + d = xs.length → laws_likeInts.l0 (d + 1) xs xs i = some true
  | 0, i, e => by
      rw [laws_likeInts.l0, if_neg (by omega)]
  | d + 1, i, e => by
      have e4 : wrap64 ((i : Int) + 1) = ((i + 1 : Nat) : Int) := by unfold wrap64; omega
      rw [laws_likeInts.l0]
      rw [if_pos (by omega), if_pos (by omega), if_pos (by omega), if_pos rfl, e4]
      exact like_some xs hl d (i + 1) (by omega)
theorem likeInts_same {w : World} {v u : Value} {xs : List Int} (hv : SlIn w .i64 v xs) (hu : SlIn w .i64 u xs) (hl : xs.length ≤ 1000000) :
    Calls Try.prog 27 #[v, u] w fun e w' => e = .returned (.bool true) ∧ Below w.heap.size w w' := by
  obtain ⟨ao, c, rfl, -⟩ := hv.form
  obtain ⟨ao2, c2, rfl, -⟩ := hu.form
  have hO := kd_slInK hv
  have hU := kd_slInK hu
  refine (laws_likeInts.calls (xs.length + 1) ao c xs ao2 c2 xs true w hO.2 hO.1 hU.2 hU.1 ?_).mono ?_
  · unfold laws_likeInts.f
    rw [if_pos rfl]
    exact like_some xs hl xs.length 0 (by omega)
  · rintro e w' ⟨rfl, hb⟩
    exact ⟨rfl, hb.below⟩
theorem has_some (xs : List Int) (x : Int) (hl : xs.length ≤ 1000000) : ∀ (d i : Nat), i + d = xs.length → x ∈ xs.drop i → laws_hasInt.l0 (d + 1) xs x i = some true
  | 0, i, e, hx => by
      rw [List.drop_eq_nil_of_le (by omega)] at hx
      exact absurd hx (by simp)
  | d + 1, i, e, hx => by
      have e4 : wrap64 ((i : Int) + 1) = ((i + 1 : Nat) : Int) := by unfold wrap64; omega
      have er : rd xs i = xs[i]'(by omega) := by
        unfold Go.Proofs.YtbmkpcenjjdflaaW.PrintWords.rd
        rw [List.getD_eq_getElem?_getD, List.getElem?_eq_getElem (show (i : Int).toNat < xs.length by omega)]
        simp
      rw [laws_hasInt.l0]
      rw [if_pos (by omega), if_pos (by omega), e4, er]
      by_cases h : xs[i]'(by omega) = x
      · rw [if_pos h]
      · rw [if_neg h]
        refine has_some xs x hl d (i + 1) (by omega) ?_
        rw [List.drop_eq_getElem_cons (show i < xs.length by omega), List.mem_cons] at hx
        rcases hx with hx | hx
        · exact absurd hx.symm h
        · exact hx
theorem hasInt_mem {w : World} {v : Value} {xs : List Int} (x : Int) (hv : SlIn w .i64 v xs) (hl : xs.length ≤ 1000000) (hx : x ∈ xs) :
    Calls Try.prog 28 #[v, .int .i64 x] w fun e w' => e = .returned (.bool true) ∧ Below w.heap.size w w' := by
  obtain ⟨ao, c, rfl, -⟩ := hv.form
  have hO := kd_slInK hv
  refine (laws_hasInt.calls (xs.length + 1) ao c xs x true w hO.2 hO.1 ?_).mono ?_
  · exact has_some xs x hl xs.length 0 (by omega) (by simpa using hx)
  · rintro e w' ⟨rfl, hb⟩
    exact ⟨rfl, hb.below⟩

end Go.Proofs.Ytbmkpcenjjdflaa

/- Triples drawn. -/
namespace Go.Proofs.Ytbmkpcenjjdflaa
open Go.RowKit Go.Proofs.Ytbmkpcenjjdflaa.PFnMarkov Go.Proofs.YtbmkpcenjjdflaaW.PrintWords
set_option linter.unusedSimpArgs false
theorem i012L {i : Int} (h : i ∈ [0, 0, 1, 1, 2]) : i = 0 ∨ i = 1 ∨ i = 2 := by
  simp at h
  omega
set_option maxHeartbeats 2000000 in
theorem l09Draw_any {w0 w : World} {g : Nat} {code : List Int} (hS : Src w0 w g code) (hB : Below w0.heap.size w0 w) :
    Calls Try.prog 38 #[.pointer (some ⟨g, 0, none⟩)] w fun e w' => ∃ t : T3, e = .returned (tv t) ∧ t.ok = true ∧ Kpt w0 w w' g code := by
  have hg := hS.lt
  have K0 := Kpt.refl hS hB
  go_enter Try.func38, Try.ntmps38
  go_wp2_with fail
  refine (pick_src (w0 := w0) (wa := w) (code := code) (b := w.heap.size + 1 + 1) [4, 8, 14] #[.int .i64 4, .int .i64 8, .int .i64 14] (by repeat (first | (with_reducible assumption) | (with_reducible refine Kpt.drew ?_) | (with_reducible refine Kpt.drewN ?_) | (with_reducible refine Kpt.alloc ?_) | ((with_reducible refine Kpt.put ?_ ?_ ?_); (· omega); (· omega)))) (by repeat (first | (with_reducible assumption) | ((with_reducible refine Blk.new ?_); · first | omega | (simp; done) | (simp; omega)) | (with_reducible apply Blk.set4) | (with_reducible apply Blk.set3) | (with_reducible apply Blk.set2) | ((with_reducible refine Blk.put ?_ ?_); · first | omega | (simp; omega)) | (with_reducible refine Blk.old ?_) | (with_reducible refine Blk.drew ?_) | (with_reducible refine Blk.drewN ?_) | ((with_reducible refine Blk.below hb ?_ ?_); · first | omega | (simp; done) | (simp; omega)) | ((with_reducible refine Blk.keep kk ?_ ?_); · first | omega | (simp; done) | (simp; omega)))) rfl (by simp) (by simp [maxLen]) 3 rfl).mono ?_
  rintro e w1 ⟨m, rfl, hm, kp⟩
  have K1 : Kpt w0 w w1 g code := Kpt.step (by repeat (first | (with_reducible assumption) | (with_reducible refine Kpt.drew ?_) | (with_reducible refine Kpt.drewN ?_) | (with_reducible refine Kpt.alloc ?_) | ((with_reducible refine Kpt.put ?_ ?_ ?_); (· omega); (· omega)))) kp
  have kk := kp.2.2
  have s1 := kp.size
  simp at s1
  have A0 : Blk w1 w.heap.size 36 (tcs ⟨0, 0, 0⟩) := (by repeat (first | (with_reducible assumption) | ((with_reducible refine Blk.new ?_); · first | omega | (simp; done) | (simp; omega)) | (with_reducible apply Blk.set4) | (with_reducible apply Blk.set3) | (with_reducible apply Blk.set2) | ((with_reducible refine Blk.put ?_ ?_); · first | omega | (simp; omega)) | (with_reducible refine Blk.old ?_) | (with_reducible refine Blk.drew ?_) | (with_reducible refine Blk.drewN ?_) | ((with_reducible refine Blk.below hb ?_ ?_); · first | omega | (simp; done) | (simp; omega)) | ((with_reducible refine Blk.keep kk ?_ ?_); · first | omega | (simp; done) | (simp; omega))))
  have A1 : Blk w1 (w.heap.size + 1) 36 (tcs ⟨1, 1, 1⟩) := (by repeat (first | (with_reducible assumption) | ((with_reducible refine Blk.new ?_); · first | omega | (simp; done) | (simp; omega)) | (with_reducible apply Blk.set4) | (with_reducible apply Blk.set3) | (with_reducible apply Blk.set2) | ((with_reducible refine Blk.put ?_ ?_); · first | omega | (simp; omega)) | (with_reducible refine Blk.old ?_) | (with_reducible refine Blk.drew ?_) | (with_reducible refine Blk.drewN ?_) | ((with_reducible refine Blk.below hb ?_ ?_); · first | omega | (simp; done) | (simp; omega)) | ((with_reducible refine Blk.keep kk ?_ ?_); · first | omega | (simp; done) | (simp; omega))))
  clear kp kk K0 hS hB
  go_wp2_with fail
  refine (next_src (w0 := w0) (wa := w) (code := code) m (by repeat (first | (with_reducible assumption) | (with_reducible refine Kpt.drew ?_) | (with_reducible refine Kpt.drewN ?_) | (with_reducible refine Kpt.alloc ?_) | ((with_reducible refine Kpt.put ?_ ?_ ?_); (· omega); (· omega)))) (by simp at hm; omega)).mono ?_
  rintro e w2 ⟨k, rfl, hk, kp⟩
  have K2 : Kpt w0 w w2 g code := Kpt.step (by repeat (first | (with_reducible assumption) | (with_reducible refine Kpt.drew ?_) | (with_reducible refine Kpt.drewN ?_) | (with_reducible refine Kpt.alloc ?_) | ((with_reducible refine Kpt.put ?_ ?_ ?_); (· omega); (· omega)))) kp
  have kk := kp.2.2
  have s2 := kp.size
  have B0 : Blk w2 w.heap.size 36 (tcs ⟨0, 0, 0⟩) := (by repeat (first | (with_reducible assumption) | ((with_reducible refine Blk.new ?_); · first | omega | (simp; done) | (simp; omega)) | (with_reducible apply Blk.set4) | (with_reducible apply Blk.set3) | (with_reducible apply Blk.set2) | ((with_reducible refine Blk.put ?_ ?_); · first | omega | (simp; omega)) | (with_reducible refine Blk.old ?_) | (with_reducible refine Blk.drew ?_) | (with_reducible refine Blk.drewN ?_) | ((with_reducible refine Blk.below hb ?_ ?_); · first | omega | (simp; done) | (simp; omega)) | ((with_reducible refine Blk.keep kk ?_ ?_); · first | omega | (simp; done) | (simp; omega))))
  have B1 : Blk w2 (w.heap.size + 1) 36 (tcs ⟨1, 1, 1⟩) := (by repeat (first | (with_reducible assumption) | ((with_reducible refine Blk.new ?_); · first | omega | (simp; done) | (simp; omega)) | (with_reducible apply Blk.set4) | (with_reducible apply Blk.set3) | (with_reducible apply Blk.set2) | ((with_reducible refine Blk.put ?_ ?_); · first | omega | (simp; omega)) | (with_reducible refine Blk.old ?_) | (with_reducible refine Blk.drew ?_) | (with_reducible refine Blk.drewN ?_) | ((with_reducible refine Blk.below hb ?_ ?_); · first | omega | (simp; done) | (simp; omega)) | ((with_reducible refine Blk.keep kk ?_ ?_); · first | omega | (simp; done) | (simp; omega))))
  clear kp kk A0 A1 K1 s1
  go_wp2_with fail
  go_loopw [4, 5] (fun vk v5 wr => ∃ (j : Int) (t : T3), vk = .int .i64 j ∧ t.ok = true ∧ Blk wr w.heap.size 36 (tcs ⟨0, 0, 0⟩) ∧ Blk wr (w.heap.size + 1) 36 (tcs t) ∧ Kpt w0 w wr g code ∧ (0 ≤ j ∧ j ≤ 14)) (fun vk _ _ => (intOf vk).toNat)
  case atStart => exact ⟨k, _, rfl, by decide, B0, B1, K2, by simp at hm; omega⟩
  case round =>
    clear B0 B1 K2 hk hm s2
    obtain ⟨j, t, rfl, ht, B0, B1, K2, hj⟩ := hrel
    have s2 := K2.size
    have hs := T3.ok_small ht
    have q1 := B1.t
    have q0 := B0.t
    have f0 := B0.tf
    have l0 := B0.lt
    have l1 := B1.lt
    by_cases hz : 0 < j
    · go_wp2_with fail
      go_cut [5] (fun s5 wx => ∃ (i : Int) (b : Nat), s5 = .pointer (some ⟨b, 0, none⟩) ∧ (i = 0 ∨ i = 1 ∨ i = 2) ∧ Blk wx b 36 (tcs (t.nb i)) ∧ wr.heap.size ≤ b ∧ Blk wx w.heap.size 36 (tcs ⟨0, 0, 0⟩) ∧ Blk wx (w.heap.size + 1) 36 (tcs t) ∧ Kpt w0 w wx g code)
      case first =>
        go_region_held3 (fun w' => w'.cell? ⟨w.heap.size + 1, 0, none⟩ = some (.int .i64 t.x) ∧ w'.cell? ⟨w.heap.size + 1, 1, none⟩ = some (.int .i64 t.y) ∧ w'.cell? ⟨w.heap.size + 1, 2, none⟩ = some (.int .i64 t.z)) (first | go_keep | (refine ⟨?_, ?_, ?_⟩ <;> ((repeat rw [cell_put (by omega)]); go_keep)))
          (first
          | (go_at_call 45; refine (pick_src (w0 := w0) (wa := w) (code := code) [0, 0, 1, 1, 2] #[.int .i64 0, .int .i64 0, .int .i64 1, .int .i64 1, .int .i64 2] (by repeat (first | (with_reducible assumption) | (with_reducible refine Kpt.drew ?_) | (with_reducible refine Kpt.drewN ?_) | (with_reducible refine Kpt.alloc ?_) | ((with_reducible refine Kpt.put ?_ ?_ ?_); (· omega); (· omega)))) (by repeat (first | (with_reducible assumption) | ((with_reducible refine Blk.new ?_); · first | omega | (simp; done) | (simp; omega)) | (with_reducible apply Blk.set4) | (with_reducible apply Blk.set3) | (with_reducible apply Blk.set2) | ((with_reducible refine Blk.put ?_ ?_); · first | omega | (simp; omega)) | (with_reducible refine Blk.old ?_) | (with_reducible refine Blk.drew ?_) | (with_reducible refine Blk.drewN ?_) | ((with_reducible refine Blk.below hb ?_ ?_); · first | omega | (simp; done) | (simp; omega)) | ((with_reducible refine Blk.keep kk ?_ ?_); · first | omega | (simp; done) | (simp; omega)))) rfl (by simp) (by simp [maxLen]) 5 rfl).mono ?_; rintro e w4 ⟨i, rfl, hi, kp⟩; have K4 : Kpt w0 w w4 g code := Kpt.step (by repeat (first | (with_reducible assumption) | (with_reducible refine Kpt.drew ?_) | (with_reducible refine Kpt.drewN ?_) | (with_reducible refine Kpt.alloc ?_) | ((with_reducible refine Kpt.put ?_ ?_ ?_); (· omega); (· omega)))) kp; have kk := kp.2.2; have s4 := kp.size; (try simp at s4); have E0 : Blk w4 w.heap.size 36 (tcs ⟨0, 0, 0⟩) := (by repeat (first | (with_reducible assumption) | ((with_reducible refine Blk.new ?_); · first | omega | (simp; done) | (simp; omega)) | (with_reducible apply Blk.set4) | (with_reducible apply Blk.set3) | (with_reducible apply Blk.set2) | ((with_reducible refine Blk.put ?_ ?_); · first | omega | (simp; omega)) | (with_reducible refine Blk.old ?_) | (with_reducible refine Blk.drew ?_) | (with_reducible refine Blk.drewN ?_) | ((with_reducible refine Blk.below hb ?_ ?_); · first | omega | (simp; done) | (simp; omega)) | ((with_reducible refine Blk.keep kk ?_ ?_); · first | omega | (simp; done) | (simp; omega)))); have E1 : Blk w4 (w.heap.size + 1) 36 (tcs t) := (by repeat (first | (with_reducible assumption) | ((with_reducible refine Blk.new ?_); · first | omega | (simp; done) | (simp; omega)) | (with_reducible apply Blk.set4) | (with_reducible apply Blk.set3) | (with_reducible apply Blk.set2) | ((with_reducible refine Blk.put ?_ ?_); · first | omega | (simp; omega)) | (with_reducible refine Blk.old ?_) | (with_reducible refine Blk.drew ?_) | (with_reducible refine Blk.drewN ?_) | ((with_reducible refine Blk.below hb ?_ ?_); · first | omega | (simp; done) | (simp; omega)) | ((with_reducible refine Blk.keep kk ?_ ?_); · first | omega | (simp; done) | (simp; omega)))); (try have E5 : Blk w4 wr.heap.size 36 (tcs ⟨0, 0, 0⟩) := (by (repeat (first | (with_reducible assumption) | ((with_reducible refine Blk.new ?_); · first | omega | (simp; done) | (simp; omega)) | (with_reducible apply Blk.set4) | (with_reducible apply Blk.set3) | (with_reducible apply Blk.set2) | ((with_reducible refine Blk.put ?_ ?_); · first | omega | (simp; omega)) | (with_reducible refine Blk.old ?_) | (with_reducible refine Blk.drew ?_) | (with_reducible refine Blk.drewN ?_) | ((with_reducible refine Blk.below hb ?_ ?_); · first | omega | (simp; done) | (simp; omega)) | ((with_reducible refine Blk.keep kk ?_ ?_); · first | omega | (simp; done) | (simp; omega)))); first | done | fail)); (try have E6 : Blk w4 (wr.heap.size + 1) 36 (tcs ⟨0, 0, 0⟩) := (by (repeat (first | (with_reducible assumption) | ((with_reducible refine Blk.new ?_); · first | omega | (simp; done) | (simp; omega)) | (with_reducible apply Blk.set4) | (with_reducible apply Blk.set3) | (with_reducible apply Blk.set2) | ((with_reducible refine Blk.put ?_ ?_); · first | omega | (simp; omega)) | (with_reducible refine Blk.old ?_) | (with_reducible refine Blk.drew ?_) | (with_reducible refine Blk.drewN ?_) | ((with_reducible refine Blk.below hb ?_ ?_); · first | omega | (simp; done) | (simp; omega)) | ((with_reducible refine Blk.keep kk ?_ ?_); · first | omega | (simp; done) | (simp; omega)))); first | done | fail)); have hi := i012L hi; clear kp kk; have e1 := E1.t; have m0 := E0.lt; have m1 := E1.lt; (try have m5 := E5.lt); (try have m6 := E6.lt); (try have e5 := E5.tf); (try have e6 := E6.tf); (try have g5 := E5.t); (try have g6 := E6.t))
          | (go_at_call 42; refine (l09Neighbour_any t i _ hs hi).mono ?_; rintro e w5 ⟨rfl, hb⟩; have K5 : Kpt w0 w w5 g code := Kpt.below hb (by repeat (first | (with_reducible assumption) | (with_reducible refine Kpt.drew ?_) | (with_reducible refine Kpt.drewN ?_) | (with_reducible refine Kpt.alloc ?_) | ((with_reducible refine Kpt.put ?_ ?_ ?_); (· omega); (· omega)))); have s5 := hb.size; (try simp at s5); have F0 : Blk w5 w.heap.size 36 (tcs ⟨0, 0, 0⟩) := (by repeat (first | (with_reducible assumption) | ((with_reducible refine Blk.new ?_); · first | omega | (simp; done) | (simp; omega)) | (with_reducible apply Blk.set4) | (with_reducible apply Blk.set3) | (with_reducible apply Blk.set2) | ((with_reducible refine Blk.put ?_ ?_); · first | omega | (simp; omega)) | (with_reducible refine Blk.old ?_) | (with_reducible refine Blk.drew ?_) | (with_reducible refine Blk.drewN ?_) | ((with_reducible refine Blk.below hb ?_ ?_); · first | omega | (simp; done) | (simp; omega)) | ((with_reducible refine Blk.keep kk ?_ ?_); · first | omega | (simp; done) | (simp; omega)))); have F1 : Blk w5 (w.heap.size + 1) 36 (tcs t) := (by repeat (first | (with_reducible assumption) | ((with_reducible refine Blk.new ?_); · first | omega | (simp; done) | (simp; omega)) | (with_reducible apply Blk.set4) | (with_reducible apply Blk.set3) | (with_reducible apply Blk.set2) | ((with_reducible refine Blk.put ?_ ?_); · first | omega | (simp; omega)) | (with_reducible refine Blk.old ?_) | (with_reducible refine Blk.drew ?_) | (with_reducible refine Blk.drewN ?_) | ((with_reducible refine Blk.below hb ?_ ?_); · first | omega | (simp; done) | (simp; omega)) | ((with_reducible refine Blk.keep kk ?_ ?_); · first | omega | (simp; done) | (simp; omega)))); (try have F5 : Blk w5 wr.heap.size 36 (tcs ⟨0, 0, 0⟩) := (by (repeat (first | (with_reducible assumption) | ((with_reducible refine Blk.new ?_); · first | omega | (simp; done) | (simp; omega)) | (with_reducible apply Blk.set4) | (with_reducible apply Blk.set3) | (with_reducible apply Blk.set2) | ((with_reducible refine Blk.put ?_ ?_); · first | omega | (simp; omega)) | (with_reducible refine Blk.old ?_) | (with_reducible refine Blk.drew ?_) | (with_reducible refine Blk.drewN ?_) | ((with_reducible refine Blk.below hb ?_ ?_); · first | omega | (simp; done) | (simp; omega)) | ((with_reducible refine Blk.keep kk ?_ ?_); · first | omega | (simp; done) | (simp; omega)))); first | done | fail)); (try have F6 : Blk w5 (wr.heap.size + 1) 36 (tcs ⟨0, 0, 0⟩) := (by (repeat (first | (with_reducible assumption) | ((with_reducible refine Blk.new ?_); · first | omega | (simp; done) | (simp; omega)) | (with_reducible apply Blk.set4) | (with_reducible apply Blk.set3) | (with_reducible apply Blk.set2) | ((with_reducible refine Blk.put ?_ ?_); · first | omega | (simp; omega)) | (with_reducible refine Blk.old ?_) | (with_reducible refine Blk.drew ?_) | (with_reducible refine Blk.drewN ?_) | ((with_reducible refine Blk.below hb ?_ ?_); · first | omega | (simp; done) | (simp; omega)) | ((with_reducible refine Blk.keep kk ?_ ?_); · first | omega | (simp; done) | (simp; omega)))); first | done | fail)); (try have F7 : Blk w5 w4.heap.size 36 (tcs ⟨0, 0, 0⟩) := (by (repeat (first | (with_reducible assumption) | ((with_reducible refine Blk.new ?_); · first | omega | (simp; done) | (simp; omega)) | (with_reducible apply Blk.set4) | (with_reducible apply Blk.set3) | (with_reducible apply Blk.set2) | ((with_reducible refine Blk.put ?_ ?_); · first | omega | (simp; omega)) | (with_reducible refine Blk.old ?_) | (with_reducible refine Blk.drew ?_) | (with_reducible refine Blk.drewN ?_) | ((with_reducible refine Blk.below hb ?_ ?_); · first | omega | (simp; done) | (simp; omega)) | ((with_reducible refine Blk.keep kk ?_ ?_); · first | omega | (simp; done) | (simp; omega)))); first | done | fail)); clear hb; have r1 := F1.t; have n0 := F0.lt; have n1 := F1.lt; (try have n5 := F5.lt); (try have n6 := F6.lt); (try have n7 := F7.lt); (try have r5 := F5.tf); (try have r6 := F6.tf); (try have r7 := F7.tf); (try have v5 := F5.t); (try have v6 := F6.t); (try have v7 := F7.t)))
        all_goals go_wp2_with fail
        all_goals go_meet
        all_goals exact ⟨i, _, rfl, hi, (by repeat (first | (with_reducible assumption) | ((with_reducible refine Blk.new ?_); · first | omega | (simp; done) | (simp; omega)) | (with_reducible apply Blk.set4) | (with_reducible apply Blk.set3) | (with_reducible apply Blk.set2) | ((with_reducible refine Blk.put ?_ ?_); · first | omega | (simp; omega)) | (with_reducible refine Blk.old ?_) | (with_reducible refine Blk.drew ?_) | (with_reducible refine Blk.drewN ?_) | ((with_reducible refine Blk.below hb ?_ ?_); · first | omega | (simp; done) | (simp; omega)) | ((with_reducible refine Blk.keep kk ?_ ?_); · first | omega | (simp; done) | (simp; omega)))), by omega, (by repeat (first | (with_reducible assumption) | ((with_reducible refine Blk.new ?_); · first | omega | (simp; done) | (simp; omega)) | (with_reducible apply Blk.set4) | (with_reducible apply Blk.set3) | (with_reducible apply Blk.set2) | ((with_reducible refine Blk.put ?_ ?_); · first | omega | (simp; omega)) | (with_reducible refine Blk.old ?_) | (with_reducible refine Blk.drew ?_) | (with_reducible refine Blk.drewN ?_) | ((with_reducible refine Blk.below hb ?_ ?_); · first | omega | (simp; done) | (simp; omega)) | ((with_reducible refine Blk.keep kk ?_ ?_); · first | omega | (simp; done) | (simp; omega)))), (by repeat (first | (with_reducible assumption) | ((with_reducible refine Blk.new ?_); · first | omega | (simp; done) | (simp; omega)) | (with_reducible apply Blk.set4) | (with_reducible apply Blk.set3) | (with_reducible apply Blk.set2) | ((with_reducible refine Blk.put ?_ ?_); · first | omega | (simp; omega)) | (with_reducible refine Blk.old ?_) | (with_reducible refine Blk.drew ?_) | (with_reducible refine Blk.drewN ?_) | ((with_reducible refine Blk.below hb ?_ ?_); · first | omega | (simp; done) | (simp; omega)) | ((with_reducible refine Blk.keep kk ?_ ?_); · first | omega | (simp; done) | (simp; omega)))), (by repeat (first | (with_reducible assumption) | (with_reducible refine Kpt.drew ?_) | (with_reducible refine Kpt.drewN ?_) | (with_reducible refine Kpt.alloc ?_) | ((with_reducible refine Kpt.put ?_ ?_ ?_); (· omega); (· omega))))⟩
      case rest =>
        obtain ⟨i, b, rfl, hi, C5, hb5, C0, C1, K3⟩ := hcut
        have HN := Lib.hid (fun h => nb_okI ht hi h)
        generalize t.nb i = nx at *
        have s3 := K3.size
        clear B0 B1 K2 q0 q1 f0 l0 l1 s2 hs
        have q0 := C0.t
        have f0 := C0.tf
        have q1 := C1.t
        have f1 := C1.tf
        have q5 := C5.t
        have f5 := C5.tf
        have l0 := C0.lt
        have l1 := C1.lt
        have l5 := C5.lt
        by_cases hn : nx.z ≤ 1000000000
        · go_wp2
          exact ⟨⟨j - 1, nx, rfl, HN.out hn, (by repeat (first | (with_reducible assumption) | ((with_reducible refine Blk.new ?_); · first | omega | (simp; done) | (simp; omega)) | (with_reducible apply Blk.set4) | (with_reducible apply Blk.set3) | (with_reducible apply Blk.set2) | ((with_reducible refine Blk.put ?_ ?_); · first | omega | (simp; omega)) | (with_reducible refine Blk.old ?_) | (with_reducible refine Blk.drew ?_) | (with_reducible refine Blk.drewN ?_) | ((with_reducible refine Blk.below hb ?_ ?_); · first | omega | (simp; done) | (simp; omega)) | ((with_reducible refine Blk.keep kk ?_ ?_); · first | omega | (simp; done) | (simp; omega)))), (by repeat (first | (with_reducible assumption) | ((with_reducible refine Blk.new ?_); · first | omega | (simp; done) | (simp; omega)) | (with_reducible apply Blk.set4) | (with_reducible apply Blk.set3) | (with_reducible apply Blk.set2) | ((with_reducible refine Blk.put ?_ ?_); · first | omega | (simp; omega)) | (with_reducible refine Blk.old ?_) | (with_reducible refine Blk.drew ?_) | (with_reducible refine Blk.drewN ?_) | ((with_reducible refine Blk.below hb ?_ ?_); · first | omega | (simp; done) | (simp; omega)) | ((with_reducible refine Blk.keep kk ?_ ?_); · first | omega | (simp; done) | (simp; omega)))), (by repeat (first | (with_reducible assumption) | (with_reducible refine Kpt.drew ?_) | (with_reducible refine Kpt.drewN ?_) | (with_reducible refine Kpt.alloc ?_) | ((with_reducible refine Kpt.put ?_ ?_ ?_); (· omega); (· omega)))), by omega⟩, by simp only [intOf]; omega⟩
        · go_wp2
          refine ret_at (v := tv t) (fun w' => Blk w' (w.heap.size) 36 (tcs t)) (by repeat (first | (with_reducible assumption) | ((with_reducible refine Blk.new ?_); · first | omega | (simp; done) | (simp; omega)) | (with_reducible apply Blk.set4) | (with_reducible apply Blk.set3) | (with_reducible apply Blk.set2) | ((with_reducible refine Blk.put ?_ ?_); · first | omega | (simp; omega)) | (with_reducible refine Blk.old ?_) | (with_reducible refine Blk.drew ?_) | (with_reducible refine Blk.drewN ?_) | ((with_reducible refine Blk.below hb ?_ ?_); · first | omega | (simp; done) | (simp; omega)) | ((with_reducible refine Blk.keep kk ?_ ?_); · first | omega | (simp; done) | (simp; omega)))) (fun w' hB => by have q := hB.t; simp [results, Try.results38, go_sem, q]) rfl ?_
          exact ⟨t, rfl, ht, (by repeat (first | (with_reducible assumption) | (with_reducible refine Kpt.drew ?_) | (with_reducible refine Kpt.drewN ?_) | (with_reducible refine Kpt.alloc ?_) | ((with_reducible refine Kpt.put ?_ ?_ ?_); (· omega); (· omega))))⟩
    · go_wp2
      refine ret_at (v := tv t) (fun w' => Blk w' (w.heap.size) 36 (tcs t)) (by repeat (first | (with_reducible assumption) | ((with_reducible refine Blk.new ?_); · first | omega | (simp; done) | (simp; omega)) | (with_reducible apply Blk.set4) | (with_reducible apply Blk.set3) | (with_reducible apply Blk.set2) | ((with_reducible refine Blk.put ?_ ?_); · first | omega | (simp; omega)) | (with_reducible refine Blk.old ?_) | (with_reducible refine Blk.drew ?_) | (with_reducible refine Blk.drewN ?_) | ((with_reducible refine Blk.below hb ?_ ?_); · first | omega | (simp; done) | (simp; omega)) | ((with_reducible refine Blk.keep kk ?_ ?_); · first | omega | (simp; done) | (simp; omega)))) (fun w' hB => by have q := hB.t; simp [results, Try.results38, go_sem, q]) rfl ?_
      exact ⟨t, rfl, ht, (by repeat (first | (with_reducible assumption) | (with_reducible refine Kpt.drew ?_) | (with_reducible refine Kpt.drewN ?_) | (with_reducible refine Kpt.alloc ?_) | ((with_reducible refine Kpt.put ?_ ?_ ?_); (· omega); (· omega))))⟩

end Go.Proofs.Ytbmkpcenjjdflaa

/- Triples drawn, seldom something else. -/
namespace Go.Proofs.Ytbmkpcenjjdflaa
open Go.RowKit Go.Proofs.Ytbmkpcenjjdflaa.PFnMarkov Go.Proofs.YtbmkpcenjjdflaaW.PrintWords
set_option linter.unusedSimpArgs false
set_option maxHeartbeats 2000000 in
theorem l09Bad_any {w0 w : World} {g : Nat} {code : List Int} (t : T3) (hK : Kpt w0 w w g code) :
    Calls Try.prog 37 #[.pointer (some ⟨g, 0, none⟩), .agg #[.int .i64 t.x, .int .i64 t.y, .int .i64 t.z]] w fun e w' => ∃ u : T3, e = .returned (tv u) ∧ Kpt w0 w w' g code := by
  have hg := hK.1.lt
  go_enter Try.func37, Try.ntmps37
  go_wp2_with fail
  refine (next_src (w0 := w0) (wa := w) (code := code) 24 (by repeat (first | (with_reducible assumption) | (with_reducible refine Kpt.drew ?_) | (with_reducible refine Kpt.drewN ?_) | (with_reducible refine Kpt.alloc ?_) | ((with_reducible refine Kpt.put ?_ ?_ ?_); (· omega); (· omega)))) (by decide)).mono ?_
  rintro e w1 ⟨k, rfl, hk, kp⟩
  have K1 : Kpt w0 w w1 g code := Kpt.step (by repeat (first | (with_reducible assumption) | (with_reducible refine Kpt.drew ?_) | (with_reducible refine Kpt.drewN ?_) | (with_reducible refine Kpt.alloc ?_) | ((with_reducible refine Kpt.put ?_ ?_ ?_); (· omega); (· omega)))) kp
  have kk := kp.2.2
  have s1 := kp.size
  simp at s1
  have A0 : Blk w1 w.heap.size 36 (tcs t) := (by repeat (first | (with_reducible assumption) | ((with_reducible refine Blk.new ?_); · first | omega | (simp; done) | (simp; omega)) | (with_reducible apply Blk.set4) | (with_reducible apply Blk.set3) | (with_reducible apply Blk.set2) | ((with_reducible refine Blk.put ?_ ?_); · first | omega | (simp; omega)) | (with_reducible refine Blk.old ?_) | (with_reducible refine Blk.drew ?_) | (with_reducible refine Blk.drewN ?_) | ((with_reducible refine Blk.below hb ?_ ?_); · first | omega | (simp; done) | (simp; omega)) | ((with_reducible refine Blk.keep kk ?_ ?_); · first | omega | (simp; done) | (simp; omega))))
  have A1 : Blk w1 (w.heap.size + 1) 36 (tcs ⟨0, 0, 0⟩) := (by repeat (first | (with_reducible assumption) | ((with_reducible refine Blk.new ?_); · first | omega | (simp; done) | (simp; omega)) | (with_reducible apply Blk.set4) | (with_reducible apply Blk.set3) | (with_reducible apply Blk.set2) | ((with_reducible refine Blk.put ?_ ?_); · first | omega | (simp; omega)) | (with_reducible refine Blk.old ?_) | (with_reducible refine Blk.drew ?_) | (with_reducible refine Blk.drewN ?_) | ((with_reducible refine Blk.below hb ?_ ?_); · first | omega | (simp; done) | (simp; omega)) | ((with_reducible refine Blk.keep kk ?_ ?_); · first | omega | (simp; done) | (simp; omega))))
  clear kp kk hK
  have q0 := A0.t
  have f0 := A0.tf
  have q1 := A1.t
  have f1 := A1.tf
  have l0 := A0.lt
  have l1 := A1.lt
  by_cases h0 : k = 0
  · subst h0
    go_wp2_with fail
    refine (next_src (w0 := w0) (wa := w) (code := code) 3 (by repeat (first | (with_reducible assumption) | (with_reducible refine Kpt.drew ?_) | (with_reducible refine Kpt.drewN ?_) | (with_reducible refine Kpt.alloc ?_) | ((with_reducible refine Kpt.put ?_ ?_ ?_); (· omega); (· omega)))) (by decide)).mono ?_
    rintro e w2 ⟨r, rfl, hr, kp⟩
    have K2 : Kpt w0 w w2 g code := Kpt.step (by repeat (first | (with_reducible assumption) | (with_reducible refine Kpt.drew ?_) | (with_reducible refine Kpt.drewN ?_) | (with_reducible refine Kpt.alloc ?_) | ((with_reducible refine Kpt.put ?_ ?_ ?_); (· omega); (· omega)))) kp
    have kk := kp.2.2
    have s2 := kp.size
    have B0 : Blk w2 w.heap.size 36 (tcs t) := (by repeat (first | (with_reducible assumption) | ((with_reducible refine Blk.new ?_); · first | omega | (simp; done) | (simp; omega)) | (with_reducible apply Blk.set4) | (with_reducible apply Blk.set3) | (with_reducible apply Blk.set2) | ((with_reducible refine Blk.put ?_ ?_); · first | omega | (simp; omega)) | (with_reducible refine Blk.old ?_) | (with_reducible refine Blk.drew ?_) | (with_reducible refine Blk.drewN ?_) | ((with_reducible refine Blk.below hb ?_ ?_); · first | omega | (simp; done) | (simp; omega)) | ((with_reducible refine Blk.keep kk ?_ ?_); · first | omega | (simp; done) | (simp; omega))))
    have B1 : Blk w2 (w.heap.size + 1) 36 (tcs ⟨0, 0, 0⟩) := (by repeat (first | (with_reducible assumption) | ((with_reducible refine Blk.new ?_); · first | omega | (simp; done) | (simp; omega)) | (with_reducible apply Blk.set4) | (with_reducible apply Blk.set3) | (with_reducible apply Blk.set2) | ((with_reducible refine Blk.put ?_ ?_); · first | omega | (simp; omega)) | (with_reducible refine Blk.old ?_) | (with_reducible refine Blk.drew ?_) | (with_reducible refine Blk.drewN ?_) | ((with_reducible refine Blk.below hb ?_ ?_); · first | omega | (simp; done) | (simp; omega)) | ((with_reducible refine Blk.keep kk ?_ ?_); · first | omega | (simp; done) | (simp; omega))))
    clear kp kk q0 f0 q1 f1 l0 l1 A0 A1 K1
    go_wp2_with fail
    refine (pick_src (w0 := w0) (wa := w) (code := code) [0, 1, 2, -1, 1099511627776, 4611686018427387904] #[.int .i64 0, .int .i64 1, .int .i64 2, .int .i64 (-1), .int .i64 1099511627776, .int .i64 4611686018427387904] (by repeat (first | (with_reducible assumption) | (with_reducible refine Kpt.drew ?_) | (with_reducible refine Kpt.drewN ?_) | (with_reducible refine Kpt.alloc ?_) | ((with_reducible refine Kpt.put ?_ ?_ ?_); (· omega); (· omega)))) (by repeat (first | (with_reducible assumption) | ((with_reducible refine Blk.new ?_); · first | omega | (simp; done) | (simp; omega)) | (with_reducible apply Blk.set4) | (with_reducible apply Blk.set3) | (with_reducible apply Blk.set2) | ((with_reducible refine Blk.put ?_ ?_); · first | omega | (simp; omega)) | (with_reducible refine Blk.old ?_) | (with_reducible refine Blk.drew ?_) | (with_reducible refine Blk.drewN ?_) | ((with_reducible refine Blk.below hb ?_ ?_); · first | omega | (simp; done) | (simp; omega)) | ((with_reducible refine Blk.keep kk ?_ ?_); · first | omega | (simp; done) | (simp; omega)))) rfl (by simp) (by simp [maxLen]) 6 rfl).mono ?_
    rintro e w3 ⟨x, rfl, -, kp⟩
    have K3 : Kpt w0 w w3 g code := Kpt.step (by repeat (first | (with_reducible assumption) | (with_reducible refine Kpt.drew ?_) | (with_reducible refine Kpt.drewN ?_) | (with_reducible refine Kpt.alloc ?_) | ((with_reducible refine Kpt.put ?_ ?_ ?_); (· omega); (· omega)))) kp
    have kk := kp.2.2
    have s3 := kp.size
    simp at s3
    have C0 : Blk w3 w.heap.size 36 (tcs t) := (by repeat (first | (with_reducible assumption) | ((with_reducible refine Blk.new ?_); · first | omega | (simp; done) | (simp; omega)) | (with_reducible apply Blk.set4) | (with_reducible apply Blk.set3) | (with_reducible apply Blk.set2) | ((with_reducible refine Blk.put ?_ ?_); · first | omega | (simp; omega)) | (with_reducible refine Blk.old ?_) | (with_reducible refine Blk.drew ?_) | (with_reducible refine Blk.drewN ?_) | ((with_reducible refine Blk.below hb ?_ ?_); · first | omega | (simp; done) | (simp; omega)) | ((with_reducible refine Blk.keep kk ?_ ?_); · first | omega | (simp; done) | (simp; omega))))
    have C1 : Blk w3 (w.heap.size + 1) 36 (tcs ⟨0, 0, 0⟩) := (by repeat (first | (with_reducible assumption) | ((with_reducible refine Blk.new ?_); · first | omega | (simp; done) | (simp; omega)) | (with_reducible apply Blk.set4) | (with_reducible apply Blk.set3) | (with_reducible apply Blk.set2) | ((with_reducible refine Blk.put ?_ ?_); · first | omega | (simp; omega)) | (with_reducible refine Blk.old ?_) | (with_reducible refine Blk.drew ?_) | (with_reducible refine Blk.drewN ?_) | ((with_reducible refine Blk.below hb ?_ ?_); · first | omega | (simp; done) | (simp; omega)) | ((with_reducible refine Blk.keep kk ?_ ?_); · first | omega | (simp; done) | (simp; omega))))
    clear kp kk B0 B1 K2
    have q0 := C0.t
    have f0 := C0.tf
    have q1 := C1.t
    have f1 := C1.tf
    have l0 := C0.lt
    have l1 := C1.lt
    rcases (show r = 0 ∨ r = 1 ∨ r = 2 by omega) with rfl | rfl | rfl
    · have D0 : Blk (w3.setCell ⟨w.heap.size, 0, none⟩ (.int .i64 x)) w.heap.size 36 (tcs ⟨x, t.y, t.z⟩) := C0.set
      go_wp2
      refine ret_at (v := tv ⟨x, t.y, t.z⟩) (fun w' => Blk w' (w.heap.size + 1) 36 (tcs ⟨x, t.y, t.z⟩)) (by repeat (first | (with_reducible assumption) | ((with_reducible refine Blk.new ?_); · first | omega | (simp; done) | (simp; omega)) | (with_reducible apply Blk.set4) | (with_reducible apply Blk.set3) | (with_reducible apply Blk.set2) | ((with_reducible refine Blk.put ?_ ?_); · first | omega | (simp; omega)) | (with_reducible refine Blk.old ?_) | (with_reducible refine Blk.drew ?_) | (with_reducible refine Blk.drewN ?_) | ((with_reducible refine Blk.below hb ?_ ?_); · first | omega | (simp; done) | (simp; omega)) | ((with_reducible refine Blk.keep kk ?_ ?_); · first | omega | (simp; done) | (simp; omega)))) (fun w' hB => by have q := hB.t; simp [results, Try.results37, go_sem, q]) rfl ?_
      exact ⟨_, rfl, (by repeat (first | (with_reducible assumption) | (with_reducible refine Kpt.drew ?_) | (with_reducible refine Kpt.drewN ?_) | (with_reducible refine Kpt.alloc ?_) | ((with_reducible refine Kpt.put ?_ ?_ ?_); (· omega); (· omega))))⟩
    · have D0 : Blk (w3.setCell ⟨w.heap.size, 1, none⟩ (.int .i64 x)) w.heap.size 36 (tcs ⟨t.x, x, t.z⟩) := C0.set
      go_wp2
      refine ret_at (v := tv ⟨t.x, x, t.z⟩) (fun w' => Blk w' (w.heap.size + 1) 36 (tcs ⟨t.x, x, t.z⟩)) (by repeat (first | (with_reducible assumption) | ((with_reducible refine Blk.new ?_); · first | omega | (simp; done) | (simp; omega)) | (with_reducible apply Blk.set4) | (with_reducible apply Blk.set3) | (with_reducible apply Blk.set2) | ((with_reducible refine Blk.put ?_ ?_); · first | omega | (simp; omega)) | (with_reducible refine Blk.old ?_) | (with_reducible refine Blk.drew ?_) | (with_reducible refine Blk.drewN ?_) | ((with_reducible refine Blk.below hb ?_ ?_); · first | omega | (simp; done) | (simp; omega)) | ((with_reducible refine Blk.keep kk ?_ ?_); · first | omega | (simp; done) | (simp; omega)))) (fun w' hB => by have q := hB.t; simp [results, Try.results37, go_sem, q]) rfl ?_
      exact ⟨_, rfl, (by repeat (first | (with_reducible assumption) | (with_reducible refine Kpt.drew ?_) | (with_reducible refine Kpt.drewN ?_) | (with_reducible refine Kpt.alloc ?_) | ((with_reducible refine Kpt.put ?_ ?_ ?_); (· omega); (· omega))))⟩
    · have D0 : Blk (w3.setCell ⟨w.heap.size, 2, none⟩ (.int .i64 x)) w.heap.size 36 (tcs ⟨t.x, t.y, x⟩) := C0.set
      go_wp2
      refine ret_at (v := tv ⟨t.x, t.y, x⟩) (fun w' => Blk w' (w.heap.size + 1) 36 (tcs ⟨t.x, t.y, x⟩)) (by repeat (first | (with_reducible assumption) | ((with_reducible refine Blk.new ?_); · first | omega | (simp; done) | (simp; omega)) | (with_reducible apply Blk.set4) | (with_reducible apply Blk.set3) | (with_reducible apply Blk.set2) | ((with_reducible refine Blk.put ?_ ?_); · first | omega | (simp; omega)) | (with_reducible refine Blk.old ?_) | (with_reducible refine Blk.drew ?_) | (with_reducible refine Blk.drewN ?_) | ((with_reducible refine Blk.below hb ?_ ?_); · first | omega | (simp; done) | (simp; omega)) | ((with_reducible refine Blk.keep kk ?_ ?_); · first | omega | (simp; done) | (simp; omega)))) (fun w' hB => by have q := hB.t; simp [results, Try.results37, go_sem, q]) rfl ?_
      exact ⟨_, rfl, (by repeat (first | (with_reducible assumption) | (with_reducible refine Kpt.drew ?_) | (with_reducible refine Kpt.drewN ?_) | (with_reducible refine Kpt.alloc ?_) | ((with_reducible refine Kpt.put ?_ ?_ ?_); (· omega); (· omega))))⟩
  · by_cases h1 : k = 1
    · subst h1
      go_wp2
      refine ret_at (v := tv ⟨t.y, t.x, t.z⟩) (fun w' => Blk w' (w.heap.size + 1) 36 (tcs ⟨t.y, t.x, t.z⟩)) (by repeat (first | (with_reducible assumption) | ((with_reducible refine Blk.new ?_); · first | omega | (simp; done) | (simp; omega)) | (with_reducible apply Blk.set4) | (with_reducible apply Blk.set3) | (with_reducible apply Blk.set2) | ((with_reducible refine Blk.put ?_ ?_); · first | omega | (simp; omega)) | (with_reducible refine Blk.old ?_) | (with_reducible refine Blk.drew ?_) | (with_reducible refine Blk.drewN ?_) | ((with_reducible refine Blk.below hb ?_ ?_); · first | omega | (simp; done) | (simp; omega)) | ((with_reducible refine Blk.keep kk ?_ ?_); · first | omega | (simp; done) | (simp; omega)))) (fun w' hB => by have q := hB.t; simp [results, Try.results37, go_sem, q]) rfl ?_
      exact ⟨_, rfl, (by repeat (first | (with_reducible assumption) | (with_reducible refine Kpt.drew ?_) | (with_reducible refine Kpt.drewN ?_) | (with_reducible refine Kpt.alloc ?_) | ((with_reducible refine Kpt.put ?_ ?_ ?_); (· omega); (· omega))))⟩
    · go_wp2
      refine ret_at (v := tv t) (fun w' => Blk w' (w.heap.size + 1) 36 (tcs t)) (by repeat (first | (with_reducible assumption) | ((with_reducible refine Blk.new ?_); · first | omega | (simp; done) | (simp; omega)) | (with_reducible apply Blk.set4) | (with_reducible apply Blk.set3) | (with_reducible apply Blk.set2) | ((with_reducible refine Blk.put ?_ ?_); · first | omega | (simp; omega)) | (with_reducible refine Blk.old ?_) | (with_reducible refine Blk.drew ?_) | (with_reducible refine Blk.drewN ?_) | ((with_reducible refine Blk.below hb ?_ ?_); · first | omega | (simp; done) | (simp; omega)) | ((with_reducible refine Blk.keep kk ?_ ?_); · first | omega | (simp; done) | (simp; omega)))) (fun w' hB => by have q := hB.t; simp [results, Try.results37, go_sem, q]) rfl ?_
      exact ⟨_, rfl, (by repeat (first | (with_reducible assumption) | (with_reducible refine Kpt.drew ?_) | (with_reducible refine Kpt.drewN ?_) | (with_reducible refine Kpt.alloc ?_) | ((with_reducible refine Kpt.put ?_ ?_ ?_); (· omega); (· omega))))⟩

/-- A triple or something else, out of a code. -/
theorem l09Spoil_any {w : World} {v : Value} {code : List Int} (hc : CodeOk code) (hv : SlIn w .u8 v code) :
    Calls Try.prog 43 #[v] w fun e w' => ∃ u : T3, e = .returned (tv u) ∧ Below w.heap.size w w' := by
  go_enter Try.func43, Try.ntmps43
  go_wp2_with fail
  refine (from_src hc hv.alloc).mono ?_
  rintro e w1 ⟨g, rfl, hS, kB⟩
  have K0 := Kpt.refl hS kB
  have hg := hS.lt
  clear kB hS
  go_wp2_with fail
  refine (l09Draw_any K0.1 K0.2.1).mono ?_
  rintro e w2 ⟨t, rfl, -, kp⟩
  have K2 := Kpt.refl kp.1 kp.2.1
  clear kp K0
  go_wp2_with fail
  refine (l09Bad_any t K2).mono ?_
  rintro e w3 ⟨u, rfl, kp⟩
  have hb := kp.2.1
  have hbs := hb.size
  simp at hbs
  have B0 : Blk w3 w.heap.size 36 (tcs ⟨0, 0, 0⟩) := (by repeat (first | (with_reducible assumption) | ((with_reducible refine Blk.new ?_); · first | omega | (simp; done) | (simp; omega)) | (with_reducible apply Blk.set4) | (with_reducible apply Blk.set3) | (with_reducible apply Blk.set2) | ((with_reducible refine Blk.put ?_ ?_); · first | omega | (simp; omega)) | (with_reducible refine Blk.old ?_) | (with_reducible refine Blk.drew ?_) | (with_reducible refine Blk.drewN ?_) | ((with_reducible refine Blk.below hb ?_ ?_); · first | omega | (simp; done) | (simp; omega)) | ((with_reducible refine Blk.keep kk ?_ ?_); · first | omega | (simp; done) | (simp; omega))))
  have k3 : Below w.heap.size w w3 := (by repeat (first | (with_reducible exact Below.refl _ _) | (with_reducible assumption) | (with_reducible refine Below.drew ?_) | (with_reducible refine Below.drewN ?_) | ((with_reducible refine Below.al ?_ ?_); · first | omega | (simp; done) | (simp; omega)) | ((with_reducible refine Below.sc ?_ ?_); · first | omega | (simp; done) | (simp; omega)) | ((with_reducible refine Below.thru hb ?_ ?_); · first | omega | (simp; done) | (simp; omega))))
  clear kp K2 hb
  have q0 := B0.t
  have f0 := B0.tf
  go_wp2
  refine ret_at (v := tv u) (fun w' => Blk w' (w.heap.size) 36 (tcs u)) (by repeat (first | (with_reducible assumption) | ((with_reducible refine Blk.new ?_); · first | omega | (simp; done) | (simp; omega)) | (with_reducible apply Blk.set4) | (with_reducible apply Blk.set3) | (with_reducible apply Blk.set2) | ((with_reducible refine Blk.put ?_ ?_); · first | omega | (simp; omega)) | (with_reducible refine Blk.old ?_) | (with_reducible refine Blk.drew ?_) | (with_reducible refine Blk.drewN ?_) | ((with_reducible refine Blk.below hb ?_ ?_); · first | omega | (simp; done) | (simp; omega)) | ((with_reducible refine Blk.keep kk ?_ ?_); · first | omega | (simp; done) | (simp; omega)))) (fun w' hB => by have q := hB.t; simp [results, Try.results43, go_sem, q]) rfl ?_
  exact ⟨_, rfl, (by repeat (first | (with_reducible exact Below.refl _ _) | (with_reducible assumption) | (with_reducible refine Below.drew ?_) | (with_reducible refine Below.drewN ?_) | ((with_reducible refine Below.al ?_ ?_); · first | omega | (simp; done) | (simp; omega)) | ((with_reducible refine Below.sc ?_ ?_); · first | omega | (simp; done) | (simp; omega)) | ((with_reducible refine Below.thru hb ?_ ?_); · first | omega | (simp; done) | (simp; omega))))⟩
/-- The triple that the way down starts from. -/
theorem drawDown_any {w : World} {v : Value} {code : List Int} (hc : CodeOk code) (hv : SlIn w .u8 v code) :
    Calls Try.prog 22 #[v] w fun e w' => ∃ u : T3, e = .returned (tv u) ∧ Below w.heap.size w w' := by
  go_enter Try.func22, Try.ntmps22
  go_wp2_with fail
  refine (l09Spoil_any hc hv.alloc).mono ?_
  rintro e w1 ⟨u, rfl, hb⟩
  have hbs := hb.size
  simp at hbs
  have B0 : Blk w1 w.heap.size 36 (tcs ⟨0, 0, 0⟩) := (by repeat (first | (with_reducible assumption) | ((with_reducible refine Blk.new ?_); · first | omega | (simp; done) | (simp; omega)) | (with_reducible apply Blk.set4) | (with_reducible apply Blk.set3) | (with_reducible apply Blk.set2) | ((with_reducible refine Blk.put ?_ ?_); · first | omega | (simp; omega)) | (with_reducible refine Blk.old ?_) | (with_reducible refine Blk.drew ?_) | (with_reducible refine Blk.drewN ?_) | ((with_reducible refine Blk.below hb ?_ ?_); · first | omega | (simp; done) | (simp; omega)) | ((with_reducible refine Blk.keep kk ?_ ?_); · first | omega | (simp; done) | (simp; omega))))
  have k3 : Below w.heap.size w w1 := (by repeat (first | (with_reducible exact Below.refl _ _) | (with_reducible assumption) | (with_reducible refine Below.drew ?_) | (with_reducible refine Below.drewN ?_) | ((with_reducible refine Below.al ?_ ?_); · first | omega | (simp; done) | (simp; omega)) | ((with_reducible refine Below.sc ?_ ?_); · first | omega | (simp; done) | (simp; omega)) | ((with_reducible refine Below.thru hb ?_ ?_); · first | omega | (simp; done) | (simp; omega))))
  clear hb
  have q0 := B0.t
  have f0 := B0.tf
  go_wp2
  refine ret_at (v := tv u) (fun w' => Blk w' (w.heap.size) 36 (tcs u)) (by repeat (first | (with_reducible assumption) | ((with_reducible refine Blk.new ?_); · first | omega | (simp; done) | (simp; omega)) | (with_reducible apply Blk.set4) | (with_reducible apply Blk.set3) | (with_reducible apply Blk.set2) | ((with_reducible refine Blk.put ?_ ?_); · first | omega | (simp; omega)) | (with_reducible refine Blk.old ?_) | (with_reducible refine Blk.drew ?_) | (with_reducible refine Blk.drewN ?_) | ((with_reducible refine Blk.below hb ?_ ?_); · first | omega | (simp; done) | (simp; omega)) | ((with_reducible refine Blk.keep kk ?_ ?_); · first | omega | (simp; done) | (simp; omega)))) (fun w' hB => by have q := hB.t; simp [results, Try.results22, go_sem, q]) rfl ?_
  exact ⟨_, rfl, (by repeat (first | (with_reducible exact Below.refl _ _) | (with_reducible assumption) | (with_reducible refine Below.drew ?_) | (with_reducible refine Below.drewN ?_) | ((with_reducible refine Below.al ?_ ?_); · first | omega | (simp; done) | (simp; omega)) | ((with_reducible refine Below.sc ?_ ?_); · first | omega | (simp; done) | (simp; omega)) | ((with_reducible refine Below.thru hb ?_ ?_); · first | omega | (simp; done) | (simp; omega))))⟩
/-- The triple and the number that a neighbour is asked by. -/
theorem drawNeighbour_any {w : World} {v : Value} {code : List Int} (hc : CodeOk code) (hv : SlIn w .u8 v code) :
    Calls Try.prog 17 #[v] w fun e w' => ∃ (u : T3) (i : Int), e = .returned (.tuple #[tv u, .int .i64 i]) ∧ Below w.heap.size w w' := by
  go_enter Try.func17, Try.ntmps17
  go_wp2_with fail
  refine (from_src hc hv.alloc).mono ?_
  rintro e w1 ⟨g, rfl, hS, kB⟩
  have Bb : Blk (w.alloc (.cells #[.int .i64 0, .int .i64 0, .int .i64 0] 36)) w.heap.size 36 (tcs ⟨0, 0, 0⟩) := Blk.new rfl
  have kb : Below w.heap.size w (w.alloc (.cells #[.int .i64 0, .int .i64 0, .int .i64 0] 36)) := (by repeat (first | (with_reducible exact Below.refl _ _) | (with_reducible assumption) | (with_reducible refine Below.drew ?_) | (with_reducible refine Below.drewN ?_) | ((with_reducible refine Below.al ?_ ?_); · first | omega | (simp; done) | (simp; omega)) | ((with_reducible refine Below.sc ?_ ?_); · first | omega | (simp; done) | (simp; omega)) | ((with_reducible refine Below.thru hb ?_ ?_); · first | omega | (simp; done) | (simp; omega))))
  generalize w.alloc (.cells #[.int .i64 0, .int .i64 0, .int .i64 0] 36) = wb at *
  have lb := Bb.lt
  have K0 := Kpt.refl hS kB
  have hg := hS.lt
  clear kB hS
  go_wp2_with fail
  refine (l09Draw_any K0.1 K0.2.1).mono ?_
  rintro e w2 ⟨t, rfl, -, kp⟩
  have K2 := Kpt.refl kp.1 kp.2.1
  clear kp K0
  go_wp2_with fail
  refine (l09Bad_any t K2).mono ?_
  rintro e w3 ⟨u, rfl, kp⟩
  have K3 := Kpt.refl kp.1 kp.2.1
  have hb := kp.2.1
  have s3 := hb.size
  have B3 : Blk w3 w.heap.size 36 (tcs ⟨0, 0, 0⟩) := (by repeat (first | (with_reducible assumption) | ((with_reducible refine Blk.new ?_); · first | omega | (simp; done) | (simp; omega)) | (with_reducible apply Blk.set4) | (with_reducible apply Blk.set3) | (with_reducible apply Blk.set2) | ((with_reducible refine Blk.put ?_ ?_); · first | omega | (simp; omega)) | (with_reducible refine Blk.old ?_) | (with_reducible refine Blk.drew ?_) | (with_reducible refine Blk.drewN ?_) | ((with_reducible refine Blk.below hb ?_ ?_); · first | omega | (simp; done) | (simp; omega)) | ((with_reducible refine Blk.keep kk ?_ ?_); · first | omega | (simp; done) | (simp; omega))))
  have k3 : Below w.heap.size w w3 := Below.trans kb (hb.mono (by omega))
  have hg3 := K3.1.lt
  clear kp K2 hb
  go_wp2_with fail
  refine forget (fun W_ => Below w.heap.size w W_ ∧ Blk W_ (w.heap.size) 36 (tcs ⟨0, 0, 0⟩) ∧ Blk W_ (w3.heap.size) 36 (tcs u) ∧ Kpt wb w3 W_ g code) ⟨(by repeat (first | (with_reducible exact Below.refl _ _) | (with_reducible assumption) | (with_reducible refine Below.drew ?_) | (with_reducible refine Below.drewN ?_) | ((with_reducible refine Below.al ?_ ?_); · first | omega | (simp; done) | (simp; omega)) | ((with_reducible refine Below.sc ?_ ?_); · first | omega | (simp; done) | (simp; omega)) | ((with_reducible refine Below.thru hb ?_ ?_); · first | omega | (simp; done) | (simp; omega)))), (by repeat (first | (with_reducible assumption) | ((with_reducible refine Blk.new ?_); · first | omega | (simp; done) | (simp; omega)) | (with_reducible apply Blk.set4) | (with_reducible apply Blk.set3) | (with_reducible apply Blk.set2) | ((with_reducible refine Blk.put ?_ ?_); · first | omega | (simp; omega)) | (with_reducible refine Blk.old ?_) | (with_reducible refine Blk.drew ?_) | (with_reducible refine Blk.drewN ?_) | ((with_reducible refine Blk.below hb ?_ ?_); · first | omega | (simp; done) | (simp; omega)) | ((with_reducible refine Blk.keep kk ?_ ?_); · first | omega | (simp; done) | (simp; omega)))), (by repeat (first | (with_reducible assumption) | ((with_reducible refine Blk.new ?_); · first | omega | (simp; done) | (simp; omega)) | (with_reducible apply Blk.set4) | (with_reducible apply Blk.set3) | (with_reducible apply Blk.set2) | ((with_reducible refine Blk.put ?_ ?_); · first | omega | (simp; omega)) | (with_reducible refine Blk.old ?_) | (with_reducible refine Blk.drew ?_) | (with_reducible refine Blk.drewN ?_) | ((with_reducible refine Blk.below hb ?_ ?_); · first | omega | (simp; done) | (simp; omega)) | ((with_reducible refine Blk.keep kk ?_ ?_); · first | omega | (simp; done) | (simp; omega)))), (by repeat (first | (with_reducible assumption) | (with_reducible refine Kpt.drew ?_) | (with_reducible refine Kpt.drewN ?_) | (with_reducible refine Kpt.alloc ?_) | ((with_reducible refine Kpt.put ?_ ?_ ?_); (· omega); (· omega))))⟩ ?_
  rintro w4 ⟨kw4, B0, B5, K4⟩
  have sw4 := kw4.size
  have lB0 := B0.lt
  have lB5 := B5.lt
  have q5 := B5.t
  go_cut [3] (fun s_ wx => ∃ i : Int, s_ = .int .i64 i ∧ Blk wx w.heap.size 36 (tcs u) ∧ Below w.heap.size w wx)
  case first =>
    go_region_held3 (fun w' => w'.cell? ⟨w3.heap.size, 0, none⟩ = some (.int .i64 u.x) ∧ w'.cell? ⟨w3.heap.size, 1, none⟩ = some (.int .i64 u.y) ∧ w'.cell? ⟨w3.heap.size, 2, none⟩ = some (.int .i64 u.z)) (first | go_keep | (refine ⟨?_, ?_, ?_⟩ <;> ((repeat rw [cell_put (by omega)]); go_keep)))
      (first
      | (go_at_call 39; refine (near_src (w0 := wb) (wa := w3) (code := code) 2 (by repeat (first | (with_reducible assumption) | (with_reducible refine Kpt.drew ?_) | (with_reducible refine Kpt.drewN ?_) | (with_reducible refine Kpt.alloc ?_) | ((with_reducible refine Kpt.put ?_ ?_ ?_); (· omega); (· omega)))) (by decide)).mono ?_; rintro e w5 ⟨i, rfl, kp⟩; have kk := kp.2.2; have hb := kp.2.1; have D0 : Blk w5 w.heap.size 36 (tcs ⟨0, 0, 0⟩) := (by repeat (first | (with_reducible assumption) | ((with_reducible refine Blk.new ?_); · first | omega | (simp; done) | (simp; omega)) | (with_reducible apply Blk.set4) | (with_reducible apply Blk.set3) | (with_reducible apply Blk.set2) | ((with_reducible refine Blk.put ?_ ?_); · first | omega | (simp; omega)) | (with_reducible refine Blk.old ?_) | (with_reducible refine Blk.drew ?_) | (with_reducible refine Blk.drewN ?_) | ((with_reducible refine Blk.below hb ?_ ?_); · first | omega | (simp; done) | (simp; omega)) | ((with_reducible refine Blk.keep kk ?_ ?_); · first | omega | (simp; done) | (simp; omega)))); have D5 : Blk w5 w3.heap.size 36 (tcs u) := (by repeat (first | (with_reducible assumption) | ((with_reducible refine Blk.new ?_); · first | omega | (simp; done) | (simp; omega)) | (with_reducible apply Blk.set4) | (with_reducible apply Blk.set3) | (with_reducible apply Blk.set2) | ((with_reducible refine Blk.put ?_ ?_); · first | omega | (simp; omega)) | (with_reducible refine Blk.old ?_) | (with_reducible refine Blk.drew ?_) | (with_reducible refine Blk.drewN ?_) | ((with_reducible refine Blk.below hb ?_ ?_); · first | omega | (simp; done) | (simp; omega)) | ((with_reducible refine Blk.keep kk ?_ ?_); · first | omega | (simp; done) | (simp; omega)))); have k5 : Below w.heap.size w w5 := Below.trans kb (hb.mono (by omega)); clear kk kp hb; have e0 := D0.t; have e1 := D0.tf; have e5 := D5.t; have m0 := D0.lt; have m5 := D5.lt))
    all_goals go_wp2_with fail
    all_goals go_meet
    all_goals exact ⟨i, rfl, (by repeat (first | (with_reducible assumption) | ((with_reducible refine Blk.new ?_); · first | omega | (simp; done) | (simp; omega)) | (with_reducible apply Blk.set4) | (with_reducible apply Blk.set3) | (with_reducible apply Blk.set2) | ((with_reducible refine Blk.put ?_ ?_); · first | omega | (simp; omega)) | (with_reducible refine Blk.old ?_) | (with_reducible refine Blk.drew ?_) | (with_reducible refine Blk.drewN ?_) | ((with_reducible refine Blk.below hb ?_ ?_); · first | omega | (simp; done) | (simp; omega)) | ((with_reducible refine Blk.keep kk ?_ ?_); · first | omega | (simp; done) | (simp; omega)))), (by repeat (first | (with_reducible exact Below.refl _ _) | (with_reducible assumption) | (with_reducible refine Below.drew ?_) | (with_reducible refine Below.drewN ?_) | ((with_reducible refine Below.al ?_ ?_); · first | omega | (simp; done) | (simp; omega)) | ((with_reducible refine Below.sc ?_ ?_); · first | omega | (simp; done) | (simp; omega)) | ((with_reducible refine Below.thru hb ?_ ?_); · first | omega | (simp; done) | (simp; omega))))⟩
  case rest =>
    obtain ⟨i, rfl, C0, kc⟩ := hcut
    have q0 := C0.t
    go_wp2
    refine ret_at (v := .tuple #[tv u, .int .i64 i]) (fun w' => Blk w' (w.heap.size) 36 (tcs u)) (by repeat (first | (with_reducible assumption) | ((with_reducible refine Blk.new ?_); · first | omega | (simp; done) | (simp; omega)) | (with_reducible apply Blk.set4) | (with_reducible apply Blk.set3) | (with_reducible apply Blk.set2) | ((with_reducible refine Blk.put ?_ ?_); · first | omega | (simp; omega)) | (with_reducible refine Blk.old ?_) | (with_reducible refine Blk.drew ?_) | (with_reducible refine Blk.drewN ?_) | ((with_reducible refine Blk.below hb ?_ ?_); · first | omega | (simp; done) | (simp; omega)) | ((with_reducible refine Blk.keep kk ?_ ?_); · first | omega | (simp; done) | (simp; omega)))) (fun w' hB => by have q := hB.t; simp [results, Try.results17, go_sem, q]) rfl ?_
    exact ⟨_, _, rfl, kc⟩

end Go.Proofs.Ytbmkpcenjjdflaa

/- The law's comparison of two lists of triples that are the same. -/
namespace Go.Proofs.Ytbmkpcenjjdflaa
open Go.RowKit
set_option linter.unusedSimpArgs false

theorem run_neqT_same (t : T3) (w : World) : (binOp .neq 36 (.agg #[.int .i64 t.x, .int .i64 t.y, .int .i64 t.z]) (.agg #[.int .i64 t.x, .int .i64 t.y, .int .i64 t.z])).run Try.prog w = .ok (.bool false) w := by
  have := run_neqT t t w
  rwa [decide_eq_true rfl] at this

set_option maxHeartbeats 1000000 in
theorem triples5_same (v u : Value) (xs : List T3) (B B2 : Nat) (w : World) (hv : OwnT w B v xs) (hu : OwnT w B2 u xs) (hl : xs.length ≤ 1000000000000000000) :
    Calls Try.prog 25 #[v, u] w fun e w' => e = .returned (.bool true) ∧ Below w.heap.size w w' := by
  by_cases h0 : xs.length = 0
  · obtain ⟨ao, c, rfl⟩ := hv.len
    obtain ⟨bo, c', rfl⟩ := hu.len
    obtain rfl : xs = [] := List.eq_nil_of_length_eq_zero h0
    clear h0 hv hu
    go_enter Try.func25, Try.ntmps25
    go_wp2
    refine wp_loop_rounds 1 ?_
    rw [rounds_succ]
    go_wp2
    go_ret
    exact ⟨rfl, (by repeat (first | (with_reducible exact Below.refl _ _) | (with_reducible assumption) | (with_reducible refine Below.drew ?_) | (with_reducible refine Below.drewN ?_) | ((with_reducible refine Below.al ?_ ?_); · first | omega | (simp; done) | (simp; omega)) | ((with_reducible refine Below.sc ?_ ?_); · first | omega | (simp; done) | (simp; omega)) | ((with_reducible refine Below.thru hb ?_ ?_); · first | omega | (simp; done) | (simp; omega))))⟩
  · rcases hv.form with ⟨rfl, e⟩ | ⟨g, c, rfl, hgB, hg, _, _, _⟩
    · exact absurd (by rw [e]; rfl) h0
    rcases hu.form with ⟨rfl, e⟩ | ⟨g', c', rfl, hgB', hg', _, _, _⟩
    · exact absurd (by rw [e]; rfl) h0
    have HV := Lib.hid hv
    have HU := Lib.hid hu
    clear hv hu
    go_enter Try.func25, Try.ntmps25
    go_wp2
    go_loopw [5] (fun i wr => ∃ k : Nat, k ≤ xs.length ∧ i = .int .i64 k ∧ Below w.heap.size w wr) (fun i _ => xs.length - (intOf i).toNat)
    case atStart => exact ⟨0, Nat.zero_le _, rfl, (by repeat (first | (with_reducible exact Below.refl _ _) | (with_reducible assumption) | (with_reducible refine Below.drew ?_) | (with_reducible refine Below.drewN ?_) | ((with_reducible refine Below.al ?_ ?_); · first | omega | (simp; done) | (simp; omega)) | ((with_reducible refine Below.sc ?_ ?_); · first | omega | (simp; done) | (simp; omega)) | ((with_reducible refine Below.thru hb ?_ ?_); · first | omega | (simp; done) | (simp; omega))))⟩
    case round =>
      obtain ⟨k, hk, rfl, kwr⟩ := hrel
      by_cases hlt : k < xs.length
      · have hnq := run_neqT_same xs[k]
        have q0 := OwnT.cells (HV.out.below kwr) rfl hlt
        have q1 := OwnT.cells (HU.out.below kwr) rfl hlt
        have i0 : (0 : Int) ≤ (k : Int) := by omega
        have i1 : (k : Int) < (xs.length : Int) := by omega
        have swr := kwr.size
        go_wp2_with fail
        go_quiet (fail)
        go_wp2
        go_roundw
        case rel => exact ⟨k + 1, by omega, by go_num, (by repeat (first | (with_reducible exact Below.refl _ _) | (with_reducible assumption) | (with_reducible refine Below.drew ?_) | (with_reducible refine Below.drewN ?_) | ((with_reducible refine Below.al ?_ ?_); · first | omega | (simp; done) | (simp; omega)) | ((with_reducible refine Below.sc ?_ ?_); · first | omega | (simp; done) | (simp; omega)) | ((with_reducible refine Below.thru hb ?_ ?_); · first | omega | (simp; done) | (simp; omega))))⟩
        case measure => simp [intOf]; omega
      · go_wp2
        go_ret
        exact ⟨rfl, kwr⟩

end Go.Proofs.Ytbmkpcenjjdflaa
