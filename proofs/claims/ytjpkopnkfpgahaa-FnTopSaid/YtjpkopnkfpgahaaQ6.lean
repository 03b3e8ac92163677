import Derived.Test.YtjpkopnkfpgahaaQ3
import Derived.Test.YtjpkopnkfpgahaaQ5
import Derived.Test.YtjpkopnkfpgahaaQ2
import Derived.Deep.RegionWith
/- The cycles of a permutation: plain law. -/
namespace Go.Proofs.Ytjpkopnkfpgahaa
open Go.RowKit

/-- g, so many times. -/
def it (g : Nat → Nat) : Nat → Nat → Nat
  | 0, i => i
  | j + 1, i => g (it g j i)
theorem it_lt {g : Nat → Nat} {n i : Nat} (hg : ∀ a, a < n → g a < n) (hi : i < n) (j : Nat) : it g j i < n := by
  induction j with
  | zero => exact hi
  | succ j ih => exact hg _ ih
theorem it_add (g : Nat → Nat) (a b i : Nat) : it g (a + b) i = it g a (it g b i) := by
  induction a with
  | zero => rw [Nat.zero_add]; rfl
  | succ a ih => rw [show a + 1 + b = (a + b) + 1 by omega]; simp only [it, ih]
def Inj (g : Nat → Nat) (n : Nat) : Prop := ∀ a b, a < n → b < n → g a = g b → a = b
theorem it_inj {g : Nat → Nat} {n : Nat} (hg : ∀ a, a < n → g a < n) (hj : Inj g n) (j : Nat) {a b : Nat} (ha : a < n) (hb : b < n) (h : it g j a = it g j b) : a = b := by
  induction j with
  | zero => exact h
  | succ j ih => exact ih (hj _ _ (it_lt hg ha j) (it_lt hg hb j) h)
theorem perm_inj {p : List Int} {n : Nat} (h : permB p n) : Inj (fn p) n := by
  have key : ∀ a b, a < b → b < n → fn p a = fn p b → False := fun a b hab hb he => by
    have hl := h.1
    have e1 := fn_at h (a := a) (by omega)
    have e2 := fn_at h hb
    have hb' : b < p.length := by omega
    have h3 := (h.2 b hb' hb').2
    apply h3
    have hm : p[a]? = p[b]? := by rw [e1, e2, he]
    rw [List.getElem?_eq_getElem hb', List.getElem?_eq_getElem (by omega)] at hm
    rw [← Option.some.inj hm]
    exact List.mem_take_iff_getElem.2 ⟨a, by omega, rfl⟩
  intro a b ha hb he
  rcases Nat.lt_trichotomy a b with h1 | h1 | h1
  · exact (key a b h1 hb he).elim
  · exact h1
  · exact (key b a h1 ha he.symm).elim

/-- The first k points from i on. -/
def cyK (g : Nat → Nat) (i k : Nat) : List Nat := (List.range k).map (it g · i)
theorem cyK_len (g : Nat → Nat) (i k : Nat) : (cyK g i k).length = k := by simp [cyK]
theorem cyK_succ (g : Nat → Nat) (i k : Nat) : cyK g i (k + 1) = cyK g i k ++ [it g k i] := by
  unfold cyK
  rw [List.range_succ, List.map_append]
  rfl
theorem cyK_mem {g : Nat → Nat} {i k x : Nat} : x ∈ cyK g i k ↔ ∃ j, j < k ∧ it g j i = x := by
  simp [cyK]
/-- Before step k the point i does not come again. -/
def NoRet (g : Nat → Nat) (i k : Nat) : Prop := ∀ j, 1 ≤ j → j < k → it g j i ≠ i
theorem NoRet.one (g : Nat → Nat) (i : Nat) : NoRet g i 1 := fun j h1 h2 => absurd h2 (by omega)
theorem NoRet.succ {g : Nat → Nat} {i k : Nat} (h : NoRet g i k) (hk : it g k i ≠ i) : NoRet g i (k + 1) := fun j h1 h2 => by
  by_cases e : j < k
  · exact h j h1 e
  · obtain rfl : j = k := by omega
    exact hk
theorem NoRet.inj {g : Nat → Nat} {n i k : Nat} (hg : ∀ a, a < n → g a < n) (hj : Inj g n) (hi : i < n) (h : NoRet g i k) : ∀ a b, a < k → b < k → it g a i = it g b i → a = b := by
  have key : ∀ a b, a < b → b < k → it g a i = it g b i → False := fun a b hab hb he => by
    rw [show b = a + (b - a) by omega, it_add] at he
    exact h (b - a) (by omega) (by omega) (it_inj hg hj a hi (it_lt hg hi _) he).symm
  intro a b ha hb he
  rcases Nat.lt_trichotomy a b with h1 | h1 | h1
  · exact (key a b h1 hb he).elim
  · exact h1
  · exact (key b a h1 ha he.symm).elim
theorem NoRet.nodup {g : Nat → Nat} {n i k : Nat} (hg : ∀ a, a < n → g a < n) (hj : Inj g n) (hi : i < n) (h : NoRet g i k) : (cyK g i k).Nodup := by
  rw [List.nodup_iff_pairwise_ne, List.pairwise_iff_getElem]
  intro a b ha hb hab he
  rw [cyK_len] at ha hb
  have := h.inj hg hj hi a b ha hb (by simpa [cyK] using he)
  omega
theorem NoRet.le {g : Nat → Nat} {n i k : Nat} (hg : ∀ a, a < n → g a < n) (hj : Inj g n) (hi : i < n) (h : NoRet g i k) : k ≤ n := by
  have := nodup_len (h.nodup hg hj hi) (n := n) (fun a ha => by
    obtain ⟨j, _, rfl⟩ := cyK_mem.1 ha
    exact it_lt hg hi j)
  rwa [cyK_len] at this

/-- The first step from j on at which i comes again. -/
def perF (g : Nat → Nat) (i : Nat) : Nat → Nat → Nat
  | 0, j => j
  | q + 1, j => if it g j i = i then j else perF g i q (j + 1)
def per (g : Nat → Nat) (i n : Nat) : Nat := perF g i n 1
structure Per (g : Nat → Nat) (i m : Nat) : Prop where
  one : 1 ≤ m
  ret : it g m i = i
  no : NoRet g i m
theorem Per.unique {g : Nat → Nat} {i m k : Nat} (h : Per g i m) (h' : Per g i k) : m = k := by
  rcases Nat.lt_trichotomy m k with e | e | e
  · exact absurd h.ret (h'.no m h.one e)
  · exact e
  · exact absurd h'.ret (h.no k h'.one e)
theorem perF_spec {g : Nat → Nat} {i m : Nat} (hm : it g m i = i) : ∀ q j, NoRet g i j → 1 ≤ j → j ≤ m → m ≤ j + q → Per g i (perF g i q j)
  | 0, j, h, h1, h2, h3 => by
    obtain rfl : m = j := by omega
    exact ⟨h1, hm, h⟩
  | q + 1, j, h, h1, h2, h3 => by
    unfold perF
    split
    · rename_i hr
      exact ⟨h1, hr, h⟩
    · rename_i hr
      have : j ≠ m := fun e => hr (e ▸ hm)
      exact perF_spec hm q (j + 1) (h.succ hr) (by omega) (by omega) (by omega)
theorem per_spec {g : Nat → Nat} {n i : Nat} (hg : ∀ a, a < n → g a < n) (hj : Inj g n) (hi : i < n) : Per g i (per g i n) := by
  have : ∃ m, 1 ≤ m ∧ m ≤ n ∧ it g m i = i := by
    by_cases h : ∃ m, 1 ≤ m ∧ m ≤ n ∧ it g m i = i
    · exact h
    · have hn : NoRet g i (n + 1) := fun j h1 h2 he => h ⟨j, h1, by omega, he⟩
      have := hn.le hg hj hi
      omega
  obtain ⟨m, h1, h2, h3⟩ := this
  exact perF_spec h3 n 1 (NoRet.one _ _) (Nat.le_refl _) h1 (by omega)
theorem per_le {g : Nat → Nat} {n i : Nat} (hg : ∀ a, a < n → g a < n) (hj : Inj g n) (hi : i < n) : per g i n ≤ n := (per_spec hg hj hi).no.le hg hj hi
/-- The cycle from i on. -/
def cyL (g : Nat → Nat) (i n : Nat) : List Nat := cyK g i (per g i n)
theorem it_mod {g : Nat → Nat} {i m : Nat} (h : it g m i = i) (hm : 1 ≤ m) (j : Nat) : it g j i = it g (j % m) i := by
  induction j using Nat.strongRecOn with
  | _ j ih =>
    by_cases hj : j < m
    · rw [Nat.mod_eq_of_lt hj]
    · rw [Nat.mod_eq_sub_mod (by omega), ← ih (j - m) (by omega)]
      have := it_add g (j - m) m i
      rw [show j - m + m = j by omega, h] at this
      exact this
/-- x lies on the cycle of i. -/
def On (g : Nat → Nat) (i x : Nat) : Prop := ∃ j, it g j i = x
theorem On.iff {g : Nat → Nat} {n i x : Nat} (hg : ∀ a, a < n → g a < n) (hj : Inj g n) (hi : i < n) : On g i x ↔ x ∈ cyL g i n := by
  have hp := per_spec hg hj hi
  constructor
  · rintro ⟨j, rfl⟩
    rw [it_mod hp.ret hp.one]
    exact cyK_mem.2 ⟨_, Nat.mod_lt _ hp.one, rfl⟩
  · intro h
    obtain ⟨j, _, e⟩ := cyK_mem.1 h
    exact ⟨j, e⟩
theorem On.symm {g : Nat → Nat} {n i x : Nat} (hg : ∀ a, a < n → g a < n) (hj : Inj g n) (hi : i < n) (h : On g i x) : On g x i := by
  have hp := per_spec hg hj hi
  obtain ⟨j, rfl⟩ := h
  rw [it_mod hp.ret hp.one]
  have hlt := Nat.mod_lt j (show 0 < per g i n from hp.one)
  refine ⟨per g i n - j % per g i n, ?_⟩
  rw [← it_add, show per g i n - j % per g i n + j % per g i n = per g i n by omega]
  exact hp.ret
theorem On.trans {g : Nat → Nat} {i x y : Nat} (h : On g i x) (k : On g x y) : On g i y := by
  obtain ⟨a, rfl⟩ := h
  obtain ⟨b, rfl⟩ := k
  exact ⟨b + a, it_add g b a i⟩

/-- Is i the least point of its cycle? -/
def isMin (g : Nat → Nat) (i n : Nat) : Bool := (cyL g i n).all fun x => decide (i ≤ x)
theorem isMin_iff {g : Nat → Nat} {n i : Nat} (hg : ∀ a, a < n → g a < n) (hj : Inj g n) (hi : i < n) : isMin g i n = true ↔ ∀ x, On g i x → i ≤ x := by
  unfold isMin
  rw [List.all_eq_true]
  exact ⟨fun h x hx => by simpa using h x ((On.iff hg hj hi).1 hx), fun h x hx => by simpa using h x ((On.iff hg hj hi).2 hx)⟩
/-- The cycles of the points below k, each from its least point on. -/
def cysL (g : Nat → Nat) (n : Nat) : Nat → List (List Nat)
  | 0 => []
  | k + 1 => if isMin g k n then cysL g n k ++ [cyL g k n] else cysL g n k
theorem cysL_len (g : Nat → Nat) (n k : Nat) : (cysL g n k).length ≤ k := by
  induction k with
  | zero => simp [cysL]
  | succ k ih => 
    simp only [cysL]
    split
    · simp; omega
    · omega

end Go.Proofs.Ytjpkopnkfpgahaa

/- The cycles of an action: the walk of one cycle, and the least number of a list. -/
namespace Go.Proofs.Ytjpkopnkfpgahaa
open Go.RowKit

set_option maxRecDepth 8000 in
set_option maxHeartbeats 2000000 in
theorem cycleOf_any (s t : Value) (S T : List Int) (n i : Nat) (w : World) (h : SlIn w .i64 s S ∧ SlIn w .i64 t T) (hT : permB T n) (hi : i < n) (hn : n ≤ 72) :
    Calls Try.prog 65 #[.agg #[s, t], .int .i64 (i : Int)] w fun e w' => ∃ v, e = .returned v ∧ Own w' w.heap.size v ((cyL (fn T) i n).map Int.ofNat) ∧ Below w.heap.size w w' := by
  obtain ⟨ao, sc, rfl, -⟩ := h.1.form
  obtain ⟨ta, tc, rfl, hB⟩ := perm_open h.2 hT (by omega)
  have HB := Lib.hid hB
  have HG := Lib.hid (show ∀ a, a < n → fn T a < n from fun a h => fn_lt hT h)
  have HJ := Lib.hid (perm_inj hT)
  have HINF := Lib.hid (info_parts infoI)
  have c0 := hB i hi
  have i0 : (0 : Int) ≤ (i : Int) := by omega
  have i1 : (i : Int) < (n : Int) := by omega
  have l0 := block_lt_of_cell c0
  have hperR := Lib.hid (per_spec HG.out HJ.out hi)
  clear h hB hT
  go_enter Try.func65, Try.ntmps65
  go_wp2_with fail
  refine forget (fun W_ => Below w.heap.size w W_ ∧ Blk W_ (w.heap.size) 44 (#[.slice ao S.length sc, .slice (some ta) n tc]) ∧ Blk W_ (w.heap.size + 1) 2 (#[.int .i64 (i : Int)])) ⟨(by repeat (first | (with_reducible exact Below.refl _ _) | (with_reducible assumption) | (with_reducible refine Below.drew ?_) | (with_reducible refine Below.drewN ?_) | ((with_reducible refine Below.al ?_ ?_); · first | omega | (simp; done) | (simp; omega)) | ((with_reducible refine Below.sc ?_ ?_); · first | omega | (simp; done) | (simp; omega)) | ((with_reducible refine Below.thru hb ?_ ?_); · first | omega | (simp; done) | (simp; omega)))), (by repeat (first | (with_reducible assumption) | ((with_reducible refine Blk.new ?_); · first | omega | (simp; done) | (simp; omega)) | (with_reducible apply Blk.set4) | (with_reducible apply Blk.set3) | (with_reducible apply Blk.set2) | ((with_reducible refine Blk.put ?_ ?_); · first | omega | (simp; omega)) | (with_reducible refine Blk.old ?_) | (with_reducible refine Blk.drew ?_) | (with_reducible refine Blk.drewN ?_) | ((with_reducible refine Blk.below hb ?_ ?_); · first | omega | (simp; done) | (simp; omega)))), (by repeat (first | (with_reducible assumption) | ((with_reducible refine Blk.new ?_); · first | omega | (simp; done) | (simp; omega)) | (with_reducible apply Blk.set4) | (with_reducible apply Blk.set3) | (with_reducible apply Blk.set2) | ((with_reducible refine Blk.put ?_ ?_); · first | omega | (simp; omega)) | (with_reducible refine Blk.old ?_) | (with_reducible refine Blk.drew ?_) | (with_reducible refine Blk.drewN ?_) | ((with_reducible refine Blk.below hb ?_ ?_); · first | omega | (simp; done) | (simp; omega))))⟩ ?_
  rintro w1 ⟨kw1, B0, N1⟩
  have sw1 := kw1.size
  have lB0 := B0.lt
  have lN1 := N1.lt
  have O1 : Own w1 (w.heap.size + 1) (.slice (some ⟨w.heap.size + 1, 0, none⟩) 1 1) ((cyK (fn T) i 1).map Int.ofNat) := Own.of_blk (xs := [(i : Int)]) N1 (by omega) rfl (by simp [maxLen])
  clear N1
  go_wp2
  go_loopw [5, 6] (fun v kk wr => ∃ j : Nat, 1 ≤ j ∧ kk = .int .i64 (it (fn T) j i : Nat) ∧ Hid (NoRet (fn T) i j) ∧ Own wr (w.heap.size + 1) v ((cyK (fn T) i j).map Int.ofNat) ∧ Blk wr w.heap.size 44 #[.slice ao S.length sc, .slice (some ta) n tc] ∧ Below w.heap.size w wr) (fun v _ _ => n + 1 - lenOf v)
  case atStart => exact ⟨1, Nat.le_refl _, rfl, Lib.hid (NoRet.one _ _), O1, B0, kw1⟩
  case round =>
    clear O1 B0 kw1 sw1
    obtain ⟨j, hj1, rfl, hno, O, B0, kwr⟩ := hrel
    have hle := hno.out.le HG.out HJ.out hi
    have HX := Lib.hid (show it (fn T) (j + 1) i = fn T (it (fn T) j i) from rfl)
    have hxl := it_lt HG.out hi j
    have hlen := O.toK.lenOf
    rw [List.length_map, cyK_len] at hlen
    have HS := Lib.hid (fun hk => NoRet.succ (g := fn T) (i := i) (k := j) hno.out hk)
    have HE := Lib.hid (fun (hk : it (fn T) j i = i) => Per.unique (g := fn T) (i := i) ⟨hj1, hk, hno.out⟩ hperR.out)
    have HC := Lib.hid (cyK_succ (fn T) i j)
    generalize it (fn T) j i = x at *
    cases hx : (((x : Nat) : Int) != ((i : Nat) : Int)) with
    | true =>
      have HQ := Lib.hid (HS.out (nat_ne hx))
      have cx : wr.cell? (ta.add x) = some (.int .i64 (fn T x : Int)) := by
        have e := HB.out x hxl
        rw [kwr.cell (block_lt_of_cell e :)]
        exact e
      have lx := block_lt_of_cell cx
      obtain ⟨vo, vc, rfl, -⟩ := nats_open O.slIn
      rw [cyK_len] at *
      have j0 : (0 : Int) ≤ (x : Int) := by omega
      have j1 : (x : Int) < (n : Int) := by omega
      have lB0 := B0.lt
      have swr := kwr.size
      have b0 := B0.p2
      have H := Lib.hid (And.intro O (And.intro B0 kwr))
      clear O B0 kwr b0 cx
      obtain ⟨jI, hinf⟩ := HINF.out
      replace hinf := Lib.hid hinf
      go_wp2_with (at_builtin; refine wpList_app encI rfl _ _ 35 2 8 rfl Try.underlying35 jI _ hinf.out.1 hinf.out.2.1 hinf.out.2.2.1 hinf.out.2.2.2 rfl (.slice vo j vc) ((cyK (fn T) i j).map Int.ofNat) (w.heap.size + 1) wr.heap.size 1 #[.int .i64 (x : Int)] [(x : Int)] rfl ?o1 rfl ?b1 rfl ?l1 ?l2 (by first | omega | (simp; done) | (simp; omega)) ?_)
      case o1 =>
        have O1 := H.out.1.toK
        exact (by repeat (first | (with_reducible assumption) | (with_reducible refine Own.drew ?_) | (with_reducible refine Own.drewN ?_) | (with_reducible refine Own.alloc ?_) | (with_reducible refine OwnK.drew ?_) | (with_reducible refine OwnK.drewN ?_) | (with_reducible refine OwnK.alloc ?_) | ((with_reducible refine OwnK.put ?_ ?_); · first | omega | (simp; done) | (simp; omega)) | ((with_reducible refine Own.below hb ?_)) | ((with_reducible refine OwnK.below hb ?_))))
      case b1 => exact Blk.new (by simp)
      case l1 => simp only [List.length_map, List.length_cons, List.length_nil, cyK_len, maxLen]; omega
      case l2 => simp only [List.length_map, List.length_cons, List.length_nil, cyK_len]; omega
      intro v' w2 O2 hg
      have O1 := H.out.1
      have kk := H.out.2.2
      have B2 : Blk w2 w.heap.size 44 #[.slice ao S.length sc, .slice (some ta) n tc] := Blk.grown hg (B2 := w.heap.size + 1) (ys := (cyK (fn T) i j).map Int.ofNat) (by repeat (first | (with_reducible assumption) | (with_reducible refine Own.drew ?_) | (with_reducible refine Own.drewN ?_) | (with_reducible refine Own.alloc ?_) | (with_reducible refine OwnK.drew ?_) | (with_reducible refine OwnK.drewN ?_) | (with_reducible refine OwnK.alloc ?_) | ((with_reducible refine OwnK.put ?_ ?_); · first | omega | (simp; done) | (simp; omega)) | ((with_reducible refine Own.below hb ?_)) | ((with_reducible refine OwnK.below hb ?_)))) (by omega) (Blk.old H.out.2.1)
      have kw2 : Below w.heap.size w w2 := Below.grownO hg (B2 := w.heap.size + 1) (ys := (cyK (fn T) i j).map Int.ofNat) (by repeat (first | (with_reducible assumption) | (with_reducible refine Own.drew ?_) | (with_reducible refine Own.drewN ?_) | (with_reducible refine Own.alloc ?_) | (with_reducible refine OwnK.drew ?_) | (with_reducible refine OwnK.drewN ?_) | (with_reducible refine OwnK.alloc ?_) | ((with_reducible refine OwnK.put ?_ ?_); · first | omega | (simp; done) | (simp; omega)) | ((with_reducible refine Own.below hb ?_)) | ((with_reducible refine OwnK.below hb ?_)))) (by omega) (by simp; omega) (by repeat (first | (with_reducible exact Below.refl _ _) | (with_reducible assumption) | (with_reducible refine Below.drew ?_) | (with_reducible refine Below.drewN ?_) | ((with_reducible refine Below.al ?_ ?_); · first | omega | (simp; done) | (simp; omega)) | ((with_reducible refine Below.sc ?_ ?_); · first | omega | (simp; done) | (simp; omega)) | ((with_reducible refine Below.thru hb ?_ ?_); · first | omega | (simp; done) | (simp; omega))))
      have len2 := O2.lenOf
      have O3 : Own w2 (w.heap.size + 1) v' ((cyK (fn T) i (j + 1)).map Int.ofNat) := by
        rw [HC.out, List.map_append]
        exact OwnK.toOwn O2
      simp only [List.length_append, List.length_map, List.length_cons, List.length_nil, cyK_len] at len2
      have cx2 : w2.cell? (ta.add x) = some (.int .i64 (fn T x : Int)) := by
        have e := HB.out x hxl
        rw [kw2.cell (block_lt_of_cell e :)]
        exact e
      have b2 := B2.p2
      clear hg O2 O1 kk H
      go_wp2
      go_roundw
      case rel => exact ⟨j + 1, by omega, by rw [HX.out], HQ, O3, B2, kw2⟩
      case measure => rw [len2]; simp only [lenOf]; omega
    | false =>
      have HP := Lib.hid (HE.out (nat_eq hx))
      obtain ⟨vo, vc, rfl, -⟩ := nats_open O.slIn
      have HO := Lib.hid (And.intro O kwr)
      clear O kwr
      go_wp2
      refine bodyPost_ret (v := .slice vo (cyK (fn T) i j).length vc) (by simp [results, Try.results65, go_sem]) rfl ?_
      exact ⟨_, rfl, by unfold cyL; rw [← HP.out]; exact HO.out.1.mono (by omega), HO.out.2⟩

/-- The least number of a list. -/
def minL (xs : List Int) (k : Nat) : Int := (xs.take k).foldl min (xs.getD 0 0)
theorem minL_succ {xs : List Int} {k : Nat} (h : k < xs.length) : minL xs (k + 1) = min (minL xs k) xs[k] := by
  unfold minL
  rw [List.take_add_one, List.getElem?_eq_getElem h, List.foldl_append]
  rfl
end Go.Proofs.Ytjpkopnkfpgahaa

/- Actions in the laws: what every law on them uses. -/
namespace Go.Proofs.Ytjpkopnkfpgahaa
open Go.RowKit

theorem SlIn.le {w : World} {k : IntKind} {v : Value} {xs : List Int} (h : SlIn w k v xs) : xs.length ≤ maxLen := by
  rcases h with ⟨_, rfl⟩ | ⟨a, c, _, h1, h2, _⟩
  · simp
  · omega
theorem OwnA.sl {w : World} {B : Nat} {s t : Value} {X : Act} (h : OwnA w B s t X) : SlIn w .i64 s X.S ∧ SlIn w .i64 t X.T := ⟨h.1.slIn, h.2.1.slIn⟩
theorem SlIn2.below {w w' : World} {s t : Value} {S T : List Int} (h : SlIn w .i64 s S ∧ SlIn w .i64 t T) (hb : Below w.heap.size w w') : SlIn w' .i64 s S ∧ SlIn w' .i64 t T := ⟨h.1.below hb, h.2.below hb⟩
theorem SlIn2.le {w : World} {s t : Value} {S T : List Int} (h : SlIn w .i64 s S ∧ SlIn w .i64 t T) : S.length ≤ maxLen ∧ T.length ≤ maxLen := ⟨h.1.le, h.2.le⟩
theorem OwnA.below {w w' : World} {B : Nat} {s t : Value} {X : Act} (h : OwnA w B s t X) (hb : Below w.heap.size w w') : OwnA w' B s t X := ⟨h.1.below hb, h.2.1.below hb, h.2.2⟩

end Go.Proofs.Ytjpkopnkfpgahaa
