/- The cycles of a permutation: plain law. -/
import Derived.Test.YtamkbgodenkboaaBfs
namespace Go.Proofs.Ytamkbgodenkboaa
open Go.RowKit

/-- g, so many times. -/
def it (g : Nat → Nat) : Nat → Nat → Nat
  | 0, i => i
  | j + 1, i => g (it g j i)
theorem it_lt {g : Nat → Nat} {n i : Nat} (hg : ∀ a, a < n → g a < n) (hi : i < n) (j : Nat) : it g j i < n := by
  induction j with
  | zero => exact hi
  | succ j ih => exact hg _ ih
theorem it_add (g : Nat → Nat) (a b i : Nat) : it g (a + b) i = it g a (it g b i) := by
  induction a with
  | zero => rw [Nat.zero_add]; rfl
  | succ a ih => rw [show a + 1 + b = (a + b) + 1 by omega]; simp only [it, ih]
def Inj (g : Nat → Nat) (n : Nat) : Prop := ∀ a b, a < n → b < n → g a = g b → a = b
theorem it_inj {g : Nat → Nat} {n : Nat} (hg : ∀ a, a < n → g a < n) (hj : Inj g n) (j : Nat) {a b : Nat} (ha : a < n) (hb : b < n) (h : it g j a = it g j b) : a = b := by
  induction j with
  | zero => exact h
  | succ j ih => exact ih (hj _ _ (it_lt hg ha j) (it_lt hg hb j) h)
theorem perm_inj {p : List Int} {n : Nat} (h : permB p n) : Inj (fn p) n := by
  have key : ∀ a b, a < b → b < n → fn p a = fn p b → False := fun a b hab hb he => by
    have hl := h.1
    have e1 := fn_at h (a := a) (by omega)
    have e2 := fn_at h hb
    have hb' : b < p.length := by omega
    have h3 := (h.2 b hb' hb').2
    apply h3
    have hm : p[a]? = p[b]? := by rw [e1, e2, he]
    rw [List.getElem?_eq_getElem hb', List.getElem?_eq_getElem (by omega)] at hm
    rw [← Option.some.inj hm]
    exact List.mem_take_iff_getElem.2 ⟨a, by omega, rfl⟩
  intro a b ha hb he
  rcases Nat.lt_trichotomy a b with h1 | h1 | h1
  · exact (key a b h1 hb he).elim
  · exact h1
  · exact (key b a h1 ha he.symm).elim

/-- The first k points from i on. -/
def cyK (g : Nat → Nat) (i k : Nat) : List Nat := (List.range k).map (it g · i)
theorem cyK_len (g : Nat → Nat) (i k : Nat) : (cyK g i k).length = k := by simp [cyK]
theorem cyK_succ (g : Nat → Nat) (i k : Nat) : cyK g i (k + 1) = cyK g i k ++ [it g k i] := by
  unfold cyK
  rw [List.range_succ, List.map_append]
  rfl
theorem cyK_mem {g : Nat → Nat} {i k x : Nat} : x ∈ cyK g i k ↔ ∃ j, j < k ∧ it g j i = x := by
  simp [cyK]
/-- Before step k the point i does not come again. -/
def NoRet (g : Nat → Nat) (i k : Nat) : Prop := ∀ j, 1 ≤ j → j < k → it g j i ≠ i
theorem NoRet.one (g : Nat → Nat) (i : Nat) : NoRet g i 1 := fun j h1 h2 => absurd h2 (by omega)
theorem NoRet.succ {g : Nat → Nat} {i k : Nat} (h : NoRet g i k) (hk : it g k i ≠ i) : NoRet g i (k + 1) := fun j h1 h2 => by
  by_cases e : j < k
  · exact h j h1 e
  · obtain rfl : j = k := by omega
    exact hk
theorem NoRet.inj {g : Nat → Nat} {n i k : Nat} (hg : ∀ a, a < n → g a < n) (hj : Inj g n) (hi : i < n) (h : NoRet g i k) : ∀ a b, a < k → b < k → it g a i = it g b i → a = b := by
  have key : ∀ a b, a < b → b < k → it g a i = it g b i → False := fun a b hab hb he => by
    rw [show b = a + (b - a) by omega, it_add] at he
    exact h (b - a) (by omega) (by omega) (it_inj hg hj a hi (it_lt hg hi _) he).symm
  intro a b ha hb he
  rcases Nat.lt_trichotomy a b with h1 | h1 | h1
  · exact (key a b h1 hb he).elim
  · exact h1
  · exact (key b a h1 ha he.symm).elim
theorem NoRet.nodup {g : Nat → Nat} {n i k : Nat} (hg : ∀ a, a < n → g a < n) (hj : Inj g n) (hi : i < n) (h : NoRet g i k) : (cyK g i k).Nodup := by
  rw [List.nodup_iff_pairwise_ne, List.pairwise_iff_getElem]
  intro a b ha hb hab he
  rw [cyK_len] at ha hb
  have := h.inj hg hj hi a b ha hb (by simpa [cyK] using he)
  omega
theorem NoRet.le {g : Nat → Nat} {n i k : Nat} (hg : ∀ a, a < n → g a < n) (hj : Inj g n) (hi : i < n) (h : NoRet g i k) : k ≤ n := by
  have := nodup_len (h.nodup hg hj hi) (n := n) (fun a ha => by
    obtain ⟨j, _, rfl⟩ := cyK_mem.1 ha
    exact it_lt hg hi j)
  rwa [cyK_len] at this

/-- The first step from j on at which i comes again. -/
def perF (g : Nat → Nat) (i : Nat) : Nat → Nat → Nat
  | 0, j => j
  | q + 1, j => if it g j i = i then j else perF g i q (j + 1)
def per (g : Nat → Nat) (i n : Nat) : Nat := perF g i n 1
structure Per (g : Nat → Nat) (i m : Nat) : Prop where
  one : 1 ≤ m
  ret : it g m i = i
  no : NoRet g i m
theorem Per.unique {g : Nat → Nat} {i m k : Nat} (h : Per g i m) (h' : Per g i k) : m = k := by
  rcases Nat.lt_trichotomy m k with e | e | e
  · exact absurd h.ret (h'.no m h.one e)
  · exact e
  · exact absurd h'.ret (h.no k h'.one e)
theorem perF_spec {g : Nat → Nat} {i m : Nat} (hm : it g m i = i) : ∀ q j, NoRet g i j → 1 ≤ j → j ≤ m → m ≤ j + q → Per g i (perF g i q j)
  | 0, j, h, h1, h2, h3 => by
    obtain rfl : m = j := by omega
    exact ⟨h1, hm, h⟩
  | q + 1, j, h, h1, h2, h3 => by
    unfold perF
    split
    · rename_i hr
      exact ⟨h1, hr, h⟩
    · rename_i hr
      have : j ≠ m := fun e => hr (e ▸ hm)
      exact perF_spec hm q (j + 1) (h.succ hr) (by omega) (by omega) (by omega)
theorem per_spec {g : Nat → Nat} {n i : Nat} (hg : ∀ a, a < n → g a < n) (hj : Inj g n) (hi : i < n) : Per g i (per g i n) := by
  have : ∃ m, 1 ≤ m ∧ m ≤ n ∧ it g m i = i := by
    by_cases h : ∃ m, 1 ≤ m ∧ m ≤ n ∧ it g m i = i
    · exact h
    · have hn : NoRet g i (n + 1) := fun j h1 h2 he => h ⟨j, h1, by omega, he⟩
      have := hn.le hg hj hi
      omega
  obtain ⟨m, h1, h2, h3⟩ := this
  exact perF_spec h3 n 1 (NoRet.one _ _) (Nat.le_refl _) h1 (by omega)
theorem per_le {g : Nat → Nat} {n i : Nat} (hg : ∀ a, a < n → g a < n) (hj : Inj g n) (hi : i < n) : per g i n ≤ n := (per_spec hg hj hi).no.le hg hj hi
/-- The cycle from i on. -/
def cyL (g : Nat → Nat) (i n : Nat) : List Nat := cyK g i (per g i n)
theorem it_mod {g : Nat → Nat} {i m : Nat} (h : it g m i = i) (hm : 1 ≤ m) (j : Nat) : it g j i = it g (j % m) i := by
  induction j using Nat.strongRecOn with
  | _ j ih =>
    by_cases hj : j < m
    · rw [Nat.mod_eq_of_lt hj]
    · rw [Nat.mod_eq_sub_mod (by omega), ← ih (j - m) (by omega)]
      have := it_add g (j - m) m i
      rw [show j - m + m = j by omega, h] at this
      exact this
/-- x lies on the cycle of i. -/
def On (g : Nat → Nat) (i x : Nat) : Prop := ∃ j, it g j i = x
theorem On.iff {g : Nat → Nat} {n i x : Nat} (hg : ∀ a, a < n → g a < n) (hj : Inj g n) (hi : i < n) : On g i x ↔ x ∈ cyL g i n := by
  have hp := per_spec hg hj hi
  constructor
  · rintro ⟨j, rfl⟩
    rw [it_mod hp.ret hp.one]
    exact cyK_mem.2 ⟨_, Nat.mod_lt _ hp.one, rfl⟩
  · intro h
    obtain ⟨j, _, e⟩ := cyK_mem.1 h
    exact ⟨j, e⟩
theorem On.symm {g : Nat → Nat} {n i x : Nat} (hg : ∀ a, a < n → g a < n) (hj : Inj g n) (hi : i < n) (h : On g i x) : On g x i := by
  have hp := per_spec hg hj hi
  obtain ⟨j, rfl⟩ := h
  rw [it_mod hp.ret hp.one]
  have hlt := Nat.mod_lt j (show 0 < per g i n from hp.one)
  refine ⟨per g i n - j % per g i n, ?_⟩
  rw [← it_add, show per g i n - j % per g i n + j % per g i n = per g i n by omega]
  exact hp.ret
theorem On.trans {g : Nat → Nat} {i x y : Nat} (h : On g i x) (k : On g x y) : On g i y := by
  obtain ⟨a, rfl⟩ := h
  obtain ⟨b, rfl⟩ := k
  exact ⟨b + a, it_add g b a i⟩

/-- Is i the least point of its cycle? -/
def isMin (g : Nat → Nat) (i n : Nat) : Bool := (cyL g i n).all fun x => decide (i ≤ x)
theorem isMin_iff {g : Nat → Nat} {n i : Nat} (hg : ∀ a, a < n → g a < n) (hj : Inj g n) (hi : i < n) : isMin g i n = true ↔ ∀ x, On g i x → i ≤ x := by
  unfold isMin
  rw [List.all_eq_true]
  exact ⟨fun h x hx => by simpa using h x ((On.iff hg hj hi).1 hx), fun h x hx => by simpa using h x ((On.iff hg hj hi).2 hx)⟩
/-- The cycles of the points below k, each from its least point on. -/
def cysL (g : Nat → Nat) (n : Nat) : Nat → List (List Nat)
  | 0 => []
  | k + 1 => if isMin g k n then cysL g n k ++ [cyL g k n] else cysL g n k
theorem cysL_len (g : Nat → Nat) (n k : Nat) : (cysL g n k).length ≤ k := by
  induction k with
  | zero => simp [cysL]
  | succ k ih => 
    simp only [cysL]
    split
    · simp; omega
    · omega

end Go.Proofs.Ytamkbgodenkboaa
