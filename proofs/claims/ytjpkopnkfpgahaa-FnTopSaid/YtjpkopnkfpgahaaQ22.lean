import Derived.Test.YtjpkopnkfpgahaaQ21
import Derived.Test.YtjpkopnkfpgahaaQ19
import Derived.Test.YtjpkopnkfpgahaaQ17
import Derived.Test.YtjpkopnkfpgahaaQ18
import Derived.Test.YtjpkopnkfpgahaaQ13
import Derived.Test.YtjpkopnkfpgahaaQ9
import Derived.Test.YtjpkopnkfpgahaaQ2
import Derived.Test.YtjpkopnkfpgahaaTail
import Derived.Laws.BitsLemmas
/- Words of L and T of at most 8 letters: their matrices, runs and chains, checked by the kernel (plain law). -/
namespace Go.Proofs.Ytjpkopnkfpgahaa
open Go.RowKit
set_option linter.unusedSimpArgs false

def treeB (P : List UInt8 → Bool) : Nat → List UInt8 → Bool
  | 0, l => P l
  | r + 1, l => P l && (treeB P r (l ++ [76]) && treeB P r (l ++ [84]))
theorem treeB_all {P : List UInt8 → Bool} : ∀ {r : Nat} {l : List UInt8}, treeB P r l = true → ∀ u : List UInt8, u.length ≤ r → (∀ b ∈ u, LT1 b) → P (l ++ u) = true
  | 0, l, h, u, hu, _ => by
    obtain rfl : u = [] := List.length_eq_zero_iff.1 (by omega)
    rw [List.append_nil]
    exact h
  | r + 1, l, h, u, hu, hb => by
    unfold treeB at h
    rw [Bool.and_eq_true, Bool.and_eq_true] at h
    cases u with
    | nil => rw [List.append_nil]; exact h.1
    | cons b u =>
      have hu2 : u.length ≤ r := by rw [List.length_cons] at hu; omega
      have hb2 : ∀ c ∈ u, LT1 c := fun c hc => hb c (List.mem_cons_of_mem _ hc)
      rw [show l ++ b :: u = (l ++ [b]) ++ u by simp]
      rcases hb b List.mem_cons_self with rfl | rfl
      · exact treeB_all h.2.1 u hu2 hb2
      · exact treeB_all h.2.2 u hu2 hb2
/-- At which step a chain ends. -/
def chF : Nat → M → Option Nat
  | 0, _ => none
  | r + 1, m => bif decide (m.c = 0) then some 0 else (chF r (chS m)).map Nat.succ
theorem chM_shift (m : M) (k : Nat) : chM (chS m) k = chM m (k + 1) := by
  induction k with
  | zero => rfl
  | succ k ih => rw [chM, ih]; rfl
theorem chF_ends : ∀ {r : Nat} {m : M} {k : Nat}, chF r m = some k → ChEnds m k
  | 0, _, _, h => by simp [chF] at h
  | r + 1, m, k, h => by
    unfold chF at h
    by_cases hc : m.c = 0
    · rw [decide_eq_true hc, cond_true] at h
      obtain rfl := Option.some.inj h
      exact ⟨fun j hj => absurd hj (Nat.not_lt_zero _), hc⟩
    · rw [decide_eq_false hc, cond_false, Option.map_eq_some_iff] at h
      obtain ⟨j, hj, rfl⟩ := h
      have e := chF_ends hj
      refine ⟨fun i hi => ?_, by rw [← chM_shift]; exact e.2⟩
      cases i with
      | zero => exact hc
      | succ i => rw [← chM_shift]; exact e.1 i (by omega)
def runQ (l : List UInt8) (ns : List Int) : Bool := decide (wdK ns ns.length = l) && decide (ns.length ≤ 100) && (List.range ns.length).all fun k => decide (0 ≤ ns.getD k 0 ∧ (wdK ns k).length + (ns.getD k 0).toNat ≤ 200)
def chnQ (m : M) (sg : Int) (qs : List Int) : Bool := decide (sg = 1 ∨ sg = -1) && decide (1 ≤ qs.length) && decide (qs.length ≤ 50) && qs.all entB && (fcK sg qs qs.length).all M.ents && decide (prodFrom M.one (fcK sg qs qs.length) = some m)
def matQ (l : List UInt8) (m : M) : Bool :=
  m.ok && decide (0 ≤ m.a ∧ 0 ≤ m.b ∧ 0 ≤ m.c ∧ 0 ≤ m.d) && decide (m.a ≤ 100000 ∧ m.b ≤ 100000 ∧ m.c ≤ 100000 ∧ m.d ≤ 100000)
  && decide (Int.gcd m.a m.c = 1 ∧ Int.gcd m.b m.d = 1) && decide (nfF m.a m.c.toNat * m.d - m.c * nfF m.b m.d.toNat = 1)
  && (match rnF 12 m true with | none => false | some ns => runQ l ns) && (match chF 20 m with | none => false | some k => chnQ m (chM m k).a (chQs m k ++ [(chM m k).a * (chM m k).b]))
def wordQ (l : List UInt8) : Bool := match prodFrom M.one (l.map lmW) with | none => false | some m => matQ l m
theorem words3 : treeB wordQ 8 [] = true := by decide +kernel

end Go.Proofs.Ytjpkopnkfpgahaa

/- Words of L and T of at most 8 letters at a level: the coset and the point led (plain law). -/
namespace Go.Proofs.Ytjpkopnkfpgahaa
open Go.RowKit
set_option linter.unusedSimpArgs false

def nodeQ (n : Nat) (L : List (Nat × Nat)) (S T : List Int) (m : M) (p : Nat) : Bool :=
  decide (idxP L (nrmC n m.c m.d) = (p : Int)) && (match chF 20 m with | none => false | some k => decide (ldAt S T S.length (chQs m k ++ [(chM m k).a * (chM m k).b]) 0 (chQs m k ++ [(chM m k).a * (chM m k).b]).length = p))
def levT (n : Nat) (L : List (Nat × Nat)) (S T : List Int) : Nat → M → Nat → Bool
  | 0, m, p => nodeQ n L S T m p
  | r + 1, m, p => nodeQ n L S T m p && (levT n L S T r (m.mul (lmW 76)) (lp S T S.length 76 p) && levT n L S T r (m.mul (lmW 84)) (lp S T S.length 84 p))
def levL (n r : Nat) (S T : List Int) : Bool := decide (movL n matS = S) && decide (movL n matT = T) && decide (isA S T = true) && levT n (lineL n) S T r M.one 0
theorem lev1 : levL 1 8 [0] [0] = true := by decide +kernel
theorem lev2 : levL 2 8 [1, 0, 2] [0, 2, 1] = true := by decide +kernel
theorem lev3 : levL 3 8 [1, 0, 3, 2] [0, 2, 3, 1] = true := by decide +kernel
theorem lev4 : levL 4 8 [1, 0, 4, 5, 2, 3] [0, 2, 3, 4, 1, 5] = true := by decide +kernel
theorem lev5 : levL 5 8 [1, 0, 5, 3, 4, 2] [0, 2, 3, 4, 5, 1] = true := by decide +kernel
theorem lev6 : levL 6 8 [1, 0, 6, 9, 10, 7, 2, 5, 11, 3, 4, 8] [0, 2, 3, 4, 5, 6, 1, 8, 9, 7, 11, 10] = true := by decide +kernel
theorem lev7 : levL 7 8 [1, 0, 7, 4, 3, 6, 5, 2] [0, 2, 3, 4, 5, 6, 7, 1] = true := by decide +kernel
theorem lev8 : levL 8 8 [1, 0, 8, 10, 6, 11, 4, 9, 2, 7, 3, 5] [0, 2, 3, 4, 5, 6, 7, 8, 1, 10, 9, 11] = true := by decide +kernel
theorem lev9 : levL 9 8 [1, 0, 9, 5, 11, 3, 8, 10, 6, 2, 7, 4] [0, 2, 3, 4, 5, 6, 7, 8, 9, 1, 10, 11] = true := by decide +kernel
theorem lev10 : levL 10 8 [1, 0, 10, 15, 4, 14, 16, 12, 8, 11, 2, 9, 7, 17, 5, 3, 6, 13] [0, 2, 3, 4, 5, 6, 7, 8, 9, 10, 1, 12, 13, 14, 15, 11, 17, 16] = true := by decide +kernel
theorem lev11 : levL 11 8 [1, 0, 11, 6, 8, 9, 3, 10, 4, 5, 7, 2] [0, 2, 3, 4, 5, 6, 7, 8, 9, 10, 11, 1] = true := by decide +kernel
theorem lev12 : levL 12 8 [1, 0, 12, 15, 19, 22, 8, 23, 6, 20, 16, 13, 2, 11, 17, 3, 10, 14, 21, 4, 9, 18, 5, 7] [0, 2, 3, 4, 5, 6, 7, 8, 9, 10, 11, 12, 1, 14, 15, 13, 18, 16, 19, 17, 22, 20, 21, 23] = true := by decide +kernel

end Go.Proofs.Ytjpkopnkfpgahaa

/- What the calls of FnTop give on a word of L and T (plain law, joined with the walks). -/
namespace Go.Proofs.Ytjpkopnkfpgahaa
open Go.RowKit
set_option linter.unusedSimpArgs false

def mulW (m : M) (l : List UInt8) : M := l.foldl (fun m b => m.mul (lmW b)) m
theorem prod_mulW : ∀ {l : List UInt8} {m r : M}, prodFrom m (l.map lmW) = some r → r = mulW m l
  | [], m, r, h => (Option.some.inj h).symm
  | b :: l, m, r, h => by
    rw [List.map_cons, prodFrom_cons] at h
    split at h
    · exact prod_mulW (l := l) (m := m.mul (lmW b)) h
    · exact absurd h (by simp)
theorem levT_all {n : Nat} {L : List (Nat × Nat)} {S T : List Int} : ∀ {r : Nat} {m : M} {p : Nat}, levT n L S T r m p = true → ∀ u : List UInt8, u.length ≤ r → (∀ b ∈ u, LT1 b) → nodeQ n L S T (mulW m u) (u.foldl (fun p b => lp S T S.length b.toNat p) p) = true
  | 0, m, p, h, u, hu, _ => by
    obtain rfl : u = [] := List.length_eq_zero_iff.1 (by omega)
    exact h
  | r + 1, m, p, h, u, hu, hb => by
    unfold levT at h
    rw [Bool.and_eq_true, Bool.and_eq_true] at h
    cases u with
    | nil => exact h.1
    | cons b u =>
      have hu2 : u.length ≤ r := by rw [List.length_cons] at hu; omega
      have hb2 : ∀ c ∈ u, LT1 c := fun c hc => hb c (List.mem_cons_of_mem _ hc)
      rcases hb b List.mem_cons_self with rfl | rfl
      · exact levT_all h.2.1 u hu2 hb2
      · exact levT_all h.2.2 u hu2 hb2
theorem lpAll_fold (S T : List Int) (n : Nat) (s : ByteArray) (i : Nat) : ∀ k, k ≤ s.size → lpAll S T n s i k = (s.data.toList.take k).foldl (fun p b => lp S T n b.toNat p) i
  | 0, _ => rfl
  | k + 1, h => by
    have hk : k < s.size := by omega
    rw [lpAll, lpAll_fold S T n s i k (by omega), List.take_succ_eq_append_getElem (by rw [Array.length_toList]; exact h), List.foldl_append, bytesW_get hk, getElem!_pos s k hk]
    rfl
theorem wordLT_list {s : ByteArray} (h : WordLT s) : s.data.toList.length ≤ 8 ∧ ∀ b ∈ s.data.toList, LT1 b := by
  refine ⟨by rw [Array.length_toList]; exact h.1, fun b hb => ?_⟩
  obtain ⟨k, hk, rfl⟩ := List.getElem_of_mem hb
  rw [Array.length_toList] at hk
  rw [bytesW_get hk]
  exact h.2 k hk
theorem msW_all (s : ByteArray) : msW s s.size = s.data.toList.map lmW := by
  unfold msW
  rw [List.take_of_length_le (by rw [Array.length_toList]; exact Nat.le_refl _)]
theorem word_mat {s : ByteArray} (h : WordLT s) : ∃ m, matW s = some m ∧ matQ s.data.toList m = true ∧ m = mulW M.one s.data.toList := by
  have hl := wordLT_list h
  have e := treeB_all words3 _ hl.1 hl.2
  rw [List.nil_append] at e
  unfold wordQ at e
  unfold matW
  rw [msW_all]
  split at e
  · exact absurd e (by simp)
  · rename_i m hm
    exact ⟨m, hm, e, prod_mulW hm⟩
/-- What matQ says. -/
structure MatG (s : ByteArray) (m : M) : Prop where
  ok : m.ok = true
  nn : 0 ≤ m.a ∧ 0 ≤ m.b ∧ 0 ≤ m.c ∧ 0 ≤ m.d
  le : m.a ≤ 100000 ∧ m.b ≤ 100000 ∧ m.c ≤ 100000 ∧ m.d ≤ 100000
  gc : Int.gcd m.a m.c = 1 ∧ Int.gcd m.b m.d = 1
  nf : nfF m.a m.c.toNat * m.d - m.c * nfF m.b m.d.toNat = 1
  rn : ∃ ns, rnF 12 m true = some ns ∧ runQ s.data.toList ns = true
  ch : ∃ k, ChEnds m k ∧ chnQ m (chM m k).a (chQs m k ++ [(chM m k).a * (chM m k).b]) = true
theorem word_good {s : ByteArray} (h : WordLT s) : ∃ m, matW s = some m ∧ MatG s m ∧ m = mulW M.one s.data.toList := by
  obtain ⟨m, h1, h2, h3⟩ := word_mat h
  refine ⟨m, h1, ?_, h3⟩
  unfold matQ at h2
  simp only [Bool.and_eq_true] at h2
  obtain ⟨⟨⟨⟨⟨⟨a1, a2⟩, a3⟩, a4⟩, a5⟩, a6⟩, a7⟩ := h2
  refine ⟨a1, of_decide_eq_true a2, of_decide_eq_true a3, of_decide_eq_true a4, of_decide_eq_true a5, ?_, ?_⟩
  · split at a6
    · exact absurd a6 (by simp)
    · rename_i ns hns
      exact ⟨ns, hns, a6⟩
  · split at a7
    · exact absurd a7 (by simp)
    · rename_i k hk
      exact ⟨k, chF_ends hk, a7⟩
theorem pos_call {s : ByteArray} {m : M} (g : MatG s m) (w : World) :
    Calls Try.prog 9 #[mv m] w fun e w' => e = .returned (.tuple #[.string s, .int .i64 0]) ∧ Below w.heap.size w w' := by
  obtain ⟨ns, h1, h2⟩ := g.rn
  unfold runQ at h2
  simp only [Bool.and_eq_true] at h2
  obtain ⟨⟨b1, b2⟩, b3⟩ := h2
  have e : (⟨(wdK ns ns.length).toArray⟩ : ByteArray) = s := by rw [of_decide_eq_true b1]
  have := PositiveWord_any m 12 ns w g.ok g.nn h1 (by omega) (of_decide_eq_true b2) (fun k hk => of_decide_eq_true (List.all_eq_true.1 b3 k (List.mem_range.2 hk)))
  rw [e] at this
  exact this
/-- What ChainOf gives: a chain that MatrixOfChain takes back. -/
def GivesTc (m : M) (w : World) (e : Ending) (w' : World) : Prop := ∃ sg v qs, e = .returned (.tuple #[.int .i64 sg, v, .int .i64 0]) ∧ SlIn w' .i64 v qs ∧ (∀ w2 v2, SlIn w2 .i64 v2 qs → Calls Try.prog 11 #[.int .i64 sg, v2] w2 fun e w' => e = .returned (.tuple #[mv m, .int .i64 0]) ∧ Below w2.heap.size w2 w') ∧ Below w.heap.size w w'
theorem chain_call {s : ByteArray} {m : M} (g : MatG s m) (w : World) : Calls Try.prog 10 #[mv m] w (GivesTc m w) := by
  refine (ChainOf_any m w g.ok).mono ?_
  rintro e w' ⟨v, k, he, hk, ho, hb⟩
  obtain ⟨j, hj, h2⟩ := g.ch
  obtain rfl := hk.unique hj
  unfold chnQ at h2
  simp only [Bool.and_eq_true] at h2
  obtain ⟨⟨⟨⟨⟨b1, b2⟩, b3⟩, b4⟩, b5⟩, b6⟩ := h2
  refine ⟨_, v, _, he, ho.slIn, fun w2 v2 hv => ?_, hb⟩
  have := MatrixOfChain_any _ v2 _ w2 hv (of_decide_eq_true b1) (of_decide_eq_true b2) (of_decide_eq_true b3) b4 b5
  rw [of_decide_eq_true b6] at this
  exact this
theorem left_call {s : ByteArray} {m : M} (g : MatG s m) (w : World) :
    Calls Try.prog 12 #[mv m, .agg #[.int .i64 1, .int .i64 0]] w fun e w' => e = .returned (.tuple #[.agg #[.int .i64 (nfF m.a m.c.toNat), .int .i64 m.c], .int .i64 0]) ∧ Below w.heap.size w w' := by
  have h1 := g.nn
  have h2 := g.le
  have e : ((m.c.toNat : Nat) : Int) = m.c := by omega
  have := LeadFraction_any m 1 0 m.a m.c.toNat w g.ok (by decide) (by omega) (by omega) (by rw [e]; exact g.gc.1) (by omega) (by omega) (.inl ⟨rfl, rfl⟩)
  rw [e] at this
  exact this
theorem right_call {s : ByteArray} {m : M} (g : MatG s m) (w : World) :
    Calls Try.prog 12 #[mv m, .agg #[.int .i64 0, .int .i64 1]] w fun e w' => e = .returned (.tuple #[.agg #[.int .i64 (nfF m.b m.d.toNat), .int .i64 m.d], .int .i64 0]) ∧ Below w.heap.size w w' := by
  have h1 := g.nn
  have h2 := g.le
  have e : ((m.d.toNat : Nat) : Int) = m.d := by omega
  have := LeadFraction_any m 0 1 m.b m.d.toNat w g.ok (by decide) (by omega) (by omega) (by rw [e]; exact g.gc.2) (by omega) (by omega) (.inr ⟨rfl, rfl⟩)
  rw [e] at this
  exact this
theorem nf_bd (p : Int) (q : Nat) (h : 0 ≤ p ∧ p ≤ 100000) : 0 ≤ nfF p q ∧ nfF p q ≤ 100000 := by
  unfold nfF
  cases Nat.beq q 0
  · exact h
  · rw [cond_true]; exact ⟨by decide, by decide⟩
/-- A level's action. -/
structure LevG (n : Nat) (S T : List Int) : Prop where
  hS : movL n matS = S
  hT : movL n matT = T
  isA : isA S T = true
  lev : levT n (lineL n) S T 8 M.one 0 = true
  pos : 1 ≤ S.length ∧ S.length ≤ 24 ∧ T.length ≤ 24
theorem LevG.of {n : Nat} {S T : List Int} (h : levL n 8 S T = true) (p : 1 ≤ S.length ∧ S.length ≤ 24 ∧ T.length ≤ 24) : LevG n S T := by
  unfold levL at h
  simp only [Bool.and_eq_true] at h
  obtain ⟨⟨⟨b1, b2⟩, b3⟩, b4⟩ := h
  exact ⟨of_decide_eq_true b1, of_decide_eq_true b2, of_decide_eq_true b3, b4, p⟩
theorem lev_good (n : Nat) (h1 : 1 ≤ n) (h2 : n ≤ 12) : ∃ S T, LevG n S T := by
  obtain rfl | rfl | rfl | rfl | rfl | rfl | rfl | rfl | rfl | rfl | rfl | rfl : n = 1 ∨ n = 2 ∨ n = 3 ∨ n = 4 ∨ n = 5 ∨ n = 6 ∨ n = 7 ∨ n = 8 ∨ n = 9 ∨ n = 10 ∨ n = 11 ∨ n = 12 := by omega
  · exact ⟨_, _, .of lev1 (by decide)⟩
  · exact ⟨_, _, .of lev2 (by decide)⟩
  · exact ⟨_, _, .of lev3 (by decide)⟩
  · exact ⟨_, _, .of lev4 (by decide)⟩
  · exact ⟨_, _, .of lev5 (by decide)⟩
  · exact ⟨_, _, .of lev6 (by decide)⟩
  · exact ⟨_, _, .of lev7 (by decide)⟩
  · exact ⟨_, _, .of lev8 (by decide)⟩
  · exact ⟨_, _, .of lev9 (by decide)⟩
  · exact ⟨_, _, .of lev10 (by decide)⟩
  · exact ⟨_, _, .of lev11 (by decide)⟩
  · exact ⟨_, _, .of lev12 (by decide)⟩
/-- The point of a word, for all three. -/
structure TopG (n : Nat) (s : ByteArray) (m : M) (S T : List Int) (p : Int) : Prop where
  cos : idxP (lineL n) (nrmC n m.c m.d) = p
  lead : lead2 S T s 0 = (p, 0)
  mat : ∀ r, LeadM S T m 0 r → r = (p, 0)
  p0 : 0 ≤ p ∧ p ≤ 72
theorem top_good {n : Nat} {s : ByteArray} {m : M} {S T : List Int} (h : WordLT s) (g : MatG s m) (hm : m = mulW M.one s.data.toList) (L : LevG n S T) (hn : (lineL n).length ≤ 72) : ∃ p, TopG n s m S T p := by
  have hl := wordLT_list h
  have hn0 := levT_all L.lev _ hl.1 hl.2
  have hf := lpAll_fold S T S.length s 0 s.size (Nat.le_refl _)
  rw [List.take_of_length_le (by rw [Array.length_toList]; exact Nat.le_refl _)] at hf
  rw [← hm, ← hf] at hn0
  unfold nodeQ at hn0
  rw [Bool.and_eq_true] at hn0
  obtain ⟨c1, c2⟩ := hn0
  have hp : ptB 0 S.length = true := by
    unfold ptB
    exact inB_mk ⟨Int.le_refl 0, by have := L.pos; omega⟩
  have c1' := of_decide_eq_true c1
  refine ⟨(lpAll S T S.length s 0 s.size : Int), c1', ?_, fun r hr => ?_, ?_⟩
  · unfold lead2
    rw [if_pos L.isA, wordLT_B h, hp]
    rfl
  · obtain ⟨k, hk, rfl⟩ := hr.2.2 (by rw [L.isA, g.ok]; rfl) hp
    split at c2
    · exact absurd c2 (by simp)
    · rename_i j hj
      obtain rfl := hk.unique (chF_ends hj)
      have := of_decide_eq_true c2
      unfold chL
      rw [show (0 : Int).toNat = 0 from rfl, this]
  · have := idxP_bd (lineL n) (nrmC n m.c m.d)
    rw [c1'] at this
    omega

end Go.Proofs.Ytjpkopnkfpgahaa

/- A source of numbers that follow from a code, walked by hand: contracts that leave the number open. -/
namespace Go.Proofs.Ytjpkopnkfpgahaa
open Go.RowKit
set_option linter.unusedSimpArgs false

theorem wrap_u64 (n : Int) : IntKind.u64.wrap n = n % 18446744073709551616 := by simp [IntKind.wrap, IntKind.bits, IntKind.signed]
theorem mask24 (y : Int) : 0 ≤ Go.bits .and .u64 (IntKind.u64.wrap y / 8589934592) 16777215 ∧ Go.bits .and .u64 (IntKind.u64.wrap y / 8589934592) 16777215 < 16777216 := by
  have h0 : 0 ≤ IntKind.u64.wrap y ∧ IntKind.u64.wrap y < 18446744073709551616 := by rw [wrap_u64]; omega
  have e := bits_mask .u64 31 (by decide) (fun n h0 h1 => by rw [wrap_u64]; omega) 24 (by decide) (IntKind.u64.wrap y / 8589934592) (by omega) (by omega)
  rw [show ((2 : Int) ^ 24 - 1) = 16777215 from rfl] at e
  rw [e]
  omega

/-- What the source's code is. -/
def CodeOk (code : List Int) : Prop := code.length ≤ 4096 ∧ ∀ x ∈ code, 0 ≤ x ∧ x ≤ 255
theorem CodeOk.at {code : List Int} (h : CodeOk code) (i : Nat) (hi : i < code.length) : 0 ≤ code[i] ∧ code[i] ≤ 255 := h.2 _ (List.getElem_mem _)

theorem cell_laterS {W : World} {a : Addr} {v : Value} (h : W.cell? a = some v) (x : Later W) : x.w.cell? a = some v := by
  rw [x.h.cell (block_lt_of_cell h :)]
  exact h
/-- All blocks but g stand, none is lost. -/
structure KeepB (w w' : World) (g : Nat) : Prop where
  size : w.heap.size ≤ w'.heap.size
  block : ∀ k, k < w.heap.size → k ≠ g → w'.heap[k]? = w.heap[k]?
theorem KeepB.refl (w : World) (g : Nat) : KeepB w w g := ⟨Nat.le_refl _, fun _ _ _ => rfl⟩
theorem KeepB.trans {w w1 w2 : World} {g : Nat} (h : KeepB w w1 g) (k : KeepB w1 w2 g) : KeepB w w2 g :=
  ⟨Nat.le_trans h.size k.size, fun i hi hn => (k.block i (Nat.lt_of_lt_of_le hi h.size) hn).trans (h.block i hi hn)⟩
theorem KeepB.of_below {w w1 : World} (hb : Below w.heap.size w w1) (g : Nat) : KeepB w w1 g := ⟨hb.size, fun i hi _ => hb.block i hi⟩
theorem KeepB.put {w w1 : World} {g i : Nat} {u : Value} (h : KeepB w w1 g) : KeepB w (w1.setCell ⟨g, i, none⟩ u) g :=
  ⟨by simp [World.setCell]; exact h.size, fun k hk hn => (Below.heap_setCell _ _ _ _ hn).trans (h.block k hk hn)⟩
theorem Blk.keep {w w1 : World} {g b : Nat} {E : TypeId} {cs : Array Value} (hk : KeepB w w1 g) (hn : b ≠ g) (h : Blk w b E cs) : Blk w1 b E cs := (hk.block b h.lt hn).trans h

/-- The cells of a source. -/
abbrev scs (ao : Option Addr) (n c : Nat) (a h : Int) : Array Value := #[.slice ao n c, .int .i64 a, .int .u64 h]
/-- The state of a source of the type E, made since w0. -/
def SrcE (E : TypeId) (w0 W : World) (g : Nat) (code : List Int) : Prop :=
  w0.heap.size ≤ g ∧ CodeOk code ∧ ∃ (ao : Option Addr) (c a : Nat) (h : Int), Blk W g E (scs ao code.length c a h) ∧ a ≤ code.length ∧ SlIn w0 .u8 (.slice ao code.length c) code
theorem SrcE.below {E : TypeId} {w0 W W1 : World} {g : Nat} {code : List Int} (hb : Below W.heap.size W W1) (h : SrcE E w0 W g code) : SrcE E w0 W1 g code := by
  obtain ⟨h0, hc, ao, c, a, x, h1, h2⟩ := h
  exact ⟨h0, hc, ao, c, a, x, h1.below hb h1.lt, h2⟩
theorem SrcE.put {E : TypeId} {w0 W : World} {g b i : Nat} {u : Value} {code : List Int} (hn : b ≠ g) (h : SrcE E w0 W g code) : SrcE E w0 (W.setCell ⟨b, i, none⟩ u) g code := by
  obtain ⟨h0, hc, ao, c, a, x, h1, h2⟩ := h
  exact ⟨h0, hc, ao, c, a, x, h1.put (Ne.symm hn), h2⟩
theorem SrcE.lt {E : TypeId} {w0 W : World} {g : Nat} {code : List Int} (h : SrcE E w0 W g code) : w0.heap.size ≤ g ∧ g < W.heap.size := by
  obtain ⟨h0, hc, ao, c, a, x, h1, h2⟩ := h
  exact ⟨h0, h1.lt⟩
theorem SrcE.ne {E E' : TypeId} {w0 W : World} {g b : Nat} {cs : Array Value} {code : List Int} (h : SrcE E w0 W g code) (hB : Blk W b E' cs) (hE : E' ≠ E) : b ≠ g := by
  obtain ⟨h0, hc, ao, c, a, x, h1, h2⟩ := h
  intro e
  subst e
  have q := h1.symm.trans hB
  simp only [Option.some.injEq, Obj.cells.injEq] at q
  exact hE q.2.1.symm
/-- What a call that draws leaves: the state, what lay before w0, all blocks but the state's. -/
def KptE (E : TypeId) (w0 w w' : World) (g : Nat) (code : List Int) : Prop := SrcE E w0 w' g code ∧ Below w0.heap.size w0 w' ∧ KeepB w w' g
theorem KptE.refl {E : TypeId} {w0 w : World} {g : Nat} {code : List Int} (hS : SrcE E w0 w g code) (hB : Below w0.heap.size w0 w) : KptE E w0 w w g code := ⟨hS, hB, KeepB.refl _ _⟩
theorem KptE.below {E : TypeId} {w0 w W W1 : World} {g : Nat} {code : List Int} (hb : Below W.heap.size W W1) (h : KptE E w0 w W g code) : KptE E w0 w W1 g code :=
  ⟨h.1.below hb, Below.thru hb h.2.1.size h.2.1, h.2.2.trans (KeepB.of_below hb g)⟩
theorem KptE.put {E : TypeId} {w0 w W : World} {g b i : Nat} {u : Value} {code : List Int} (hb : w.heap.size ≤ b) (hg : g < w.heap.size) (h : KptE E w0 w W g code) : KptE E w0 w (W.setCell ⟨b, i, none⟩ u) g code := by
  have hl := h.1.lt
  refine ⟨h.1.put (by omega), Below.sc (by show w0.heap.size ≤ b; omega) h.2.1, ⟨by simp [World.setCell]; exact h.2.2.size, fun k hk hn => (Below.heap_setCell _ _ _ _ (by show k ≠ b; omega)).trans (h.2.2.block k hk hn)⟩⟩
theorem KptE.step {E : TypeId} {w0 w W W1 : World} {g : Nat} {code : List Int} (h : KptE E w0 w W g code) (k : KptE E w0 W W1 g code) : KptE E w0 w W1 g code := ⟨k.1, k.2.1, h.2.2.trans k.2.2⟩
theorem KptE.size {E : TypeId} {w0 w W : World} {g : Nat} {code : List Int} (h : KptE E w0 w W g code) : w.heap.size ≤ W.heap.size := h.2.2.size

abbrev Src (w0 W : World) (g : Nat) (code : List Int) : Prop := SrcE 52 w0 W g code
abbrev Kpt (w0 w w' : World) (g : Nat) (code : List Int) : Prop := KptE 52 w0 w w' g code

set_option maxRecDepth 8000 in
set_option maxHeartbeats 1000000 in
theorem next_src {w0 wa w : World} {g : Nat} {code : List Int} (n : Int) (hK : Kpt w0 wa w g code) (hn : 1 ≤ n) :
    Calls Try.prog 6 #[.pointer (some ⟨g, 0, none⟩), .int .i64 n] w fun e w' => ∃ r : Int, e = .returned (.int .i64 r) ∧ (0 ≤ r ∧ r < n) ∧ Kpt w0 w w' g code := by
  obtain ⟨⟨hg, hc, ao, c, a, h, hB, ha, hS⟩, hW, -⟩ := hK
  have q0 : w.cell? ⟨g, 0, none⟩ = some (.slice ao code.length c) := hB.at rfl
  have q1 : w.cell? ⟨g, 1, none⟩ = some (.int .i64 a) := hB.at rfl
  have q2 : w.cell? ⟨g, 2, none⟩ = some (.int .u64 h) := hB.at rfl
  have f1 := hB.free 1
  have f2 := hB.free 2
  have hl := hc.1
  obtain ⟨GF, hGF⟩ : ∃ GF : Ending → World → Prop, (fun e w' => ∃ r : Int, e = .returned (.int .i64 r) ∧ (0 ≤ r ∧ r < n) ∧ Kpt w0 w w' g code) = GF := ⟨_, rfl⟩
  rw [hGF]
  have HGF := Lib.hid hGF
  have HX := Lib.hid (And.intro hg hS)
  have m := mask24 (IntKind.u64.wrap (h * 6364136223846793005) + 1442695040888963407)
  clear hGF hS
  by_cases h1 : a < code.length
  · go_enter Try.func6, Try.ntmps6
    go_wp2
    generalize Go.bits .and .u64 (IntKind.u64.wrap (IntKind.u64.wrap (h * 6364136223846793005) + 1442695040888963407) / 8589934592) 16777215 = b at m ⊢
    have e1 : wrap64 b = b := by unfold wrap64; omega
    (try rw [e1])
    generalize IntKind.u64.wrap (IntKind.u64.wrap (h * 6364136223846793005) + 1442695040888963407) = u at *
    refine forget (fun W_ => Blk W_ g 52 (scs ao code.length c a u) ∧ Below w0.heap.size w0 W_ ∧ KeepB w W_ g) ⟨hB.set, Below.sc hg hW, (KeepB.refl w g).put⟩ ?_
    rintro w1 ⟨B1, W1, K1⟩
    clear q0 q1 q2 f1 f2 hB hW
    have q0 : w1.cell? ⟨g, 0, none⟩ = some (.slice ao code.length c) := B1.at rfl
    have q1 : w1.cell? ⟨g, 1, none⟩ = some (.int .i64 a) := B1.at rfl
    have f1 := B1.free 1
    obtain ⟨ao', c', hv, hx⟩ := (SlIn.below W1 HX.out.2).form
    obtain ⟨ad, had, hx2⟩ := hx (by omega)
    injection hv with hv _ hv2
    subst hv hv2
    subst had
    have z := hx2 a h1
    have zb := hc.at a h1
    have HC := Lib.hid hc
    generalize code[a] = y at *
    have e2 : wrap64 y = y := by unfold wrap64; omega
    have e3 : wrap64 (b + y) = b + y := by unfold wrap64; omega
    have i0 : (0 : Int) ≤ (a : Int) := by omega
    have i1 : (a : Int) < (code.length : Int) := by omega
    have e4 : wrap64 ((a : Int) + 1) = ((a + 1 : Nat) : Int) := by unfold wrap64; omega
    clear hx hx2 hc
    go_quiet (fail)
    go_wp2_with fail
    go_quiet (fail)
    have HN := Lib.hid (And.intro hn (And.intro m zb))
    clear hn hg ha hl e1 e2 i0 i1 m zb
    go_wp2
    refine (show GF (.returned (.int .i64 ((b + y).tmod n))) _ from ?_)
    rw [← HGF.out]
    obtain ⟨hn, m, zb⟩ := HN.out
    rw [Int.tmod_eq_emod_of_nonneg (by omega)]
    exact ⟨_, rfl, ⟨Int.emod_nonneg _ (by omega), Int.emod_lt_of_pos _ (by omega)⟩, ⟨HX.out.1, HC.out, some ad, c, a + 1, u, (Blk.drewN B1).set, by omega, HX.out.2⟩, Below.sc HX.out.1 (Below.drewN W1), KeepB.put ⟨K1.size, K1.block⟩⟩
  · go_enter Try.func6, Try.ntmps6
    go_wp2
    generalize Go.bits .and .u64 (IntKind.u64.wrap (IntKind.u64.wrap (h * 6364136223846793005) + 1442695040888963407) / 8589934592) 16777215 = b at m ⊢
    have e1 : wrap64 b = b := by unfold wrap64; omega
    (try rw [e1])
    generalize IntKind.u64.wrap (IntKind.u64.wrap (h * 6364136223846793005) + 1442695040888963407) = u at *
    refine forget (fun W_ => Blk W_ g 52 (scs ao code.length c a u) ∧ Below w0.heap.size w0 W_ ∧ KeepB w W_ g) ⟨hB.set, Below.sc hg hW, (KeepB.refl w g).put⟩ ?_
    rintro w1 ⟨B1, W1, K1⟩
    clear q0 q1 q2 f1 f2 hB hW
    have q0 : w1.cell? ⟨g, 0, none⟩ = some (.slice ao code.length c) := B1.at rfl
    have q1 : w1.cell? ⟨g, 1, none⟩ = some (.int .i64 a) := B1.at rfl
    have i1 : ¬ (a : Int) < (code.length : Int) := by omega
    have HC := Lib.hid hc
    clear hc
    go_quiet (fail)
    go_wp2
    rw [← HGF.out]
    exact ⟨_, rfl, ⟨Int.emod_nonneg _ (by omega), Int.emod_lt_of_pos _ (by omega)⟩, ⟨HX.out.1, HC.out, ao, c, a, _, B1.drewN, ha, HX.out.2⟩, Below.drewN W1, K1.size, K1.block⟩

theorem Src.below {w0 W W1 : World} {g : Nat} {code : List Int} (hb : Below W.heap.size W W1) (h : Src w0 W g code) : Src w0 W1 g code := SrcE.below hb h
theorem Src.drew {w0 W : World} {g : Nat} {code : List Int} (h : Src w0 W g code) : Src w0 W.drew g code := h
theorem Src.drewN {w0 W : World} {g n : Nat} {code : List Int} (h : Src w0 W g code) : Src w0 (W.drewN n) g code := h
theorem Src.alloc {w0 W : World} {g : Nat} {o : Obj} {code : List Int} (h : Src w0 W g code) : Src w0 (W.alloc o) g code := SrcE.below ((Below.refl _ _).alloc (Nat.le_refl _) _) h
theorem Src.put {w0 W : World} {g b i : Nat} {u : Value} {code : List Int} (hn : b ≠ g) (h : Src w0 W g code) : Src w0 (W.setCell ⟨b, i, none⟩ u) g code := SrcE.put hn h
theorem Src.lt {w0 W : World} {g : Nat} {code : List Int} (h : Src w0 W g code) : w0.heap.size ≤ g ∧ g < W.heap.size := SrcE.lt h
theorem Src.ne {w0 W : World} {g b : Nat} {E : TypeId} {cs : Array Value} {code : List Int} (h : Src w0 W g code) (hB : Blk W b E cs) (hE : E ≠ 52) : b ≠ g := SrcE.ne h hB hE
theorem Kpt.refl {w0 w : World} {g : Nat} {code : List Int} (hS : Src w0 w g code) (hB : Below w0.heap.size w0 w) : Kpt w0 w w g code := KptE.refl hS hB
theorem Kpt.drew {w0 w W : World} {g : Nat} {code : List Int} (h : Kpt w0 w W g code) : Kpt w0 w W.drew g code := ⟨h.1, Below.drewN (n := 1) h.2.1, h.2.2.size, h.2.2.block⟩
theorem Kpt.drewN {w0 w W : World} {g n : Nat} {code : List Int} (h : Kpt w0 w W g code) : Kpt w0 w (W.drewN n) g code := ⟨h.1, Below.drewN h.2.1, h.2.2.size, h.2.2.block⟩
theorem Kpt.below {w0 w W W1 : World} {g : Nat} {code : List Int} (hb : Below W.heap.size W W1) (h : Kpt w0 w W g code) : Kpt w0 w W1 g code := KptE.below hb h
theorem Kpt.alloc {w0 w W : World} {g : Nat} {o : Obj} {code : List Int} (h : Kpt w0 w W g code) : Kpt w0 w (W.alloc o) g code := KptE.below ((Below.refl _ _).alloc (Nat.le_refl _) _) h
theorem Kpt.put {w0 w W : World} {g b i : Nat} {u : Value} {code : List Int} (hb : w.heap.size ≤ b) (hg : g < w.heap.size) (h : Kpt w0 w W g code) : Kpt w0 w (W.setCell ⟨b, i, none⟩ u) g code := KptE.put hb hg h
theorem Kpt.step {w0 w W W1 : World} {g : Nat} {code : List Int} (h : Kpt w0 w W g code) (k : Kpt w0 W W1 g code) : Kpt w0 w W1 g code := KptE.step h k
theorem Kpt.size {w0 w W : World} {g : Nat} {code : List Int} (h : Kpt w0 w W g code) : w.heap.size ≤ W.heap.size := KptE.size h

set_option maxRecDepth 8000 in
set_option maxHeartbeats 1000000 in
theorem from_src {w : World} {v : Value} {code : List Int} (hc : CodeOk code) (hv : SlIn w .u8 v code) :
    Calls Try.prog 5 #[v, .int .u64 9987] w fun e w' => ∃ g : Nat, e = .returned (.pointer (some ⟨g, 0, none⟩)) ∧ Src w w' g code ∧ Below w.heap.size w w' := by
  obtain ⟨GF, hGF⟩ : ∃ GF : Ending → World → Prop, (fun e w' => ∃ g : Nat, e = .returned (.pointer (some ⟨g, 0, none⟩)) ∧ Src w w' g code ∧ Below w.heap.size w w') = GF := ⟨_, rfl⟩
  rw [hGF]
  have HGF := Lib.hid hGF
  have HV := Lib.hid hv
  obtain ⟨ao, c, rfl, ha⟩ := hv.form
  have HA := Lib.hid ha
  have hl := hc.1
  have HC := Lib.hid hc
  clear hGF hv ha hc
  go_enter Try.func5, Try.ntmps5
  go_wp2
  refine forget (fun W_ => Blk W_ w.heap.size 52 (scs ao code.length c 0 (83780943 + (code.length : Int))) ∧ Below w.heap.size w W_) ⟨(by repeat (first | (with_reducible assumption) | ((with_reducible refine Blk.new ?_); · first | omega | (simp; done) | (simp; omega)) | (with_reducible apply Blk.set4) | (with_reducible apply Blk.set3) | (with_reducible apply Blk.set2) | ((with_reducible refine Blk.put ?_ ?_); · first | omega | (simp; omega)) | (with_reducible refine Blk.old ?_) | (with_reducible refine Blk.drew ?_) | (with_reducible refine Blk.drewN ?_) | ((with_reducible refine Blk.below hb ?_ ?_); · first | omega | (simp; done) | (simp; omega)))), (by repeat (first | (with_reducible exact Below.refl _ _) | (with_reducible assumption) | (with_reducible refine Below.drew ?_) | (with_reducible refine Below.drewN ?_) | ((with_reducible refine Below.al ?_ ?_); · first | omega | (simp; done) | (simp; omega)) | ((with_reducible refine Below.sc ?_ ?_); · first | omega | (simp; done) | (simp; omega)) | ((with_reducible refine Below.thru hb ?_ ?_); · first | omega | (simp; done) | (simp; omega))))⟩ ?_
  rintro w1 ⟨B1, W1⟩
  go_loopw [6] (fun i wr => ∃ (k : Nat) (h : Int), k ≤ code.length ∧ i = .int .i64 k ∧ Blk wr w.heap.size 52 (scs ao code.length c 0 h) ∧ Below w.heap.size w wr) (fun i _ => code.length - (intOf i).toNat)
  case atStart => exact ⟨0, _, Nat.zero_le _, rfl, B1, W1⟩
  case round =>
    clear B1 W1
    obtain ⟨k, h, hk, rfl, B1, W1⟩ := hrel
    by_cases hlt : k < code.length
    · obtain ⟨ad, rfl, hx⟩ := HA.out (by omega)
      have z := SlIn.below W1 HV.out
      have q0 : wr.cell? ⟨w.heap.size, 0, none⟩ = some (.slice (some ad) code.length c) := B1.at rfl
      have q2 : wr.cell? ⟨w.heap.size, 2, none⟩ = some (.int .u64 h) := B1.at rfl
      have f2 := B1.free 2
      have zz := hx k hlt
      have z : wr.cell? (ad.add k) = some (.int .u8 code[k]) := by
        rw [W1.cell (block_lt_of_cell zz :)]
        exact zz
      have zb := HC.out.at k hlt
      generalize code[k] = y at *
      have i0 : (0 : Int) ≤ (k : Int) := by omega
      have i1 : (k : Int) < (code.length : Int) := by omega
      clear hx zz
      go_wp2_with fail
      have Q2 := cell_laterS q2
      have Z2 := cell_laterS z
      have sW := W1.size
      have lB := B1.lt
      refine wp_region_calm_tail 15 (by kernel_rfl) (by kernel_rfl) ?_; simp only [List.take_succ_cons, List.take_zero, List.drop_succ_cons, List.drop_zero]
      repeat (go_big_quiet_step (fail))
      refine wpQuiet_nil ?_
      rintro w2 ⟨⟨_, hb⟩, rfl⟩
      have B2 : Blk w2 (w.heap.size) 52 (scs (some ad) code.length c 0 h) := (by repeat (first | (with_reducible assumption) | ((with_reducible refine Blk.new ?_); · first | omega | (simp; done) | (simp; omega)) | (with_reducible apply Blk.set4) | (with_reducible apply Blk.set3) | (with_reducible apply Blk.set2) | ((with_reducible refine Blk.put ?_ ?_); · first | omega | (simp; omega)) | (with_reducible refine Blk.old ?_) | (with_reducible refine Blk.drew ?_) | (with_reducible refine Blk.drewN ?_) | ((with_reducible refine Blk.below hb ?_ ?_); · first | omega | (simp; done) | (simp; omega))))
      have lB2 := B2.lt
      have kw2 : Below w.heap.size w w2 := (by repeat (first | (with_reducible exact Below.refl _ _) | (with_reducible assumption) | (with_reducible refine Below.drew ?_) | (with_reducible refine Below.drewN ?_) | ((with_reducible refine Below.al ?_ ?_); · first | omega | (simp; done) | (simp; omega)) | ((with_reducible refine Below.sc ?_ ?_); · first | omega | (simp; done) | (simp; omega)) | ((with_reducible refine Below.thru hb ?_ ?_); · first | omega | (simp; done) | (simp; omega))))
      have sw2 := kw2.size
      clear hb
      have f3 := B2.free 2
      have q3 : w2.cell? ⟨w.heap.size, 2, none⟩ = some (.int .u64 h) := B2.at rfl
      clear Q2 Z2 q0 q2 f2 z B1
      go_wp2
      go_roundw
      case rel => exact ⟨k + 1, _, by omega, by go_num, B2.set, Below.sc (Nat.le_refl _) kw2⟩
      case measure => simp [intOf]; omega
    · go_wp2
      refine (show GF (.returned (.pointer (some ⟨w.heap.size, 0, none⟩))) _ from ?_)
      rw [← HGF.out]
      exact ⟨_, rfl, ⟨Nat.le_refl _, HC.out, ao, c, 0, _, B1, Nat.zero_le _, HV.out⟩, W1⟩

theorem big_any {w : World} {v : Value} {code : List Int} (hv : SlIn w .u8 v code) :
    Calls Try.prog 4 #[v] w fun e w' => e = .returned (.bool (decide ((code.length : Int) > 4096))) ∧ Below w.heap.size w w' := by
  obtain ⟨ao, c, rfl, -⟩ := hv.form
  clear hv
  go_enter Try.func4, Try.ntmps4
  go_wp2
  go_ret
  exact ⟨rfl, (by repeat (first | (with_reducible exact Below.refl _ _) | (with_reducible assumption) | (with_reducible refine Below.drew ?_) | (with_reducible refine Below.drewN ?_) | ((with_reducible refine Below.al ?_ ?_); · first | omega | (simp; done) | (simp; omega)) | ((with_reducible refine Below.sc ?_ ?_); · first | omega | (simp; done) | (simp; omega)) | ((with_reducible refine Below.thru hb ?_ ?_); · first | omega | (simp; done) | (simp; omega))))⟩


end Go.Proofs.Ytjpkopnkfpgahaa
