import Derived.Test.YtjpkopnkfpgahaaQ5
import Derived.Test.YtjpkopnkfpgahaaQ6
import Derived.Test.YtjpkopnkfpgahaaTail
/- Actions renumbered: both walks. -/
namespace Go.Proofs.Ytjpkopnkfpgahaa
open Go.RowKit

/-- The numbers as cells. -/
def ic (xs : List Int) : Array Value := (xs.map (Value.int .i64)).toArray
theorem ic_size (xs : List Int) : (ic xs).size = xs.length := by simp [ic]
theorem ic_get {xs : List Int} {i : Nat} (h : i < xs.length) : (ic xs)[i]? = some (.int .i64 xs[i]) := by simp [ic, h]
theorem ic_set (xs : List Int) (i : Nat) (v : Int) : (ic xs).setIfInBounds i (.int .i64 v) = ic (xs.set i v) := by
  apply Array.toList_inj.1
  simp [ic, List.map_set]
theorem made_ic (n : Nat) : madeCells #[Value.int .i64 0] n = ic (List.replicate n 0) := by
  apply Array.ext
  · rw [size_madeCells, ic_size, List.length_replicate]
  · intro j h1 h2
    simp [madeCells, ic, Nat.mod_one]
theorem Own.of_ic {w : World} {B g : Nat} {xs : List Int} (h : Blk w g 2 (ic xs)) (hB : B ≤ g) (hl : xs.length ≤ maxLen) :
    Own w B (.slice (some ⟨g, 0, none⟩) xs.length xs.length) xs := Own.of_blk h hB (by simp [ic]) hl

/-- n numbers below n. -/
def ptsB (p : List Int) (n : Nat) : Prop := p.length = n ∧ ∀ a, a < n → p[a]? = some (fn p a : Int) ∧ fn p a < n
theorem permB.pts {p : List Int} {n : Nat} (h : permB p n) : ptsB p n := ⟨h.1, fun _ ha => ⟨fn_at h ha, fn_lt h ha⟩⟩
theorem pts_open {w : World} {s : Value} {S : List Int} {n : Nat} (h : SlIn w .i64 s S) (hS : ptsB S n) (hn : 0 < n) :
    ∃ sa sc, s = .slice (some sa) n sc ∧ ∀ a, a < n → w.cell? (sa.add a) = some (.int .i64 (fn S a : Int)) := by
  obtain ⟨sa, sc, rfl, ha⟩ := h.form
  have hl := hS.1
  obtain ⟨sa, rfl, hx⟩ := ha (by omega)
  refine ⟨sa, sc, by rw [hl], fun a h => ?_⟩
  have e := (hS.2 a h).1
  have hl2 : a < S.length := by omega
  rw [hx a hl2, (List.getElem?_eq_some_iff.1 e).2]

theorem keepC_drew {w : World} {a : Addr} {v : Option Value} (h : w.cell? a = v) : w.drew.cell? a = v := h
theorem keepF_drew {w : World} {a : Addr} {v : Bool} (h : w.frozen? a = v) : w.drew.frozen? a = v := h
theorem keepC_set {w : World} {a : Addr} {g i : Nat} {u : Value} {v : Option Value} (hn : a.block ≠ g) (h : w.cell? a = v) : (w.setCell ⟨g, i, none⟩ u).cell? a = v := by
  rw [← h]
  exact World.cell?_of_block (w := w) (Below.heap_setCell _ _ _ _ hn)
theorem keepF_set {w : World} {a p : Addr} {u : Value} {v : Bool} (h : w.frozen? a = v) : (w.setCell p u).frozen? a = v := by
  rw [← h]
  exact World.frozen?_setCell _ _ _ _

/-- The numbers of S renumbered by p, after k rounds. -/
def rnL (p S : List Int) (n : Nat) : Nat → List Int
  | 0 => List.replicate n 0
  | k + 1 => (rnL p S n k).set (fn p k) (fn p (fn S k) : Int)
theorem rnL_len (p S : List Int) (n k : Nat) : (rnL p S n k).length = n := by
  induction k with
  | zero => simp [rnL]
  | succ k ih => simp [rnL, ih]

end Go.Proofs.Ytjpkopnkfpgahaa

/- Actions renumbered by the reference: the walk. -/
namespace Go.Proofs.Ytjpkopnkfpgahaa
open Go.RowKit

theorem keepC_drewN {w : World} {a : Addr} {m : Nat} {v : Option Value} (h : w.cell? a = v) : (w.drewN m).cell? a = v := h
theorem keepF_drewN {w : World} {a : Addr} {m : Nat} {v : Bool} (h : w.frozen? a = v) : (w.drewN m).frozen? a = v := h

end Go.Proofs.Ytjpkopnkfpgahaa

/- Actions in the laws: marked and held. -/
namespace Go.Proofs.Ytjpkopnkfpgahaa
open Go.RowKit

/-- The row lies in the blocks from lo to hi. -/
def Rng (v : Value) (lo hi : Nat) : Prop := ∀ g, v.ownBlock = some g → lo ≤ g ∧ g < hi
theorem Own.rng {w : World} {B : Nat} {v : Value} {xs : List Int} (h : Own w B v xs) : Rng v B w.heap.size := fun _ hg => h.lt hg
theorem Rng.wide {v : Value} {lo hi lo' hi' : Nat} (h : Rng v lo hi) (h1 : lo' ≤ lo) (h2 : hi ≤ hi') : Rng v lo' hi' := fun g hg => by have := h g hg; omega
theorem Rng.ne {v : Value} {lo hi g : Nat} (h : Rng v lo hi) (hg : g < lo ∨ hi ≤ g) : v.ownBlock ≠ some g := fun e => by have := h g e; omega

/-- Of the old blocks only those from lo to hi may have changed. -/
structure Chg (lo hi : Nat) (w w' : World) : Prop where
  os : w'.os = w.os
  tape : w'.tape = w.tape
  output : w'.output = w.output
  size : w.heap.size ≤ w'.heap.size
  block : ∀ k, k < w.heap.size → (k < lo ∨ hi ≤ k) → w'.heap[k]? = w.heap[k]?
theorem Chg.of {w w' : World} {v : Value} {lo hi : Nat} (hg : w.grownBy w' v.ownBlock) (hr : Rng v lo hi) : Chg lo hi w w' :=
  ⟨hg.os, hg.tape, hg.output, hg.size, fun k hk hd => hg.block k hk fun e => hr.ne hd e.symm⟩
theorem Chg.ofBelow {w w' : World} {lo hi : Nat} (h : Below w.heap.size w w') : Chg lo hi w w' := ⟨h.os, h.tape, h.output, h.size, fun k hk _ => h.block k hk⟩
theorem Chg.trans {w w' w'' : World} {lo hi : Nat} (h : Chg lo hi w w') (k : Chg lo hi w' w'') : Chg lo hi w w'' :=
  ⟨k.os.trans h.os, k.tape.trans h.tape, k.output.trans h.output, Nat.le_trans h.size k.size, fun b hb hd => (k.block b (Nat.lt_of_lt_of_le hb h.size) hd).trans (h.block b hb hd)⟩
theorem Chg.own {w w' : World} {v : Value} {lo hi lo' hi' B : Nat} {xs : List Int} (hc : Chg lo hi w w') (hv : Rng v lo' hi') (hd : hi ≤ lo' ∨ hi' ≤ lo) (h : Own w B v xs) : Own w' B v xs :=
  h.same fun g hk => hc.block g (h.lt hk).2 (by have := hv g hk; omega)
theorem Chg.blk {w w' : World} {lo hi k : Nat} {F : TypeId} {cs : Array Value} (hc : Chg lo hi w w') (hk : k < lo ∨ hi ≤ k) (h : Blk w k F cs) : Blk w' k F cs := (hc.block k h.lt hk).trans h
theorem Chg.toBelow {W w w' : World} {B lo hi : Nat} (hc : Chg lo hi w w') (h : Below B W w) (hB : B ≤ lo) (hs : B ≤ w.heap.size) : Below B W w' :=
  h.trans ⟨hc.os, hc.tape, hc.output, hc.size, fun k hk => hc.block k (by omega) (.inl (by omega))⟩

/-- An action of the call's own in the blocks from lo to hi. -/
def OwnR (w : World) (lo hi : Nat) (s t : Value) (X : Act) : Prop := OwnA w lo s t X ∧ Rng s lo hi ∧ Rng t lo hi
theorem OwnA.toR {w : World} {B : Nat} {s t : Value} {X : Act} (h : OwnA w B s t X) : OwnR w B w.heap.size s t X := ⟨h, h.1.rng, h.2.1.rng⟩
theorem OwnR.below {w w' : World} {lo hi : Nat} {s t : Value} {X : Act} (h : OwnR w lo hi s t X) (hb : Below w.heap.size w w') : OwnR w' lo hi s t X := ⟨h.1.below hb, h.2⟩
theorem OwnR.chg {w w' : World} {lo hi lo' hi' : Nat} {s t : Value} {X : Act} (h : OwnR w lo hi s t X) (hc : Chg lo' hi' w w') (hd : hi ≤ lo' ∨ hi' ≤ lo) : OwnR w' lo hi s t X :=
  ⟨⟨hc.own h.2.1 (by omega) h.1.1, hc.own h.2.2 (by omega) h.1.2.1, h.1.2.2⟩, h.2⟩
theorem OwnR.sl {w : World} {lo hi : Nat} {s t : Value} {X : Act} (h : OwnR w lo hi s t X) : SlIn w .i64 s X.S ∧ SlIn w .i64 t X.T := h.1.sl



end Go.Proofs.Ytjpkopnkfpgahaa

/- RenumberAction: both. -/
namespace Go.Proofs.Ytjpkopnkfpgahaa
open Go.RowKit

def rnCode (S T p : List Int) : Int := if isA S T then (if permB p S.length then 0 else 2) else 1
def rnAct (S T p : List Int) : Act := if isA S T then (if permB p S.length then ⟨rnL p S S.length S.length, rnL p T S.length S.length⟩ else ⟨[], []⟩) else ⟨[], []⟩
/-- What RenumberAction gives. -/
def GivesRn (S T p : List Int) (w : World) (e : Ending) (w' : World) : Prop :=
  ∃ s' t', e = .returned (.tuple #[.agg #[s', t'], .int .i64 (rnCode S T p)]) ∧ OwnA w' w.heap.size s' t' (rnAct S T p) ∧ Below w.heap.size w w'
theorem OwnA.nil (w : World) (B : Nat) : OwnA w B (.slice none 0 0) (.slice none 0 0) ⟨[], []⟩ := ⟨Own.nil _ _, Own.nil _ _, fun g e => by cases e⟩
theorem OwnA.put {w : World} {B g i : Nat} {s t u : Value} {X : Act} (h : OwnA w B s t X) (hg : g < B) : OwnA (w.setCell ⟨g, i, none⟩ u) B s t X :=
  ⟨Own.put (fun e => by have := (h.1.lt e).1; omega) h.1, Own.put (fun e => by have := (h.2.1.lt e).1; omega) h.2.1, h.2.2⟩
theorem OwnA.mono {w : World} {B B' : Nat} {s t : Value} {X : Act} (h : OwnA w B s t X) (hB : B' ≤ B) : OwnA w B' s t X := ⟨h.1.mono hB, h.2.1.mono hB, h.2.2⟩

theorem rnAct_len (S T p : List Int) : (rnAct S T p).S.length ≤ 1048576 ∧ (rnAct S T p).T.length ≤ 1048576 := by
  unfold rnAct
  split
  · rename_i h
    have := (isA_spec h).1
    split
    · simp only [rnL_len]; omega
    · simp
  · simp
/-- What a function gives whose result is an action and a code. -/
def GivesAct (X Y : List Int) (c : Int) (w : World) (e : Ending) (w' : World) : Prop :=
  ∃ s' t', e = .returned (.tuple #[.agg #[s', t'], .int .i64 c]) ∧ OwnA w' w.heap.size s' t' ⟨X, Y⟩ ∧ Below w.heap.size w w'
end Go.Proofs.Ytjpkopnkfpgahaa
