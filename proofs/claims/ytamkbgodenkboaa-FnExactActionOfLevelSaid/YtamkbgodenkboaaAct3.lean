/- Actions in the laws: marked and held. -/
import Derived.Test.YtamkbgodenkboaaAct2
namespace Go.Proofs.Ytamkbgodenkboaa
open Go.RowKit

/-- The row lies in the blocks from lo to hi. -/
def Rng (v : Value) (lo hi : Nat) : Prop := ∀ g, v.ownBlock = some g → lo ≤ g ∧ g < hi
theorem Own.rng {w : World} {B : Nat} {v : Value} {xs : List Int} (h : Own w B v xs) : Rng v B w.heap.size := fun _ hg => h.lt hg
theorem Rng.wide {v : Value} {lo hi lo' hi' : Nat} (h : Rng v lo hi) (h1 : lo' ≤ lo) (h2 : hi ≤ hi') : Rng v lo' hi' := fun g hg => by have := h g hg; omega
theorem Rng.ne {v : Value} {lo hi g : Nat} (h : Rng v lo hi) (hg : g < lo ∨ hi ≤ g) : v.ownBlock ≠ some g := fun e => by have := h g e; omega

/-- Of the old blocks only those from lo to hi may have changed. -/
structure Chg (lo hi : Nat) (w w' : World) : Prop where
  os : w'.os = w.os
  tape : w'.tape = w.tape
  output : w'.output = w.output
  size : w.heap.size ≤ w'.heap.size
  block : ∀ k, k < w.heap.size → (k < lo ∨ hi ≤ k) → w'.heap[k]? = w.heap[k]?
theorem Chg.of {w w' : World} {v : Value} {lo hi : Nat} (hg : w.grownBy w' v.ownBlock) (hr : Rng v lo hi) : Chg lo hi w w' :=
  ⟨hg.os, hg.tape, hg.output, hg.size, fun k hk hd => hg.block k hk fun e => hr.ne hd e.symm⟩
theorem Chg.ofBelow {w w' : World} {lo hi : Nat} (h : Below w.heap.size w w') : Chg lo hi w w' := ⟨h.os, h.tape, h.output, h.size, fun k hk _ => h.block k hk⟩
theorem Chg.trans {w w' w'' : World} {lo hi : Nat} (h : Chg lo hi w w') (k : Chg lo hi w' w'') : Chg lo hi w w'' :=
  ⟨k.os.trans h.os, k.tape.trans h.tape, k.output.trans h.output, Nat.le_trans h.size k.size, fun b hb hd => (k.block b (Nat.lt_of_lt_of_le hb h.size) hd).trans (h.block b hb hd)⟩
theorem Chg.own {w w' : World} {v : Value} {lo hi lo' hi' B : Nat} {xs : List Int} (hc : Chg lo hi w w') (hv : Rng v lo' hi') (hd : hi ≤ lo' ∨ hi' ≤ lo) (h : Own w B v xs) : Own w' B v xs :=
  h.same fun g hk => hc.block g (h.lt hk).2 (by have := hv g hk; omega)
theorem Chg.blk {w w' : World} {lo hi k : Nat} {F : TypeId} {cs : Array Value} (hc : Chg lo hi w w') (hk : k < lo ∨ hi ≤ k) (h : Blk w k F cs) : Blk w' k F cs := (hc.block k h.lt hk).trans h
theorem Chg.toBelow {W w w' : World} {B lo hi : Nat} (hc : Chg lo hi w w') (h : Below B W w) (hB : B ≤ lo) (hs : B ≤ w.heap.size) : Below B W w' :=
  h.trans ⟨hc.os, hc.tape, hc.output, hc.size, fun k hk => hc.block k (by omega) (.inl (by omega))⟩

/-- An action of the call's own in the blocks from lo to hi. -/
def OwnR (w : World) (lo hi : Nat) (s t : Value) (X : Act) : Prop := OwnA w lo s t X ∧ Rng s lo hi ∧ Rng t lo hi
theorem OwnA.toR {w : World} {B : Nat} {s t : Value} {X : Act} (h : OwnA w B s t X) : OwnR w B w.heap.size s t X := ⟨h, h.1.rng, h.2.1.rng⟩
theorem OwnR.below {w w' : World} {lo hi : Nat} {s t : Value} {X : Act} (h : OwnR w lo hi s t X) (hb : Below w.heap.size w w') : OwnR w' lo hi s t X := ⟨h.1.below hb, h.2⟩
theorem OwnR.chg {w w' : World} {lo hi lo' hi' : Nat} {s t : Value} {X : Act} (h : OwnR w lo hi s t X) (hc : Chg lo' hi' w w') (hd : hi ≤ lo' ∨ hi' ≤ lo) : OwnR w' lo hi s t X :=
  ⟨⟨hc.own h.2.1 (by omega) h.1.1, hc.own h.2.2 (by omega) h.1.2.1, h.1.2.2⟩, h.2⟩
theorem OwnR.sl {w : World} {lo hi : Nat} {s t : Value} {X : Act} (h : OwnR w lo hi s t X) : SlIn w .i64 s X.S ∧ SlIn w .i64 t X.T := h.1.sl

set_option maxHeartbeats 1000000 in
theorem markAction_any (s t : Value) (S T : List Int) (lo hi : Nat) (k : Int) (w : World) (h : OwnR w lo hi s t ⟨S, T⟩) (hh : hi ≤ w.heap.size) (hl : S.length ≤ 1048576 ∧ T.length ≤ 1048576) (hk : 0 ≤ k ∧ k ≤ 100000000000000000) :
    Calls Try.prog 29 #[.agg #[s, t], .int .i64 k] w fun e w' => e = .returned (.int .i64 (k + S.length + T.length)) ∧ (OwnR w' lo hi s t ⟨runOf k S.length, runOf (k + S.length) T.length⟩ ∧ Chg lo hi w w') := by
  obtain ⟨⟨hs, ht, hd⟩, r1, r2⟩ := h
  obtain ⟨sa, sc, hsa, _⟩ := hs.slIn.form
  obtain ⟨ta, tc, hta, _⟩ := ht.slIn.form
  subst hsa hta
  have HD := Lib.hid hd
  have HK := Lib.hid hk
  have HL := Lib.hid hl
  clear hd hk hl
  go_enter Try.func29, Try.ntmps29
  go_wp2_with fail
  refine (markInt64S_any (.slice sa S.length sc) S lo k _ hs.alloc (by have := HL.out; omega) HK.out.1 (by have := HK.out; omega)).mono ?_
  rintro e w1 ⟨rfl, O1, hg, hz⟩
  have B1 : Blk w1 w.heap.size 27 #[.slice sa S.length sc, .slice ta T.length tc] := (Chg.of hg r1).blk (by omega) (Blk.new rfl)
  have C1 : Chg lo hi w w1 := (Chg.ofBelow ((Below.refl _ _).alloc (Nat.le_refl _) _)).trans (Chg.of hg r1)
  have T1 : Own w1 lo (.slice ta T.length tc) T := ht.alloc.same fun g hk => hg.block g (ht.alloc.lt hk).2 fun e => HD.out g e.symm hk
  have b1 := B1.p2
  have lB1 := B1.lt
  clear hg hs ht
  go_wp2_with fail
  refine (markInt64S_any (.slice ta T.length tc) T lo (k + S.length) _ T1 (by have := HL.out; omega) (by have := HK.out; omega) (by have := HK.out; have := HL.out; omega)).mono ?_
  rintro e w2 ⟨rfl, O2, hg, hz2⟩
  have C2 : Chg lo hi w w2 := C1.trans (Chg.of hg r2)
  have O3 : Own w2 lo (.slice sa S.length sc) (runOf k S.length) := O1.same fun g hk => hg.block g (O1.lt hk).2 fun e => HD.out g hk e.symm
  clear hg
  go_wp2
  go_ret
  exact ⟨rfl, ⟨⟨O3, O2, HD.out⟩, r1, r2⟩, C2⟩

set_option maxHeartbeats 1000000 in
theorem heldAction_any (s t : Value) (m n : Nat) (k : Int) (w : World) (h : SlIn w .i64 s (runOf k m) ∧ SlIn w .i64 t (runOf (k + m) n)) (hl : m ≤ 1048576 ∧ n ≤ 1048576) (hk : 0 ≤ k ∧ k ≤ 100000000000000000) :
    Calls Try.prog 31 #[.agg #[s, t], .int .i64 k] w fun e w' => e = .returned (.int .i64 (k + m + n)) ∧ Below w.heap.size w w' := by
  have HK := Lib.hid hk
  have HL := Lib.hid hl
  have HI := Lib.hid h
  have hk1 : 0 ≤ k + m := by omega
  have hk2 : 0 ≤ k + m + n := by omega
  clear hk hl h
  go_enter Try.func31, Try.ntmps31
  go_wp2_with fail
  refine (heldInt64S_any s m k _ (HI.out.1.below (by repeat (first | (with_reducible exact Below.refl _ _) | (with_reducible assumption) | (with_reducible refine Below.drew ?_) | (with_reducible refine Below.drewN ?_) | ((with_reducible refine Below.al ?_ ?_); · first | omega | (simp; done) | (simp; omega)) | ((with_reducible refine Below.sc ?_ ?_); · first | omega | (simp; done) | (simp; omega)) | ((with_reducible refine Below.thru hb ?_ ?_); · first | omega | (simp; done) | (simp; omega))))) (by have := HL.out; omega) HK.out.1 (by have := HK.out; omega)).mono ?_
  rintro e w1 ⟨rfl, rfl⟩
  go_wp2_with fail
  refine (heldInt64S_any t n (k + m) _ (HI.out.2.below (by repeat (first | (with_reducible exact Below.refl _ _) | (with_reducible assumption) | (with_reducible refine Below.drew ?_) | (with_reducible refine Below.drewN ?_) | ((with_reducible refine Below.al ?_ ?_); · first | omega | (simp; done) | (simp; omega)) | ((with_reducible refine Below.sc ?_ ?_); · first | omega | (simp; done) | (simp; omega)) | ((with_reducible refine Below.thru hb ?_ ?_); · first | omega | (simp; done) | (simp; omega))))) (by have := HL.out; omega) hk1 (by have := HK.out; have := HL.out; omega)).mono ?_
  rintro e w2 ⟨rfl, rfl⟩
  go_wp2
  go_ret
  exact ⟨rfl, (by repeat (first | (with_reducible exact Below.refl _ _) | (with_reducible assumption) | (with_reducible refine Below.drew ?_) | (with_reducible refine Below.drewN ?_) | ((with_reducible refine Below.al ?_ ?_); · first | omega | (simp; done) | (simp; omega)) | ((with_reducible refine Below.sc ?_ ?_); · first | omega | (simp; done) | (simp; omega)) | ((with_reducible refine Below.thru hb ?_ ?_); · first | omega | (simp; done) | (simp; omega))))⟩

end Go.Proofs.Ytamkbgodenkboaa
